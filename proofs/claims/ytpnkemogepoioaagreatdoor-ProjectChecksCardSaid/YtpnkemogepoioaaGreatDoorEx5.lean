/- A symbolic executor for the machine's code, part 5: literals and append, and that it is so. General over the program; no conditions beside those in each theorem. -/
import Derived.Test.YtpnkemogepoioaaGreatDoorEx4
import Derived.Laws.MakeOwn
namespace Go.Proofs.YtpnkemogepoioaaGreatDoorW.Ex
set_option linter.all false
open Go
variable {G:Nat→List AV} {P:Program} {w:World} {S F:Nat→Prop} {β:Nat→Nat} {n:Nat}
def CU (w:World) (S:Nat→Prop) (β:Nat→Nat) (n:Nat) (cs:List AV) (c:Array Value):Prop:=
 c.size=cs.length∧∀(i:Nat) (x:AV),cs[i]? =some x→RV w S β n x (c.getD i Go.undef)
theorem CU.cr {cs:List AV} {c:Array Value} (h:CU w S β n cs c) (h1:cs.all (·.one)=true):CR w S β n cs c:=
 ⟨h.1,fun i x hi=>⟨As.1 h1 x (Ah hi),h.2 i x hi⟩⟩
def Yu (place:Nat→Option (Nat × Nat)):List AV→List (Nat × AV)→Option (List AV)
 | cells, []=>some cells
 | cells,(i,x)::rest=>match place i,W4 x with
   | some (off,size),some xs=>if xs.length=size∧off+xs.length≤cells.length then Yu place (Zl cells off xs) rest else none
   | _,_=>none
theorem qu3 (off:Nat):∀(l:List Value) (k:Nat) (cs:Array Value),off+k+l.length≤cs.size→
 ((l.zipIdx k).foldl (fun (cs:Array Value) (x:Value × Nat)=>cs.setIfInBounds (off+x.2) x.1) cs).size=cs.size∧
 ∀ i,((l.zipIdx k).foldl (fun (cs:Array Value) (x:Value × Nat)=>cs.setIfInBounds (off+x.2) x.1) cs).getD i Go.undef=
   if off+k≤i∧i < off+k+l.length then (l[i - (off+k)]?).getD Go.undef else cs.getD i Go.undef
 | [],k,cs,_=>⟨rfl,fun i=>by simp only [Ao,BL];rw [if_neg (by omega)];rfl⟩
 | v ::l,k,cs,h=>by
   simp only [Af] at h
   have ih:=qu3 off l (k+1) (cs.setIfInBounds (off+k) v) (by simp only [B2];omega)
   simp only [List.zipIdx_cons,List.foldl_cons]
   refine ⟨by rw [ih.1,B2],fun i=> ?_⟩
   rw [ih.2 i]
   simp only [Af]
   by_cases h1:i=off+k
   ·subst h1
    rw [if_neg (by omega),if_pos (by omega),B3]
    simp only [Au,Bp]
    rw [Ag,Bw (by omega),Bp]
   by_cases h2:off+(k+1)≤i∧i < off+(k+1)+l.length
   ·rw [if_pos h2,if_pos (by omega)]
    rw [show i - (off+k)=(i - (off+(k+1)))+1 by omega,Ba]
   rw [if_neg h2,if_neg (by omega)]
   rw [Ag,B7 (by omega),←Ag]
theorem qnn {place:Nat→Option (Nat × Nat)}:∀(ps:List (Nat × AV)) (vs:List (Nat × Value)) (cs cs':List AV) (c:Array Value),
 ps.length=vs.length→(∀(i:Nat) (p:Nat × AV) (v:Nat × Value),ps[i]? =some p→vs[i]? =some v→p.1=v.1∧RV w S β n p.2 v.2)→CU w S β n cs c→Yu place cs ps=some cs'→∃c',Instr.fill place c vs=some c'∧CU w S β n cs' c'
 | [], [],cs,cs',c,_,_,hc,h=>by simp only [Yu,Ac] at h;subst h;exact ⟨c,rfl,hc⟩
 | [],_::_,_,_,_,hl,_,_,_=>by cases hl
 | _::_, [],_,_,_,hl,_,_,_=>by cases hl
 | (i, x)::ps,(i',v)::vs,cs,cs',c,hl,hp,hc,h=>by
   obtain ⟨h0,hx⟩:=hp 0 _ _ rfl rfl
   simp only at h0 hx
   subst h0
   simp only [Yu] at h
   split at h
   ·rename_i off size xs hpl hxs
    split at h
    ·rename_i hcond
     have hcr:=qmk hx hxs
     have hfold:=qu3 off v.cells.toList 0 c (by rw [Bc,hcr.1,hc.1];omega)
     have hstep:Instr.fill place c ((i,v)::vs)=Instr.fill place ((v.cells.toList.zipIdx 0).foldl (fun (cs:Array Value) (x:Value × Nat)=>cs.setIfInBounds (off+x.2) x.1) c) vs:=by
      simp only [Instr.fill,hpl]
      have h1:(decide (v.cells.size≠size) || decide (off+v.cells.size > c.size))=false:=by
       simp only [Bool.or_eq_false_iff,decide_eq_false_iff_not,ne_eq,Classical.not_not]
       rw [hcr.1,hc.1];exact ⟨hcond.1,by omega⟩
      rw [h1]
      simp only [Aq,if_false]
      congr 1
      rw [←Array.foldl_toList,Array.toList_zipIdx]
     rw [hstep]
     refine qnn ps vs _ cs' _ (by simpa using hl) (fun j p u hj hu=>hp (j+1) p u (by simpa using hj) (by simpa using hu)) ⟨?_,fun j y hj=> ?_⟩ h
     ·rw [hfold.1,hc.1,qe8 hcond.2]
     rw [hfold.2 j]
     simp only [Bc,BL,hcr.1]
     simp only [Zl,AH,Ad,Br,Bk,Bd] at hj
     rw [show min off cs.length=off by omega] at hj
     by_cases ha:j < off
     ·rw [if_neg (by omega)]
      simp only [show j < off+xs.length by omega,ha,if_true] at hj
      exact hc.2 j y hj
     by_cases hb:j < off+xs.length
     ·rw [if_pos (by omega)]
      simp only [hb,ha,if_true,if_false] at hj
      have:=(hcr.2 _ _ hj).2
      rwa [Ag,←Bj] at this
     rw [if_neg (by omega)]
     simp only [hb,if_false] at hj
     rw [show off+xs.length+(j - (off+xs.length))=j by omega] at hj
     exact hc.2 j y hj
    cases h
   cases h
def placesP (P:Program) (t:TypeId):Option (List (Nat × Nat)):=
 match P.underlying t with
 | some (.struct fs)=>fs.toList.mapM (fun f=>(P.info? f.type).map fun i=>(f.offset,i.size))
 | _=>none
def qk4 (P:Program) (t:TypeId) (ps:List (Nat × AV)):Option AV:=
 match zeroAV P t with
 | none=>none
 | some z=>match placesP P t with
   | some pl=>match Yu (pl[·]?) z ps with
     | some cs=>if cs.all (·.one)=true then some (.agg cs) else none
     | none=>none
   | none=>match arrP P t with
     | some (_,_,k)=>match Yu (fun i=>some (i*k,k)) z ps with
       | some cs=>if cs.all (·.one)=true then some (.agg cs) else none
       | none=>none
     | none=>none
theorem qz9 {t:TypeId} {cs:List AV} (h:zeroAV P t=some cs):∃i z,P.info? t=some i∧i.zero=some z∧CU w S β n cs z.cells:=by
 unfold zeroAV at h
 cases hi:P.info? t with
 | none=>simp [hi] at h
 | some i=>
   cases hz:i.zero with
   | none=>simp [hi,hz] at h
   | some z=>
     simp [hi,hz] at h
     refine ⟨i,z,rfl,hz,by rw [←h];simp,fun j x hj=> ?_⟩
     rw [←h] at hj
     simp only [Ar,Am] at hj
     obtain ⟨u,hu,rfl⟩:=hj
     rw [Bj] at hu
     rw [Ag,hu]
     exact q02 u
def PR (w:World) (S:Nat→Prop) (β:Nat→Nat) (n:Nat) (ps:List (Nat × AV)) (vs:Array (Nat × Value)):Prop:=
 ps.length=vs.toList.length∧∀(i:Nat) (p:Nat × AV) (v:Nat × Value),ps[i]? =some p→vs.toList[i]? =some v→p.1=v.1∧RV w S β n p.2 v.2
theorem q7k {t:TypeId} {ps:List (Nat × AV)} {vs:Array (Nat × Value)} {z:AV} (hp:PR w S β n ps vs) (h:qk4 P t ps=some z):
 ∃v',(Instr.build t vs).run P w= .ok v' w∧RV w S β n z v':=by
 have fin:∀(cs:List AV) (c:Array Value),P.built t vs.toList=some c→CU w S β n cs c→cs.all (·.one)=true→∃v',(Instr.build t vs).run P w= .ok v' w∧RV w S β n (.agg cs) v':=by
  intro cs c hb hc h1
  exact ⟨.agg c,run_build w t vs c hb, .agg cs c hc.1 (fun x hx=>As.1 h1 x hx) hc.2⟩
 unfold qk4 at h
 split at h
 ·cases h
 rename_i zs hz
 obtain ⟨it,z0,hit,hz0,hcu⟩:=qz9 (w:=w) (S:=S) (β:=β) (n:=n) hz
 split at h
 ·rename_i pl hpl
  split at h
  ·rename_i cs hf
   split at h
   ·rename_i h1
    simp only [Ac] at h;subst h
    obtain ⟨c,hc,hcu'⟩:=qnn ps vs.toList zs cs z0.cells hp.1 hp.2 hcu hf
    unfold placesP at hpl
    split at hpl
    ·rename_i fs hu
     refine fin cs c ?_ hcu' h1
     unfold Program.built
     simp only [hit,hu,hz0,hpl,Cd]
     exact hc
    cases hpl
   cases h
  cases h
 split at h
 ·rename_i len e k harr
  obtain ⟨hu,hk⟩:=qk5 harr
  split at h
  ·rename_i cs hf
   split at h
   ·rename_i h1
    simp only [Ac] at h;subst h
    obtain ⟨c,hc,hcu'⟩:=qnn ps vs.toList zs cs z0.cells hp.1 hp.2 hcu hf
    refine fin cs c ?_ hcu' h1
    unfold Program.built
    unfold szP at hk
    cases hie:P.info? e with
    | none=>simp [hie] at hk
    | some ie=>
      simp [hie] at hk
      simp only [hit,hu,hz0,hie,hk]
      exact hc
   cases h
  cases h
 cases h
def qhe (k:Nat):Nat→List AV→List (List AV)
 | 0,_=> []
 | m+1,cs=>cs.take k::qhe k m (cs.drop k)
theorem qva (k:Nat):∀(m:Nat) (cs:List AV),(qhe k m cs).length=m
 | 0,_=>rfl
 | m+1,cs=>by simp [qhe,qva k m]
theorem qvb (k:Nat):∀(m:Nat) (cs:List AV) (j:Nat) (c:List AV),(qhe k m cs)[j]? =some c→c=(cs.drop (j*k)).take k∧j < m
 | 0,_,j,c,h=>by simp [qhe] at h
 | m+1,cs,0,c,h=>by simp [qhe] at h;simp [h]
 | m+1,cs,j+1,c,h=>by
   simp only [qhe,Ba] at h
   obtain ⟨h1,h2⟩:=qvb k m _ j c h
   refine ⟨?_,by omega⟩
   rw [h1,BS,Bo,Nat.one_mul,Nat.add_comm]
theorem HR.fixed {H:Hp} (h:HR G w S F β H) {w':World} (os:w'.os=w.os) (tape:w'.tape=w.tape) (output:w'.output=w.output) (size:w.heap.size < w'.heap.size)
 (same:∀k,k < w.heap.size→w'.heap[k]? =w.heap[k]?):Ext w S F β H.n w' (fun k=>S k∨k=w.heap.size) β H.n∧HR G w' (fun k=>S k∨k=w.heap.size) F β H:=by
 have hx:Ext w S F β H.n w' (fun k=>S k∨k=w.heap.size) β H.n:=
  Ext.grew h.lts h.ltf os tape output (by omega) same (fun _ h=> .inl h) (fun k hk=>hk.imp id (fun e hF=>by have:=h.ltf k hF;omega)) _ (Ak _) _ (fun _ _=>rfl)
 refine ⟨hx,fun k hk=> ?_,fun k hk=>by have:=h.ltf k hk;omega,fun g=>(h.glob g).ext hx,h.ltn,h.inj,fun i s o hi=> ?_⟩
 ·rcases hk with hk | hk
  ·have:=h.lts k hk;omega
  omega
 have ho:=h.obj i s o hi
 have hb:(match o with | .dead=>False | .row _ cs=>cs≠ [] | _=>True)→β s < w.heap.size:=by
  intro hd
  cases o with
  | dead=>exact hd.elim
  | var t cs=>exact ho.lt rfl
  | row t cs=>exact ho.lt (qfg hd)
  | froz t cs=>obtain ⟨_,_,_,_,hS,_⟩:=ho;exact h.lts _ hS
 cases o with
 | dead=>trivial
 | row t cs=>
   intro hne
   have:=hb hne
   exact ho.to (o:= .row t cs) (fun _ _=>RV.ext hx) (same _ this) (fun hn h=>h.elim hn (by omega)) .inl (fun h=>h) hne
 | _=>
   have:=hb (by simp)
   exact ho.to (fun _ _=>RV.ext hx) (same _ this) (fun hn h=>h.elim hn (by omega)) .inl (fun h=>h)
def W5 (P:Program) (t:TypeId) (len:Nat) (ps:List (Nat × AV)):Option AV:=
 match elemP P t with
 | some (e,k)=>if len*k≤16777216∧0 < len*k∧(zeroAV P e).isSome=true then
    match Yu (fun i=>some (i*k,k)) (List.replicate (len*k) .undef) ps with
    | some cs=>if cs.all (·.one)=true∧cs.all (·.closed)=true then some (.sl k true (qhe k len cs)) else none
    | none=>none
   else none
 | none=>none
theorem qj7 (o:Array Value) (e:TypeId) (i:Nat):(w.alloc (.cells o e)).cell? ⟨w.heap.size,i,none⟩=o[i]? :=by
 simp only [World.cell?,heap_alloc_new]
 rfl
theorem qtm {H:Hp} (h:HR G w S F β H) {t:TypeId} {len:Nat} {ps:List (Nat × AV)} {vs:Array (Nat × Value)} {z:AV} (hp:PR w S β H.n ps vs) (hz:W5 P t len ps=some z):
 ∃v' w' S',(Instr.buildSlice t len vs).run P w= .ok v' w'∧Ext w S F β H.n w' S' β H.n∧HR G w' S' F β H∧RV w' S' β H.n z v':=by
 unfold W5 at hz
 split at hz
 ·rename_i e k he
  obtain ⟨hu,hk⟩:=Qs he
  split at hz
  ·rename_i hlim
   split at hz
   ·rename_i cs hf
    split at hz
    ·rename_i h1
     simp only [Ac] at hz;subst hz
     cases hie:P.info? e with
     | none=>simp [szP,hie] at hk
     | some ie=>
       simp [szP,hie] at hk
       subst hk
       obtain ⟨z0,hz0⟩:∃z0,ie.zero=some z0:=by
        have:=hlim.2.2
        unfold zeroAV at this
        simp only [hie,BB,Option.isSome_map] at this
        exact BK.1 this
       let init:Array Value:=(Array.range (len*ie.size)).map (z0.cells[· % z0.cells.size]!)
       have hcu0:CU w S β H.n (List.replicate (len*ie.size) .undef) init:=by
        refine ⟨by simp [init],fun i x hi=> ?_⟩
        have:=Ah hi
        rw [List.mem_replicate] at this
        rw [this.2]
        exact .undef _
       obtain ⟨c,hc,hcu⟩:=qnn ps vs.toList _ cs init hp.1 hp.2 hcu0 hf
       have hfx:=h.fixed (w':=w.alloc (.cells c e)) rfl rfl rfl (by show w.heap.size < (w.heap.push _).size;simp) (fun k hk=>heap_alloc_old w _ k hk)
       have hlen:cs.length=len*ie.size:=by
        have key:∀(ps:List (Nat × AV)) (a b:List AV),Yu (fun i=>some (i*ie.size,ie.size)) a ps=some b→b.length=a.length:=by
         intro ps
         induction ps with
         | nil=>intro a b h;simp only [Yu,Ac] at h;rw [h]
         | cons p ps ih=>
           intro a b h
           obtain ⟨i,x⟩:=p
           simp only [Yu] at h
           split at h
           ·split at h
            ·rename_i hh;rw [ih _ _ h,qe8 hh.2]
            cases h
           cases h
        simpa using key ps _ cs hf
       refine ⟨.slice (some ⟨w.heap.size,0,none⟩) len len,_,_,?_,hfx.1,hfx.2,?_⟩
       ·have hsm:¬len*ie.size > 2 ^ 24:=by have:=hlim.1;omega
        exact run_buildSlice w t e len vs c ie z0 hu hie hz0 hsm (by have:=hlim.2.1;omega) hc
       have hlc:=qva ie.size len cs
       have hch:=qvb ie.size len cs
       have hcl:∀(j:Nat) (d:List AV),(qhe ie.size len cs)[j]? =some d→d.length=ie.size:=by
        intro j d hj
        obtain ⟨rfl,hjl⟩:=hch j d hj
        simp only [Br,Bb,hlen]
        have:(j+1)*ie.size≤len*ie.size:=Cg _ hjl
        rw [Bo] at this
        omega
       have hcc:∀(j:Nat) (d:List AV) (i:Nat) (x:AV),(qhe ie.size len cs)[j]? =some d→d[i]? =some x→cs[j*ie.size+i]? =some x:=by
        intro j d i x hj hi
        obtain ⟨rfl,hjl⟩:=hch j d hj
        rw [Bk] at hi
        split at hi
        ·rwa [Bd] at hi
        cases hi
       have hbig:len≤9223372036854775807:=by
        have h0:0 < ie.size:=Nat.pos_of_ne_zero (by intro e;have:=hlim.2.1;rw [e] at this;omega)
        have:=hlim.1;have:=Nat.le_mul_of_pos_right len h0;omega
       have:=RV.sl (w:=w.alloc (.cells c e)) (S:=fun k=>S k∨k=w.heap.size) (β:=β) (n:=H.n) ie.size true (qhe ie.size len cs) (some ⟨w.heap.size,0,none⟩) len (fun j i=>c.getD (j*ie.size+i) Go.undef)
        (by omega) hbig (fun _=>hlc.symm) (fun _ a ha=>by simp only [Ac] at ha;subst ha;rfl) (fun _=>rfl) (fun b o hb _=>by simp only [Ac,Addr.mk.injEq] at hb;exact .inr hb.1.symm)
        (fun d hd=>by obtain ⟨j,hj⟩:=AF hd;exact hcl j d hj)
        (fun d hd x hx=>by
          obtain ⟨j,hj⟩:=AF hd
          obtain ⟨i,hi⟩:=AF hx
          exact As.1 h1.1 x (Ah (hcc j d i x hj hi)))
        (fun b o hb j d i x hj hi=>by
          simp only [Ac,Addr.mk.injEq] at hb
          obtain ⟨rfl,rfl,_⟩:=hb
          have hx:=hcc j d i x hj hi
          have hlt:=(Ai.1 hx).1
          rw [AO,qj7]
          exact Wi (by rw [hcu.1];exact hlt))
        (fun j d i x hj hi=>((hcu.2 _ x (hcc j d i x hj hi)).ext hfx.1).pure (yi x (As.1 h1.2 x (Ah (hcc j d i x hj hi)))))
       rw [hlc] at this
       exact this (fun _ h=>absurd h (by intro e;have h2:=hlim.2.1;rw [e] at h2;omega))
    cases hz
   cases hz
  cases hz
 cases hz
def qio (P:Program) (t:TypeId) (len:Nat) (ps:List (Nat × AV)):Option (TypeId × Nat × List AV):=
 match elemP P t with
 | some (e,k)=>if len*k≤16777216∧0 < len*k∧(zeroAV P e).isSome=true then
    match Yu (fun i=>some (i*k,k)) (List.replicate (len*k) .undef) ps with
    | some cs=>if cs.all (·.one)=true then some (e,k,cs) else none
    | none=>none
   else none
 | none=>none
theorem qzg {H:Hp} (h:HR G w S F β H) {t e:TypeId} {len k:Nat} {ps:List (Nat × AV)} {vs:Array (Nat × Value)} {cs:List AV} (hp:PR w S β H.n ps vs) (hz:qio P t len ps=some (e,k,cs)):
 ∃v' w' β',(Instr.buildSlice t len vs).run P w= .ok v' w'∧Ext w S F β H.n w' S β' (H.n+1)∧HR G w' S F β' (H.push (.row e cs))∧RV w' S β' (H.n+1) (.bs k H.objs.length H.n 0 len) v':=by
 unfold qio at hz
 split at hz
 ·rename_i e' k' he
  obtain ⟨hu,hk⟩:=Qs he
  split at hz
  ·rename_i hlim
   split at hz
   ·rename_i cs' hf
    split at hz
    ·rename_i h1
     simp only [Ac,Al] at hz;obtain ⟨rfl,rfl,rfl⟩:=hz
     cases hie:P.info? e' with
     | none=>simp [szP,hie] at hk
     | some ie=>
       simp [szP,hie] at hk
       subst hk
       obtain ⟨z0,hz0⟩:∃z0,ie.zero=some z0:=by
        have:=hlim.2.2
        unfold zeroAV at this
        simp only [hie,BB,Option.isSome_map] at this
        exact BK.1 this
       let init:Array Value:=(Array.range (len*ie.size)).map (z0.cells[· % z0.cells.size]!)
       have hcu0:CU w S β H.n (List.replicate (len*ie.size) .undef) init:=by
        refine ⟨by simp [init],fun i x hi=> ?_⟩
        have:=Ah hi
        rw [List.mem_replicate] at this
        rw [this.2]
        exact .undef _
       obtain ⟨c,hc,hcu⟩:=qnn ps vs.toList _ cs' init hp.1 hp.2 hcu0 hf
       have hlen:cs'.length=len*ie.size:=by
        have key:∀(ps:List (Nat × AV)) (a b:List AV),Yu (fun i=>some (i*ie.size,ie.size)) a ps=some b→b.length=a.length:=by
         intro ps
         induction ps with
         | nil=>intro a b h;simp only [Yu,Ac] at h;rw [h]
         | cons p ps ih=>
           intro a b h
           obtain ⟨i,x⟩:=p
           simp only [Yu] at h
           split at h
           ·split at h
            ·rename_i hh;rw [ih _ _ h,qe8 hh.2]
            cases h
           cases h
        simpa using key ps _ cs' hf
       have hg:=h.grew (w':=w.alloc (.cells c e')) (t:=e') rfl rfl rfl (fun k hk=>heap_alloc_old w _ k hk) (heap_alloc_new w _)
        (o:= .row e' cs') (.inr ⟨_,rfl,by rw [hcu.1];exact Ak _⟩) (fun i x hi=>⟨As.1 h1 x (Ah hi),hcu.2 i x hi⟩)
       refine ⟨.slice (some ⟨w.heap.size,0,none⟩) len len,_,_,?_,hg.1,hg.2,?_⟩
       ·have hsm:¬len*ie.size > 2 ^ 24:=by have:=hlim.1;omega
        exact run_buildSlice w t e' len vs c ie z0 hu hie hz0 hsm (by have:=hlim.2.1;omega) hc
       have h0:0 < ie.size:=Nat.pos_of_ne_zero (by intro e;have:=hlim.2.1;rw [e] at this;omega)
       have hbig:len≤9223372036854775807:=by
        have:=hlim.1;have:=Nat.le_mul_of_pos_right len h0;omega
       have hl0:0 < len:=Nat.pos_of_ne_zero (by intro e;have:=hlim.2.1;rw [e] at this;omega)
       have hsh:(w.alloc (.cells c e')).shape? w.heap.size=some (e',c.size):=by
        simp only [World.shape?,heap_alloc_new w]
       have:=RV.bs (w:=w.alloc (.cells c e')) (S:=S) (β:=fun s=>if s=H.n then w.heap.size else β s) (n:=H.n+1) ie.size H.objs.length H.n 0 len len c.size e' (by omega)
        (by simp only [if_true];exact hsh) (by rw [hcu.1,hlen];omega) (Ak _) hbig hl0
       simpa only [if_true] using this
    cases hz
   cases hz
  cases hz
 cases hz
def qky (P:Program) (t:TypeId) (x y:AV):Option (TypeId × Nat × List AV):=
 match x,y with
 | .int _ k, .int _ k'=>match elemP P t with
   | some (e,1)=>match ((P.info? e).map (·.bytes):Option Nat),zeroAV P e with
     | some b,some [z]=>if k=k'∧0≤k∧(b:Int)*k≤281474976710656∧k≤9223372036854775807∧z.one=true then some (e,k.toNat,List.replicate k.toNat z) else none
     | _,_=>none
   | _=>none
 | _,_=>none
theorem q04 {H:Hp} (h:HR G w S F β H) {t e:TypeId} {x y:AV} {v u:Value} {k:Nat} {cs:List AV} (hx:RV w S β H.n x v) (hy:RV w S β H.n y u) (hz:qky P t x y=some (e,k,cs)):
 ∃v' w' β',(Instr.makeSlice t v u).run P w= .ok v' w'∧Ext w S F β H.n w' S β' (H.n+1)∧HR G w' S F β' (H.push (.row e cs))∧RV w' S β' (H.n+1) (.bs 1 H.objs.length H.n 0 k) v':=by
 unfold qky at hz
 split at hz
 ·rename_i k1 j k2 j'
  cases hx;cases hy
  split at hz
  ·rename_i e' he
   obtain ⟨hu,hsz⟩:=Qs he
   split at hz
   ·rename_i b z hb hz0
    split at hz
    ·rename_i hc
     obtain ⟨rfl,h0,hlim,h63,h1⟩:=hc
     simp only [Ac,Al] at hz
     obtain ⟨rfl,rfl,rfl⟩:=hz
     cases hie:P.info? e' with
     | none=>simp [hie] at hb
     | some ie=>
       simp [hie] at hb
       subst hb
       simp [szP,hie] at hsz
       obtain ⟨z0,hz1⟩:∃z0,ie.zero=some z0:=by
        have:=hz0
        unfold zeroAV at this
        simp only [hie,BB,Am] at this
        obtain ⟨q,hq,_⟩:=this
        exact ⟨q,hq⟩
       obtain ⟨vz,hvz,hcr⟩:=qoj (P:=P) (w:=w) (S:=S) (β:=β) (n:=H.n) hz0 (by simp [h1])
       have hvz0:vz=z0:=by
        simp [zeroValue,typeInfo,hie,hz1] at hvz
        exact hvz.symm
       subst hvz0
       have hcs:vz.cells.size=1:=by simpa using hcr.1
       have hcell:=(hcr.2 0 z rfl).2
       have hrun:=run_make (P:=P) w t e' ie vz hu hie hz1 k1 k2 j j h0 (Int.le_refl _) hlim h63
       rw [hsz,Nat.mul_one] at hrun
       have hg:=h.grew (w':=w.alloc (.cells (madeCells vz.cells j.toNat) e')) (t:=e') rfl rfl rfl (fun k hk=>heap_alloc_old w _ k hk) (heap_alloc_new w _)
        (o := .row e' (List.replicate j.toNat z)) (.inr ⟨_,rfl,by simp [madeCells]⟩) (fun i x hi=>by
          replace hi:(List.replicate j.toNat z)[i]? =some x:=hi
          have hm:=Ah hi
          have hlt:=(Ai.1 hi).1
          simp only [Ce] at hlt
          rw [List.mem_replicate] at hm
          obtain ⟨_,rfl⟩:=hm
          refine ⟨h1,?_⟩
          have:(madeCells vz.cells j.toNat).getD i Go.undef=vz.cells.getD 0 Go.undef:=by
           have e0:vz.cells[0]! =vz.cells.getD 0 Go.undef:=by
            rw [Ag]
            simp [hcs]
           rw [Ag]
           simp [madeCells,hlt,hcs,Nat.mod_one,Ag]
          rw [this]
          exact hcell)
       refine ⟨_,_,_,hrun,hg.1,hg.2,?_⟩
       have hsh:(w.alloc (.cells (madeCells vz.cells j.toNat) e')).shape? w.heap.size=some (e',j.toNat):=by
        simp only [World.shape?,heap_alloc_new w,madeCells,Array.size_map,Array.size_range]
       by_cases hj:j.toNat=0
       ·rw [show RV (w.alloc (.cells (madeCells vz.cells j.toNat) e')) S (fun s=>if s=H.n then w.heap.size else β s) (H.n+1) (.bs 1 H.objs.length H.n 0 j.toNat)=RV (w.alloc (.cells (madeCells vz.cells j.toNat) e')) S (fun s=>if s=H.n then w.heap.size else β s) (H.n+1) (.bs 1 H.objs.length H.n 0 0) by rw [hj]]
        rw [show Value.slice (some ⟨w.heap.size,0,none⟩) j.toNat j.toNat=Value.slice (some ⟨w.heap.size,0,none⟩) 0 0 by rw [hj]]
        exact .bs0 1 _ _ 0 _ (by omega) (fun a ha=>by cases ha;rw [hsh];rfl)
       have:=RV.bs (w:=w.alloc (.cells (madeCells vz.cells j.toNat) e')) (S:=S) (β:=fun s=>if s=H.n then w.heap.size else β s) (n:=H.n+1) 1 H.objs.length H.n 0 j.toNat j.toNat j.toNat e' (by omega)
        (by simp only [if_true];exact hsh) (by omega) (Ak _) (by omega) (by omega)
       simpa only [if_true] using this
    cases hz
   cases hz
  cases hz
 cases hz
end Go.Proofs.YtpnkemogepoioaaGreatDoorW.Ex
