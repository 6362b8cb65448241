/- A symbolic executor for the machine's code, part 5: literals and append, and that it is so. General over the program; no conditions beside those in each theorem. A symbolic executor for the machine's code, part 6: append, and that it is so. General over the program; no conditions beside those in each theorem. -/
import Derived.Test.YtpnkemogepoioaaGreatDoorEx4
import Derived.Laws.MakeOwn
namespace Go.Proofs.YtpnkemogepoioaaGreatDoorW.Ex
set_option linter.all false
open Go
variable {G:Nat→List AV} {P:Program} {w:World} {S F:Nat→Prop} {β:Nat→Nat} {n:Nat}
def CU (w:World) (S:Nat→Prop) (β:Nat→Nat) (n:Nat) (cs:List AV) (c:Array Value):Prop:=
 c.size=cs.length∧∀(i:Nat) (x:AV),cs[i]? =some x→RV w S β n x (c.getD i Go.undef)
def Jv (place:Nat→Option (Nat × Nat)):List AV→List (Nat × AV)→Option (List AV)
 | cells, []=>some cells
 | cells,(i,x)::rest=>match place i,K1 x with
   | some (off,size),some xs=>if xs.length=size∧off+xs.length≤cells.length then Jv place (Qu cells off xs) rest else none
   | _,_=>none
theorem qsr (off:Nat):∀(l:List Value) (k:Nat) (cs:Array Value),off+k+l.length≤cs.size→
 ((l.zipIdx k).foldl (fun (cs:Array Value) (x:Value × Nat)=>cs.setIfInBounds (off+x.2) x.1) cs).size=cs.size∧
 ∀ i,((l.zipIdx k).foldl (fun (cs:Array Value) (x:Value × Nat)=>cs.setIfInBounds (off+x.2) x.1) cs).getD i Go.undef=
   if off+k≤i∧i < off+k+l.length then (l[i - (off+k)]?).getD Go.undef else cs.getD i Go.undef
 | [],k,cs,_=>⟨rfl,fun i=>by simp only [Ar,BJ];rw [if_neg (by omega)];rfl⟩
 | v ::l,k,cs,h=>by
   simp only [Ae] at h
   have ih:=qsr off l (k+1) (cs.setIfInBounds (off+k) v) (by simp only [B3];omega)
   simp only [List.zipIdx_cons,List.foldl_cons]
   refine ⟨by rw [ih.1,B3],fun i=> ?_⟩
   rw [ih.2 i]
   simp only [Ae]
   by_cases h1:i=off+k
   ·subst h1
    rw [if_neg (by omega),if_pos (by omega),Nat.sub_self]
    simp only [Aq,Bo]
    rw [Ag,Bq (by omega),Bo]
   by_cases h2:off+(k+1)≤i∧i < off+(k+1)+l.length
   ·rw [if_pos h2,if_pos (by omega)]
    rw [show i - (off+k)=(i - (off+(k+1)))+1 by omega,Bc]
   rw [if_neg h2,if_neg (by omega)]
   rw [Ag,B5 (by omega),←Ag]
theorem qk7 {place:Nat→Option (Nat × Nat)}:∀(ps:List (Nat × AV)) (vs:List (Nat × Value)) (cs cs':List AV) (c:Array Value),
 ps.length=vs.length→(∀(i:Nat) (p:Nat × AV) (v:Nat × Value),ps[i]? =some p→vs[i]? =some v→p.1=v.1∧RV w S β n p.2 v.2)→CU w S β n cs c→Jv place cs ps=some cs'→∃c',Instr.fill place c vs=some c'∧CU w S β n cs' c'
 | [], [],cs,cs',c,_,_,hc,h=>by simp only [Jv,Ab] at h;subst h;exact ⟨c,rfl,hc⟩
 | [],_::_,_,_,_,hl,_,_,_=>by cases hl
 | _::_, [],_,_,_,hl,_,_,_=>by cases hl
 | (i, x)::ps,(i',v)::vs,cs,cs',c,hl,hp,hc,h=>by
   obtain ⟨h0,hx⟩:=hp 0 _ _ rfl rfl
   simp only at h0 hx
   subst h0
   simp only [Jv] at h
   split at h
   ·rename_i off size xs hpl hxs
    split at h
    ·rename_i hcond
     have hcr:=qj5 hx hxs
     have hfold:=qsr off v.cells.toList 0 c (by rw [AY,hcr.1,hc.1];omega)
     have hstep:Instr.fill place c ((i,v)::vs)=Instr.fill place ((v.cells.toList.zipIdx 0).foldl (fun (cs:Array Value) (x:Value × Nat)=>cs.setIfInBounds (off+x.2) x.1) c) vs:=by
      simp only [Instr.fill,hpl]
      have h1:(decide (v.cells.size≠size) || decide (off+v.cells.size > c.size))=false:=by
       simp only [Bool.or_eq_false_iff,decide_eq_false_iff_not,ne_eq,Classical.not_not]
       rw [hcr.1,hc.1];exact ⟨hcond.1,by omega⟩
      rw [h1]
      simp only [AA,if_false]
      congr 1
      rw [←Array.foldl_toList,Array.toList_zipIdx]
     rw [hstep]
     refine qk7 ps vs _ cs' _ (by simpa using hl) (fun j p u hj hu=>hp (j+1) p u (by simpa using hj) (by simpa using hu)) ⟨?_,fun j y hj=> ?_⟩ h
     ·rw [hfold.1,hc.1,qdk hcond.2]
     rw [hfold.2 j]
     simp only [AY,BJ,hcr.1]
     simp only [Qu,AH,Ad,Bs,Bl,Bg] at hj
     rw [show min off cs.length=off by omega] at hj
     by_cases ha:j < off
     ·rw [if_neg (by omega)]
      simp only [show j < off+xs.length by omega,ha,if_true] at hj
      exact hc.2 j y hj
     by_cases hb:j < off+xs.length
     ·rw [if_pos (by omega)]
      simp only [hb,ha,if_true,if_false] at hj
      have:=(hcr.2 _ _ hj).2
      rwa [Ag,←Bk] at this
     rw [if_neg (by omega)]
     simp only [hb,if_false] at hj
     rw [show off+xs.length+(j - (off+xs.length))=j by omega] at hj
     exact hc.2 j y hj
    cases h
   cases h
def placesP (P:Program) (t:TypeId):Option (List (Nat × Nat)):=
 match P.underlying t with
 | some (.struct fs)=>fs.toList.mapM (fun f=>(P.info? f.type).map fun i=>(f.offset,i.size))
 | _=>none
def qiu (P:Program) (t:TypeId) (ps:List (Nat × AV)):Option AV:=
 match zeroAV P t with
 | none=>none
 | some z=>match placesP P t with
   | some pl=>match Jv (pl[·]?) z ps with
     | some cs=>if cs.all (·.one)=true then some (.agg cs) else none
     | none=>none
   | none=>match arrP P t with
     | some (_,_,k)=>match Jv (fun i=>some (i*k,k)) z ps with
       | some cs=>if cs.all (·.one)=true then some (.agg cs) else none
       | none=>none
     | none=>none
theorem qxo {t:TypeId} {cs:List AV} (h:zeroAV P t=some cs):∃i z,P.info? t=some i∧i.zero=some z∧CU w S β n cs z.cells:=by
 unfold zeroAV at h
 cases hi:P.info? t with
 | none=>simp [hi] at h
 | some i=>
   cases hz:i.zero with
   | none=>simp [hi,hz] at h
   | some z=>
     simp [hi,hz] at h
     refine ⟨i,z,rfl,hz,by rw [←h];simp,fun j x hj=> ?_⟩
     rw [←h] at hj
     simp only [Av,Am] at hj
     obtain ⟨u,hu,rfl⟩:=hj
     rw [Bk] at hu
     rw [Ag,hu]
     exact qyf u
def PR (w:World) (S:Nat→Prop) (β:Nat→Nat) (n:Nat) (ps:List (Nat × AV)) (vs:Array (Nat × Value)):Prop:=
 ps.length=vs.toList.length∧∀(i:Nat) (p:Nat × AV) (v:Nat × Value),ps[i]? =some p→vs.toList[i]? =some v→p.1=v.1∧RV w S β n p.2 v.2
theorem q5j {t:TypeId} {ps:List (Nat × AV)} {vs:Array (Nat × Value)} {z:AV} (hp:PR w S β n ps vs) (h:qiu P t ps=some z):
 ∃v',(Instr.build t vs).run P w= .ok v' w∧RV w S β n z v':=by
 have fin:∀(cs:List AV) (c:Array Value),P.built t vs.toList=some c→CU w S β n cs c→cs.all (·.one)=true→∃v',(Instr.build t vs).run P w= .ok v' w∧RV w S β n (.agg cs) v':=by
  intro cs c hb hc h1
  exact ⟨.agg c,run_build w t vs c hb, .agg cs c hc.1 (fun x hx=>Aw.1 h1 x hx) hc.2⟩
 unfold qiu at h
 split at h
 ·cases h
 rename_i zs hz
 obtain ⟨it,z0,hit,hz0,hcu⟩:=qxo (w:=w) (S:=S) (β:=β) (n:=n) hz
 split at h
 ·rename_i pl hpl
  split at h
  ·rename_i cs hf
   split at h
   ·rename_i h1
    simp only [Ab] at h;subst h
    obtain ⟨c,hc,hcu'⟩:=qk7 ps vs.toList zs cs z0.cells hp.1 hp.2 hcu hf
    unfold placesP at hpl
    split at hpl
    ·rename_i fs hu
     refine fin cs c ?_ hcu' h1
     unfold Program.built
     simp only [hit,hu,hz0,hpl,Cc]
     exact hc
    cases hpl
   cases h
  cases h
 split at h
 ·rename_i len e k harr
  obtain ⟨hu,hk⟩:=qiv harr
  split at h
  ·rename_i cs hf
   split at h
   ·rename_i h1
    simp only [Ab] at h;subst h
    obtain ⟨c,hc,hcu'⟩:=qk7 ps vs.toList zs cs z0.cells hp.1 hp.2 hcu hf
    refine fin cs c ?_ hcu' h1
    unfold Program.built
    unfold szP at hk
    cases hie:P.info? e with
    | none=>simp [hie] at hk
    | some ie=>
      simp [hie] at hk
      simp only [hit,hu,hz0,hie,hk]
      exact hc
   cases h
  cases h
 cases h
def qfi (k:Nat):Nat→List AV→List (List AV)
 | 0,_=> []
 | m+1,cs=>cs.take k::qfi k m (cs.drop k)
theorem qsz (k:Nat):∀(m:Nat) (cs:List AV),(qfi k m cs).length=m
 | 0,_=>rfl
 | m+1,cs=>by simp [qfi,qsz k m]
theorem qs0 (k:Nat):∀(m:Nat) (cs:List AV) (j:Nat) (c:List AV),(qfi k m cs)[j]? =some c→c=(cs.drop (j*k)).take k∧j < m
 | 0,_,j,c,h=>by simp [qfi] at h
 | m+1,cs,0,c,h=>by simp [qfi] at h;simp [h]
 | m+1,cs,j+1,c,h=>by
   simp only [qfi,Bc] at h
   obtain ⟨h1,h2⟩:=qs0 k m _ j c h
   refine ⟨?_,by omega⟩
   rw [h1,List.drop_drop,Bn,Nat.one_mul,Nat.add_comm]
theorem HR.fixed {H:Hp} (h:HR G w S F β H) {w':World} (os:w'.os=w.os) (tape:w'.tape=w.tape) (output:w'.output=w.output) (size:w.heap.size < w'.heap.size)
 (same:∀k,k < w.heap.size→w'.heap[k]? =w.heap[k]?):Ext w S F β H.n w' (fun k=>S k∨k=w.heap.size) β H.n∧HR G w' (fun k=>S k∨k=w.heap.size) F β H:=by
 have hx:Ext w S F β H.n w' (fun k=>S k∨k=w.heap.size) β H.n:=
  Ext.grew h.lts h.ltf os tape output (by omega) same (fun _ h=> .inl h) (fun k hk=>hk.imp id (fun e hF=>by have:=h.ltf k hF;omega)) _ (Aj _) _ (fun _ _=>rfl)
 refine ⟨hx,fun k hk=> ?_,fun k hk=>by have:=h.ltf k hk;omega,fun g=>(h.glob g).ext hx,h.ltn,h.inj,fun i s o hi=> ?_⟩
 ·rcases hk with hk | hk
  ·have:=h.lts k hk;omega
  omega
 have ho:=h.obj i s o hi
 have hb:(match o with | .dead=>False | .row _ cs=>cs≠ [] | _=>True)→β s < w.heap.size:=by
  intro hd
  cases o with
  | dead=>exact hd.elim
  | var t cs=>exact ho.lt rfl
  | row t cs=>exact ho.lt (qb1 hd)
  | froz t cs=>obtain ⟨_,_,_,_,hS,_⟩:=ho;exact h.lts _ hS
 cases o with
 | dead=>trivial
 | row t cs=>
   intro hne
   have:=hb hne
   exact ho.to (o:= .row t cs) (fun _ _=>RV.ext hx) (same _ this) (fun hn h=>h.elim hn (by omega)) .inl (fun h=>h) hne
 | _=>
   have:=hb (by simp)
   exact ho.to (fun _ _=>RV.ext hx) (same _ this) (fun hn h=>h.elim hn (by omega)) .inl (fun h=>h)
def K2 (P:Program) (t:TypeId) (len:Nat) (ps:List (Nat × AV)):Option AV:=
 match elemP P t with
 | some (e,k)=>if len*k≤16777216∧0 < len*k∧(zeroAV P e).isSome=true then
    match Jv (fun i=>some (i*k,k)) (List.replicate (len*k) .undef) ps with
    | some cs=>if cs.all (·.one)=true∧cs.all (·.closed)=true then some (.sl k true (qfi k len cs)) else none
    | none=>none
   else none
 | none=>none
theorem qhz (o:Array Value) (e:TypeId) (i:Nat):(w.alloc (.cells o e)).cell? ⟨w.heap.size,i,none⟩=o[i]? :=by
 simp only [World.cell?,heap_alloc_new]
 rfl
theorem qrg {H:Hp} (h:HR G w S F β H) {t:TypeId} {len:Nat} {ps:List (Nat × AV)} {vs:Array (Nat × Value)} {z:AV} (hp:PR w S β H.n ps vs) (hz:K2 P t len ps=some z):
 ∃v' w' S',(Instr.buildSlice t len vs).run P w= .ok v' w'∧Ext w S F β H.n w' S' β H.n∧HR G w' S' F β H∧RV w' S' β H.n z v':=by
 unfold K2 at hz
 split at hz
 ·rename_i e k he
  obtain ⟨hu,hk⟩:=Qh he
  split at hz
  ·rename_i hlim
   split at hz
   ·rename_i cs hf
    split at hz
    ·rename_i h1
     simp only [Ab] at hz;subst hz
     cases hie:P.info? e with
     | none=>simp [szP,hie] at hk
     | some ie=>
       simp [szP,hie] at hk
       subst hk
       obtain ⟨z0,hz0⟩:∃z0,ie.zero=some z0:=by
        have:=hlim.2.2
        unfold zeroAV at this
        simp only [hie,Bt,Option.isSome_map] at this
        exact BE.1 this
       let init:Array Value:=(Array.range (len*ie.size)).map (z0.cells[· % z0.cells.size]!)
       have hcu0:CU w S β H.n (List.replicate (len*ie.size) .undef) init:=by
        refine ⟨by simp [init],fun i x hi=> ?_⟩
        have:=Af hi
        rw [List.mem_replicate] at this
        rw [this.2]
        exact .undef _
       obtain ⟨c,hc,hcu⟩:=qk7 ps vs.toList _ cs init hp.1 hp.2 hcu0 hf
       have hfx:=h.fixed (w':=w.alloc (.cells c e)) rfl rfl rfl (by show w.heap.size < (w.heap.push _).size;simp) (fun k hk=>heap_alloc_old w _ k hk)
       have hlen:cs.length=len*ie.size:=by
        have key:∀(ps:List (Nat × AV)) (a b:List AV),Jv (fun i=>some (i*ie.size,ie.size)) a ps=some b→b.length=a.length:=by
         intro ps
         induction ps with
         | nil=>intro a b h;simp only [Jv,Ab] at h;rw [h]
         | cons p ps ih=>
           intro a b h
           obtain ⟨i,x⟩:=p
           simp only [Jv] at h
           split at h
           ·split at h
            ·rename_i hh;rw [ih _ _ h,qdk hh.2]
            cases h
           cases h
        simpa using key ps _ cs hf
       refine ⟨.slice (some ⟨w.heap.size,0,none⟩) len len,_,_,?_,hfx.1,hfx.2,?_⟩
       ·have hsm:¬len*ie.size > 2 ^ 24:=by have:=hlim.1;omega
        exact run_buildSlice w t e len vs c ie z0 hu hie hz0 hsm (by have:=hlim.2.1;omega) hc
       have hlc:=qsz ie.size len cs
       have hch:=qs0 ie.size len cs
       have hcl:∀(j:Nat) (d:List AV),(qfi ie.size len cs)[j]? =some d→d.length=ie.size:=by
        intro j d hj
        obtain ⟨rfl,hjl⟩:=hch j d hj
        simp only [Bs,BH,hlen]
        have:(j+1)*ie.size≤len*ie.size:=Cg _ hjl
        rw [Bn] at this
        omega
       have hcc:∀(j:Nat) (d:List AV) (i:Nat) (x:AV),(qfi ie.size len cs)[j]? =some d→d[i]? =some x→cs[j*ie.size+i]? =some x:=by
        intro j d i x hj hi
        obtain ⟨rfl,hjl⟩:=hch j d hj
        rw [Bl] at hi
        split at hi
        ·rwa [Bg] at hi
        cases hi
       have hbig:len≤9223372036854775807:=by
        have h0:0 < ie.size:=Nat.pos_of_ne_zero (by intro e;have:=hlim.2.1;rw [e] at this;omega)
        have:=hlim.1;have:=Nat.le_mul_of_pos_right len h0;omega
       have:=RV.sl (w:=w.alloc (.cells c e)) (S:=fun k=>S k∨k=w.heap.size) (β:=β) (n:=H.n) ie.size true (qfi ie.size len cs) (some ⟨w.heap.size,0,none⟩) len (fun j i=>c.getD (j*ie.size+i) Go.undef)
        (by omega) hbig (fun _=>hlc.symm) (fun _ a ha=>by simp only [Ab] at ha;subst ha;rfl) (fun _=>rfl) (fun b o hb _=>by simp only [Ab,Addr.mk.injEq] at hb;exact .inr hb.1.symm)
        (fun d hd=>by obtain ⟨j,hj⟩:=AB hd;exact hcl j d hj)
        (fun d hd x hx=>by
          obtain ⟨j,hj⟩:=AB hd
          obtain ⟨i,hi⟩:=AB hx
          exact Aw.1 h1.1 x (Af (hcc j d i x hj hi)))
        (fun b o hb j d i x hj hi=>by
          simp only [Ab,Addr.mk.injEq] at hb
          obtain ⟨rfl,rfl,_⟩:=hb
          have hx:=hcc j d i x hj hi
          have hlt:=(Ah.1 hx).1
          rw [AN,qhz]
          exact Kd (by rw [hcu.1];exact hlt))
        (fun j d i x hj hi=>((hcu.2 _ x (hcc j d i x hj hi)).ext hfx.1).pure (j9 x (Aw.1 h1.2 x (Af (hcc j d i x hj hi)))))
       rw [hlc] at this
       exact this (fun _ h=>absurd h (by intro e;have h2:=hlim.2.1;rw [e] at h2;omega))
    cases hz
   cases hz
  cases hz
 cases hz
def qgk (P:Program) (t:TypeId) (len:Nat) (ps:List (Nat × AV)):Option (TypeId × Nat × List AV):=
 match elemP P t with
 | some (e,k)=>if len*k≤16777216∧0 < len*k∧(zeroAV P e).isSome=true then
    match Jv (fun i=>some (i*k,k)) (List.replicate (len*k) .undef) ps with
    | some cs=>if cs.all (·.one)=true then some (e,k,cs) else none
    | none=>none
   else none
 | none=>none
theorem qxa {H:Hp} (h:HR G w S F β H) {t e:TypeId} {len k:Nat} {ps:List (Nat × AV)} {vs:Array (Nat × Value)} {cs:List AV} (hp:PR w S β H.n ps vs) (hz:qgk P t len ps=some (e,k,cs)):
 ∃v' w' β',(Instr.buildSlice t len vs).run P w= .ok v' w'∧Ext w S F β H.n w' S β' (H.n+1)∧HR G w' S F β' (H.push (.row e cs))∧RV w' S β' (H.n+1) (.bs k H.objs.length H.n 0 len) v':=by
 unfold qgk at hz
 split at hz
 ·rename_i e' k' he
  obtain ⟨hu,hk⟩:=Qh he
  split at hz
  ·rename_i hlim
   split at hz
   ·rename_i cs' hf
    split at hz
    ·rename_i h1
     simp only [Ab,Al] at hz;obtain ⟨rfl,rfl,rfl⟩:=hz
     cases hie:P.info? e' with
     | none=>simp [szP,hie] at hk
     | some ie=>
       simp [szP,hie] at hk
       subst hk
       obtain ⟨z0,hz0⟩:∃z0,ie.zero=some z0:=by
        have:=hlim.2.2
        unfold zeroAV at this
        simp only [hie,Bt,Option.isSome_map] at this
        exact BE.1 this
       let init:Array Value:=(Array.range (len*ie.size)).map (z0.cells[· % z0.cells.size]!)
       have hcu0:CU w S β H.n (List.replicate (len*ie.size) .undef) init:=by
        refine ⟨by simp [init],fun i x hi=> ?_⟩
        have:=Af hi
        rw [List.mem_replicate] at this
        rw [this.2]
        exact .undef _
       obtain ⟨c,hc,hcu⟩:=qk7 ps vs.toList _ cs' init hp.1 hp.2 hcu0 hf
       have hlen:cs'.length=len*ie.size:=by
        have key:∀(ps:List (Nat × AV)) (a b:List AV),Jv (fun i=>some (i*ie.size,ie.size)) a ps=some b→b.length=a.length:=by
         intro ps
         induction ps with
         | nil=>intro a b h;simp only [Jv,Ab] at h;rw [h]
         | cons p ps ih=>
           intro a b h
           obtain ⟨i,x⟩:=p
           simp only [Jv] at h
           split at h
           ·split at h
            ·rename_i hh;rw [ih _ _ h,qdk hh.2]
            cases h
           cases h
        simpa using key ps _ cs' hf
       have hg:=h.grew (w':=w.alloc (.cells c e')) (t:=e') rfl rfl rfl (fun k hk=>heap_alloc_old w _ k hk) (heap_alloc_new w _)
        (o:= .row e' cs') (.inr ⟨_,rfl,by rw [hcu.1];exact Aj _⟩) (fun i x hi=>⟨Aw.1 h1 x (Af hi),hcu.2 i x hi⟩)
       refine ⟨.slice (some ⟨w.heap.size,0,none⟩) len len,_,_,?_,hg.1,hg.2,?_⟩
       ·have hsm:¬len*ie.size > 2 ^ 24:=by have:=hlim.1;omega
        exact run_buildSlice w t e' len vs c ie z0 hu hie hz0 hsm (by have:=hlim.2.1;omega) hc
       have h0:0 < ie.size:=Nat.pos_of_ne_zero (by intro e;have:=hlim.2.1;rw [e] at this;omega)
       have hbig:len≤9223372036854775807:=by
        have:=hlim.1;have:=Nat.le_mul_of_pos_right len h0;omega
       have hl0:0 < len:=Nat.pos_of_ne_zero (by intro e;have:=hlim.2.1;rw [e] at this;omega)
       have hsh:(w.alloc (.cells c e')).shape? w.heap.size=some (e',c.size):=by
        simp only [World.shape?,heap_alloc_new w]
       have:=RV.bs (w:=w.alloc (.cells c e')) (S:=S) (β:=fun s=>if s=H.n then w.heap.size else β s) (n:=H.n+1) ie.size H.objs.length H.n 0 len len c.size e' (by omega)
        (by simp only [if_true];exact hsh) (by rw [hcu.1,hlen];omega) (Aj _) hbig hl0
       simpa only [if_true] using this
    cases hz
   cases hz
  cases hz
 cases hz
def qim (P:Program) (t:TypeId) (x y:AV):Option (TypeId × Nat × List AV):=
 match x,y with
 | .int _ k, .int _ k'=>match elemP P t with
   | some (e,1)=>match ((P.info? e).map (·.bytes):Option Nat),zeroAV P e with
     | some b,some [z]=>if k=k'∧0≤k∧(b:Int)*k≤281474976710656∧k≤9223372036854775807∧z.one=true then some (e,k.toNat,List.replicate k.toNat z) else none
     | _,_=>none
   | _=>none
 | _,_=>none
theorem qyh {H:Hp} (h:HR G w S F β H) {t e:TypeId} {x y:AV} {v u:Value} {k:Nat} {cs:List AV} (hx:RV w S β H.n x v) (hy:RV w S β H.n y u) (hz:qim P t x y=some (e,k,cs)):
 ∃v' w' β',(Instr.makeSlice t v u).run P w= .ok v' w'∧Ext w S F β H.n w' S β' (H.n+1)∧HR G w' S F β' (H.push (.row e cs))∧RV w' S β' (H.n+1) (.bs 1 H.objs.length H.n 0 k) v':=by
 unfold qim at hz
 split at hz
 ·rename_i k1 j k2 j'
  cases hx;cases hy
  split at hz
  ·rename_i e' he
   obtain ⟨hu,hsz⟩:=Qh he
   split at hz
   ·rename_i b z hb hz0
    split at hz
    ·rename_i hc
     obtain ⟨rfl,h0,hlim,h63,h1⟩:=hc
     simp only [Ab,Al] at hz
     obtain ⟨rfl,rfl,rfl⟩:=hz
     cases hie:P.info? e' with
     | none=>simp [hie] at hb
     | some ie=>
       simp [hie] at hb
       subst hb
       simp [szP,hie] at hsz
       obtain ⟨z0,hz1⟩:∃z0,ie.zero=some z0:=by
        have:=hz0
        unfold zeroAV at this
        simp only [hie,Bt,Am] at this
        obtain ⟨q,hq,_⟩:=this
        exact ⟨q,hq⟩
       obtain ⟨vz,hvz,hcr⟩:=qlz (P:=P) (w:=w) (S:=S) (β:=β) (n:=H.n) hz0 (by simp [h1])
       have hvz0:vz=z0:=by
        simp [zeroValue,typeInfo,hie,hz1] at hvz
        exact hvz.symm
       subst hvz0
       have hcs:vz.cells.size=1:=by simpa using hcr.1
       have hcell:=(hcr.2 0 z rfl).2
       have hrun:=run_make (P:=P) w t e' ie vz hu hie hz1 k1 k2 j j h0 (Int.le_refl _) hlim h63
       rw [hsz,Nat.mul_one] at hrun
       have hg:=h.grew (w':=w.alloc (.cells (madeCells vz.cells j.toNat) e')) (t:=e') rfl rfl rfl (fun k hk=>heap_alloc_old w _ k hk) (heap_alloc_new w _)
        (o := .row e' (List.replicate j.toNat z)) (.inr ⟨_,rfl,by simp [madeCells]⟩) (fun i x hi=>by
          replace hi:(List.replicate j.toNat z)[i]? =some x:=hi
          have hm:=Af hi
          have hlt:=(Ah.1 hi).1
          simp only [BX] at hlt
          rw [List.mem_replicate] at hm
          obtain ⟨_,rfl⟩:=hm
          refine ⟨h1,?_⟩
          have:(madeCells vz.cells j.toNat).getD i Go.undef=vz.cells.getD 0 Go.undef:=by
           have e0:vz.cells[0]! =vz.cells.getD 0 Go.undef:=by
            rw [Ag]
            simp [hcs]
           rw [Ag]
           simp [madeCells,hlt,hcs,Nat.mod_one,Ag]
          rw [this]
          exact hcell)
       refine ⟨_,_,_,hrun,hg.1,hg.2,?_⟩
       have hsh:(w.alloc (.cells (madeCells vz.cells j.toNat) e')).shape? w.heap.size=some (e',j.toNat):=by
        simp only [World.shape?,heap_alloc_new w,madeCells,Array.size_map,Array.size_range]
       by_cases hj:j.toNat=0
       ·rw [show RV (w.alloc (.cells (madeCells vz.cells j.toNat) e')) S (fun s=>if s=H.n then w.heap.size else β s) (H.n+1) (.bs 1 H.objs.length H.n 0 j.toNat)=RV (w.alloc (.cells (madeCells vz.cells j.toNat) e')) S (fun s=>if s=H.n then w.heap.size else β s) (H.n+1) (.bs 1 H.objs.length H.n 0 0) by rw [hj]]
        rw [show Value.slice (some ⟨w.heap.size,0,none⟩) j.toNat j.toNat=Value.slice (some ⟨w.heap.size,0,none⟩) 0 0 by rw [hj]]
        exact .bs0 1 _ _ 0 _ (by omega) (fun a ha=>by cases ha;rw [hsh];rfl)
       have:=RV.bs (w:=w.alloc (.cells (madeCells vz.cells j.toNat) e')) (S:=S) (β:=fun s=>if s=H.n then w.heap.size else β s) (n:=H.n+1) 1 H.objs.length H.n 0 j.toNat j.toNat j.toNat e' (by omega)
        (by simp only [if_true];exact hsh) (by omega) (Aj _) (by omega) (by omega)
       simpa only [if_true] using this
    cases hz
   cases hz
  cases hz
 cases hz
end Go.Proofs.YtpnkemogepoioaaGreatDoorW.Ex

namespace Go.Proofs.YtpnkemogepoioaaGreatDoorW.Ex
set_option linter.all false
open Go
variable {G:Nat→List AV} {P:Program} {w:World} {S F:Nat→Prop} {β:Nat→Nat} {n:Nat}
theorem qhx {k:Nat} (hk:0 < k):∀(l:List (List AV)),(∀c∈l,c.length=k)→l.flatten.length=l.length*k∧∀(q:Nat) (x:AV),l.flatten[q]? =some x→∃c,l[q / k]? =some c∧c[q % k]? =some x
 | [],_=>⟨by simp,by simp⟩
 | c ::l,h=>by
   obtain ⟨h1,h2⟩:=qhx hk l (fun c hc=>h c (Ay _ hc))
   have hc:=h c (AK ..)
   refine ⟨by simp only [Bf,Ad,Ae,h1,hc,Bn];omega,fun q x hq=> ?_⟩
   simp only [Bf,AH] at hq
   split at hq
   ·rename_i hlt
    refine ⟨c,?_,?_⟩
    ·rw [Nat.div_eq_of_lt (by omega)];rfl
    rwa [Nat.mod_eq_of_lt (by omega)]
   rename_i hge
   obtain ⟨d,hd1,hd2⟩:=h2 _ x hq
   have hq':q=(q - c.length)+k:=by omega
   refine ⟨d,?_,?_⟩
   ·rw [hq',Nat.add_div_right _ hk,Bc];exact hd1
   rw [hq',Nat.add_mod_right];exact hd2
def wx (H:Hp) (k:Nat) (x:AV):Option (Nat × List AV):=
 match x with
 | .sl sz _ l=>if sz=k∨l= [] then some (l.length,l.flatten) else none
 | .bs sz id s off len=>if sz=k then
    match Js H (.ptr id s off) with
    | some cs=>if len*k≤cs.length then some (len,cs.take (len*k)) else none
    | none=>none
   else none
 | .str s=>if k=1 then some (s.size,s.data.toList.map fun c=> .int .u8 c.toNat) else none
 | _=>none
theorem qpi {w':World} (h:w'.heap=w.heap) (a:Addr):w'.cell? a=w.cell? a:=by simp only [World.cell?,h]
theorem qb3 {H:Hp} (hH:HR G w S F β H) {k m:Nat} {x:AV} {v:Value} {cs:List AV} (hk:0 < k) (hx:RV w S β H.n x v) (h:wx H k x=some (m,cs)) (hns:∀s,x≠ .str s):
 ∃us:Array Value,CR w S β H.n cs us∧cs.length=m*k∧∃A cap,v= .slice A m cap∧∀w':World,w'.heap=w.heap→(Builtin.firstCells k m v).run P w'= .ok us w':=by
 unfold wx at h
 split at h
 ·rename_i sz full l
  split at h
  ·rename_i hsz
   simp only [Ab,Al] at h
   obtain ⟨rfl,rfl⟩:=h
   cases hx with
   | sl _ _ _ A cap u hl hm hf hA hA1 hS hsz' h1 hc hr=>
     by_cases he:l= []
     ·subst he
      refine ⟨#[],⟨rfl,by simp⟩,by simp,A,cap,rfl,fun w' _=> ?_⟩
      cases A with
      | none=>rfl
      | some a=>simp [Builtin.firstCells,loadCells,loadCellsFrom]
     have hsk:sz=k:=hsz.resolve_right he
     subst hsk
     obtain ⟨hfl,hfg⟩:=qhx hk l hsz'
     obtain ⟨⟨b,o,sp⟩,rfl⟩:=BE.1 (hA1 he)
     have hsp:=hA he _ rfl
     simp only at hsp
     subst hsp
     let ul:List Value:=(List.range (l.length*sz)).map fun q=>u (q / sz) (q % sz)
     have hul:ul.length=l.length*sz:=by simp [ul]
     have hget:∀(q:Nat) (x:AV),l.flatten[q]? =some x→x.one=true∧ul[q]? =some (u (q / sz) (q % sz))∧RV w S β H.n x (u (q / sz) (q % sz))∧w.cell? ⟨b,o+q,none⟩=some (u (q / sz) (q % sz)):=by
      intro q x hq
      obtain ⟨c,hc1,hc2⟩:=hfg q x hq
      have hlt:=(Ah.1 hq).1
      rw [hfl] at hlt
      refine ⟨h1 c (Af hc1) x (Af hc2),?_,(hr _ _ _ _ hc1 hc2).zero,?_⟩
      ·simp [ul,hlt]
      have:=hc b o rfl _ _ _ _ hc1 hc2
      rwa [Nat.mul_comm,Nat.div_add_mod] at this
     refine ⟨ul.toArray,⟨by simp [hul,hfl],fun q x hq=> ?_⟩,hfl,_,cap,rfl,fun w' hw'=> ?_⟩
     ·obtain ⟨a1,a2,a3,_⟩:=hget q x hq
      refine ⟨a1,?_⟩
      rw [qar,a2];exact a3
     refine run_firstCells_some w' sz l.length _ _ cap ul hul (fun j v hj=> ?_)
     rw [Addr.add_lit,qpi hw']
     have hlt:=(Ah.1 hj).1
     rw [hul,←hfl] at hlt
     obtain ⟨_,a2,_,a4⟩:=hget j _ (Ak hlt)
     rw [a2] at hj
     rw [←hj];exact a4
  cases h
 ·rename_i sz id s off len
  split at h
  ·rename_i hsk
   subst hsk
   split at h
   ·rename_i cs0 hcs
    split at h
    ·rename_i hle
     simp only [Ab,Al] at h
     obtain ⟨rfl,rfl⟩:=h
     cases hx with
     | bs0 _ _ _ _ A hs=>
       refine ⟨#[],⟨by simp,by simp⟩,by simp,A,0,rfl,fun w' hw'=> ?_⟩
       cases A with
       | none=>rfl
       | some a=>simp [Builtin.firstCells,loadCells,loadCellsFrom]
     | bs _ _ _ _ _ cap mm e hs hsh hn hl hm h0=>
       obtain ⟨b,o,hbo,hpt⟩:=qj4 hH (.ptr id s off hs) hcs
       simp only [Value.pointer.injEq,Ab,Addr.mk.injEq] at hbo
       obtain ⟨rfl,rfl,_⟩:=hbo
       let ul:List Value:=(List.range (len*sz)).map fun q=>(w.cell? ⟨β s,off+q,none⟩).getD Go.undef
       have hul:ul.length=len*sz:=by simp [ul]
       have hget:∀(q:Nat) (x:AV),(cs0.take (len*sz))[q]? =some x→x.one=true∧∃y,ul[q]? =some y∧RV w S β H.n x y∧w.cell? ⟨β s,off+q,none⟩=some y:=by
        intro q x hq
        rw [Bl] at hq
        split at hq
        ·rename_i hlt
         obtain ⟨a1,y,a2,a3⟩:=hpt q x hq
         exact ⟨a1,y,by simp [ul,hlt,a2],a3,a2⟩
        cases hq
       have hlen:(cs0.take (len*sz)).length=len*sz:=by simp;omega
       refine ⟨ul.toArray,⟨by simp [hul,hlen],fun q x hq=> ?_⟩,hlen,_,cap,rfl,fun w' hw'=> ?_⟩
       ·obtain ⟨a1,y,a2,a3,_⟩:=hget q x hq
        refine ⟨a1,?_⟩
        rw [qar,a2];exact a3
       refine run_firstCells_some w' sz len _ _ cap ul hul (fun j v hj=> ?_)
       rw [Addr.add_lit,qpi hw']
       have hlt:=(Ah.1 hj).1
       rw [hul,←hlen] at hlt
       obtain ⟨_,y,a2,_,a4⟩:=hget j _ (Ak hlt)
       rw [a2] at hj
       rw [←hj];exact a4
    cases h
   cases h
  cases h
 ·exact absurd rfl (hns _)
 cases h
theorem qw7 {H:Hp} (hH:HR G w S F β H) {k m:Nat} {x:AV} {v:Value} {cs:List AV} (hk:0 < k) (hx:RV w S β H.n x v) (h:wx H k x=some (m,cs)):
 ∃us:Array Value,CR w S β H.n cs us∧cs.length=m*k∧Builtin.lenOf v=pure m∧∀w':World,w'.heap=w.heap→(Builtin.firstCells k m v).run P w'= .ok us w':=by
 by_cases hns:∀s,x≠ .str s
 ·obtain ⟨us,h1,h2,A,cap,rfl,h3⟩:=qb3 (P:=P) hH hk hx h hns
  exact ⟨us,h1,h2,rfl,h3⟩
 obtain ⟨s,rfl⟩:∃s,x= .str s:=by
  cases x with
  | str s=>exact ⟨s,rfl⟩
  | _=>exact absurd (fun s h=>by cases h) hns
 cases hx
 simp only [wx] at h
 split at h
 ·rename_i hk1
  subst hk1
  simp only [Ab,Al] at h
  obtain ⟨rfl,rfl⟩:=h
  refine ⟨s.data.map fun c=> .int .u8 c.toNat,⟨by simp,fun i x hi=> ?_⟩,?_,rfl,fun w' _=> ?_⟩
  ·rw [Av,Am] at hi
   obtain ⟨c,hc,rfl⟩:=hi
   refine ⟨rfl,?_⟩
   rw [Bk] at hc
   rw [Ag,Array.getElem?_map,hc]
   exact .int _ _
  ·rw [As,Nat.mul_one];exact AY
  have e:s.extract 0 s.size=s:=by simp
  simp only [Builtin.firstCells,e]
  rfl
 cases h
def qdv (P:Program) (t:TypeId):Option Nat:=(P.info? t).map (·.bytes)
def qcj (P:Program) (t:TypeId):Bool:=match P.underlying t with | some (.int _)=>false | some _=>true | none=>false
def qau (P : Program) (H:Hp) (t t1:TypeId) (s x:AV):Option (AV × Hp):=
 match elemP P t with
 | some (e, k) =>match qdv P e,zeroAV P e with
   | some by_, some z=>if 0 < k∧z.length=k∧qcj P t1=true then
      match wx H k x with
      | some (m,news)=>match s with
        | .sl sz full l=>if full=true∧(sz=k∨l= []) then
           if m=0 then some (.sl sz full l,H)
           else if l.length+m≤9223372036854775807∧(l.length+m)*by_≤140737488355328 then some (.bs k H.objs.length H.n 0 (l.length+m),H.push (.row e (l.flatten++news)))
           else none
          else none
        | .bs sz id s0 0 len=>if sz=k then match H.objs[id]? with
           | some (s', .row e' cs)=>if s'=s0∧e'=e∧len*k≤cs.length∧0 < len+m∧len+m≤9223372036854775807∧(len+m)*by_≤140737488355328 then
              some (.bs k id H.n 0 (len+m),⟨H.n+1,H.objs.set id (H.n, .row e (cs.take (len*k)++news))⟩)
             else if s'=s0∧e'=e∧len=0∧m=0 then some (.bs k id s0 0 0,H)
             else none
           | _=>none
          else none
        | _=>none
      | none=>none
     else none
   | _,_=>none
 | none=>none
theorem qdm (t t1 ty e:TypeId) (i:TypeInfo) (z:Value) (ht:P.underlying t=some (.slice e)) (ht1:qcj P t1=true) (hi:P.info? e=some i) (hz:i.zero=some z)
 (A:Option Addr) (xv:Value) (sLen sCap m:Nat) (hlx:Builtin.lenOf xv=pure m) (olds news:Array Value) (ho:∀w':World,w'.heap=w.heap→(Builtin.firstCells i.size sLen (.slice A sLen sCap)).run P w'= .ok olds w')
 (hn:∀w':World,w'.heap=w.heap→(Builtin.firstCells i.size m xv).run P w'= .ok news w')
 (hg:sCap < sLen+m) (h63:sLen+m≤9223372036854775807) (hb:(sLen+m)*i.bytes≤140737488355328):
 (Builtin.append_ #[t,t1] ty #[.slice A sLen sCap,xv]).run P w=
   .ok (.slice (some ⟨w.heap.size,0,none⟩) (sLen+m) (grownCap w (sLen+m) sCap e)) (w.drew.alloc (.cells (olds++news++Builtin.zeroCells z.cells (grownCap w (sLen+m) sCap e - (sLen+m))) e)):=by
 have hfit:=growslice_fits hg hb
 have hn':¬(sLen+m≤sCap):=by omega
 have h63':¬(9223372036854775807 < ((sLen:Int)+(m:Int))):=by omega
 have h48':¬(281474976710656 < Builtin.nextslicecap (sLen+m) sCap*i.bytes):=by omega
 have hf:=hn w.drew rfl
 have hfo:=ho w.drew rfl
 unfold qcj at ht1
 cases hu1:P.underlying t1 with
 | none=>simp [hu1] at ht1
 | some d=>
   have hd:(∀k,d≠ .int k):=by intro k e;subst e;simp [hu1] at ht1
   simp [Builtin.append_,run_underlying ht,run_underlying hu1,sizeOf,typeInfo,zeroValue,hi,hz,hlx,hn',h63',h48',Question.forced,hf,hfo,newRow,grownCap]
theorem Wt (t t1 ty e:TypeId) (i:TypeInfo) (ht:P.underlying t=some (.slice e)) (ht1:qcj P t1=true) (hi:P.info? e=some i)
 (A:Option Addr) (xv:Value) (sLen sCap m:Nat) (hlx:Builtin.lenOf xv=pure m) (news:Array Value)
 (hn:(Builtin.firstCells i.size m xv).run P w= .ok news w) (hr:sLen+m≤sCap) (w':World)
 (hst:(match A with | some a=>storeCells (a.add (sLen*i.size)) news.toList | none=>pure ():Sem Unit).run P w= .ok () w'):
 (Builtin.append_ #[t,t1] ty #[.slice A sLen sCap,xv]).run P w= .ok (.slice A (sLen+m) sCap) w':=by
 unfold qcj at ht1
 cases hu1:P.underlying t1 with
 | none=>simp [hu1] at ht1
 | some d=>
   have hd:(∀k,d≠ .int k):=by intro k e;subst e;simp [hu1] at ht1
   cases A with
   | none=>
     simp only [Sem.run_pure,Result.ok.injEq,true_and] at hst
     subst hst
     simp [Builtin.append_,run_underlying ht,run_underlying hu1,sizeOf,typeInfo,hi,hlx,hr,hn]
   | some a=>
     simp only at hst
     simp [Builtin.append_,run_underlying ht,run_underlying hu1,sizeOf,typeInfo,hi,hlx,hr,hn,hst]
theorem HR.regrow {H:Hp} (h:HR G w S F β H) {id s:Nat} {o:Obj} (hi:H.objs[id]? =some (s,o)) {w':World} {b:Nat} (hb:(b=β s∧o.live=true)∨w.heap.size≤b) (os:w'.os=w.os) (tape:w'.tape=w.tape) (output:w'.output=w.output) (size:w.heap.size≤w'.heap.size)
 (same:∀k,k < w.heap.size→k≠b→w'.heap[k]? =w.heap[k]?) (shape:b=β s→∀x,w.shape? (β s)=some x→w'.shape? (β s)=some x) {c:Array Value} {t:TypeId} {cs:List AV} (hc:w'.heap[b]? =some (.cells c t (0,0))) (hle:cs.length≤c.size)
 (hcs:∀(i:Nat) (x:AV),cs[i]? =some x→x.one=true∧RV w S β H.n x (c.getD i Go.undef)):
 Ext w S F β H.n w' S (fun s=>if s=H.n then b else β s) (H.n+1)∧HR G w' S F (fun s=>if s=H.n then b else β s) ⟨H.n+1,H.objs.set id (H.n, .row t cs)⟩:=by
 have hblt:=(Au.1 hc).1
 have hor:=h.obj _ _ _ hi
 have hid:id < H.objs.length:=(Ah.1 hi).1
 have hbS:¬S b:=by
  rcases hb with ⟨rfl,hl⟩ | hb
  ·exact (hor.notS hl).1
  intro hS;have:=h.lts _ hS;omega
 have hbF:¬F b:=by
  rcases hb with ⟨rfl,hl⟩ | hb
  ·exact (hor.notS hl).2
  intro hS;have:=h.ltf _ hS;omega
 have hx:Ext w S F β H.n w' S (fun s=>if s=H.n then b else β s) (H.n+1):=
  ⟨os,tape,output,size,by omega,qqf,fun _ h=>h,fun _ h=> .inl h,fun k hk=>same k (h.lts k hk) (by intro e;subst e;exact hbS hk),fun k hk=>same k (h.ltf k hk) (by intro e;subst e;exact hbF hk),fun k x hk=>by
    have hkl:k < w.heap.size:=by
     unfold World.shape? at hk
     split at hk
     ·rename_i hh;exact (Au.1 hh).1
     cases hk
    by_cases he:k=b
    ·rcases hb with ⟨hb,_⟩ | hb
     ·rw [he,hb] at hk ⊢;exact shape hb x hk
     omega
    unfold World.shape? at*;rw [same k hkl he];exact hk⟩
 have at_:∀(i:Nat) (y:Nat × Obj),(H.objs.set id (H.n,Obj.row t cs))[i]? =some y→(i=id∧y=(H.n, .row t cs))∨(i≠id∧H.objs[i]? =some y):=by
  intro i y hy
  by_cases he:i=id
  ·subst he
   rw [Bz hid] at hy
   simp only [Ab] at hy
   exact .inl ⟨rfl,hy.symm⟩
  rw [BF (Ne.symm he)] at hy
  exact .inr ⟨he,hy⟩
 have other:∀(j sj:Nat) (oj:Obj),j≠id→H.objs[j]? =some (sj,oj)→oj.live=true→β sj≠b:=by
  intro j sj oj hj hjo hlj
  rcases hb with ⟨rfl,hl⟩ | hb
  ·exact h.inj _ _ _ _ _ _ hjo hi hj hlj hl
  have:=(h.obj _ _ _ hjo).lt hlj;omega
 refine ⟨hx,fun k hk=>AU (h.lts k hk) size,fun k hk=>AU (h.ltf k hk) size,fun g=>(h.glob g).ext hx,fun i s1 o1 h1=> ?_,fun i j si sj oi oj h1 h2 hne l1 l2=> ?_,fun i s1 o1 h1=> ?_⟩
 ·rcases at_ i _ h1 with ⟨rfl,e⟩ | ⟨_,e⟩
  ·injection e with e1 e2;subst e1;show H.n < H.n+1;omega
  have:=h.ltn _ _ _ e;show s1 < H.n+1;omega
 ·rcases at_ i _ h1 with ⟨rfl,e⟩ | ⟨hi',e⟩
  ·injection e with e1 e2;subst e1
   rcases at_ j _ h2 with ⟨rfl,e⟩ | ⟨hj',e⟩
   ·exact absurd rfl hne
   have:=h.ltn _ _ _ e
   rw [if_pos rfl,if_neg (by omega)]
   exact (other j sj oj hj' e l2).symm
  have hlt:=h.ltn _ _ _ e
  rw [if_neg (by omega)]
  rcases at_ j _ h2 with ⟨rfl,e'⟩ | ⟨hj',e'⟩
  ·injection e' with e1 e2;subst e1
   rw [if_pos rfl]
   exact other i si oi hi' e l1
  have:=h.ltn _ _ _ e'
  rw [if_neg (by omega)]
  exact h.inj _ _ _ _ _ _ e e' hne l1 l2
 rcases at_ i _ h1 with ⟨rfl,e⟩ | ⟨hi',e⟩
 ·injection e with e1 e2;subst e1 e2
  rw [if_pos rfl]
  exact fun _=>⟨c,hc,hle,hbS,hbF,fun i x hi=>⟨(hcs i x hi).1,(hcs i x hi).2.ext hx⟩⟩
 have hlt:=h.ltn _ _ _ e
 rw [if_neg (by omega)]
 have hor:=h.obj _ _ _ e
 cases hlv:o1.live with
 | true=>exact hor.to (fun _ _=>RV.ext hx) (same _ (hor.lt hlv) (other i s1 o1 hi' e hlv)) (fun h=>h) (fun h=>h) (fun h=>h)
 | false=>
   cases o1 with
   | dead=>trivial
   | var t cs=>cases hlv
   | row t cs=>exact OR.nil hlv
   | froz t cs=>
     have hS:=hor
     obtain ⟨_,_,_,_,hS,_⟩:=hS
     exact hor.to (fun _ _=>RV.ext hx) (same _ (h.lts _ hS) (by intro e;rw [e] at hS;exact hbS hS)) (fun h=>h) (fun h=>h) (fun h=>h)
theorem qmf {cs ds:List AV} {c d:Array Value} (hc:CR w S β n cs c) (hd:CR w S β n ds d) (r:Array Value) (i:Nat) (x:AV) (hi:(cs++ds)[i]? =some x):x.one=true∧RV w S β n x ((c++d++r).getD i Go.undef):=by
 have hlt:=(Ah.1 hi).1
 rw [Ad] at hlt
 rw [AH] at hi
 have e:(c++d++r).getD i Go.undef=if i < c.size then c.getD i Go.undef else d.getD (i - c.size) Go.undef:=by
  simp only [Ag,Array.getElem?_append,B0,hc.1,hd.1]
  rw [if_pos (by omega)]
  split <;> rfl
 rw [e,hc.1]
 split at hi
 ·rename_i h;rw [if_pos h];exact hc.2 _ _ hi
 rename_i h;rw [if_neg h];exact hd.2 _ _ hi
theorem q2p {H H':Hp} (hH:HR G w S F β H) {t t1 ty:TypeId} {s x z:AV} {sv xv:Value} (hs:RV w S β H.n s sv) (hx:RV w S β H.n x xv) (h:qau P H t t1 s x=some (z,H')):
 ∃v' w' β',(Builtin.append_ #[t,t1] ty #[sv,xv]).run P w= .ok v' w'∧Ext w S F β H.n w' S β' H'.n∧HR G w' S F β' H'∧RV w' S β' H'.n z v':=by
 unfold qau at h
 split at h
 ·rename_i e k he
  obtain ⟨hu,hk⟩:=Qh he
  split at h
  ·rename_i by_ zs hby hzs
   split at h
   ·rename_i hcond
    obtain ⟨hk0,hzl,ht1⟩:=hcond
    obtain ⟨i,z0,hi,hz0,hcz⟩:=qxo (w:=w) (S:=S) (β:=β) (n:=H.n) hzs
    simp [szP,hi] at hk
    simp [qdv,hi] at hby
    subst hk hby
    have hzsz:z0.cells.size=i.size:=by rw [hcz.1];exact hzl
    split at h
    ·rename_i m news hcont
     obtain ⟨nw,hnw,hnl,hlx,hnrun⟩:=qw7 (P:=P) hH hk0 hx hcont
     split at h
     ·rename_i sz full l
      split at h
      ·rename_i hfull
       obtain ⟨rfl,hszl⟩:=hfull
       have hs':=hs
       cases hs with
       | sl _ _ _ A cap u hl hm hf hA hA1 hS hsz h1 hc hr=>
         have hcap:=hf rfl
         subst hcap
         split at h
         ·rename_i hm0
          subst hm0
          simp only [Ab,Al] at h
          obtain ⟨rfl,rfl⟩:=h
          have hemp:nw= #[]:=by
           have:=hnw.1;rw [hnl] at this;simpa using this
          subst hemp
          refine ⟨_,w,β,Wt t t1 ty e i hu ht1 hi A xv l.length l.length 0 hlx #[] (hnrun w rfl) (by omega) w (by cases A <;> rfl), .refl ..,hH,hs'⟩
         rename_i hm0
         split at h
         ·rename_i hlim
          simp only [Ab,Al] at h
          obtain ⟨rfl,rfl⟩:=h
          obtain ⟨ol,hol,holl,A',c',hAe,horun⟩:=qb3 (P:=P) hH hk0 hs' (m:=l.length) (cs:=l.flatten) (by simp [wx,hszl]) (fun _ h=>by cases h)
          simp only [Value.slice.injEq,true_and] at hAe
          obtain ⟨rfl,rfl⟩:=hAe
          have hrun:=qdm t t1 ty e i z0 hu ht1 hi hz0 A xv l.length l.length m hlx ol nw horun hnrun (by omega) hlim.1 hlim.2
          have hcg:=grownCap_ge w (l.length+m) l.length e
          have hcm:=grownCap_le_maxLen w (l.length+m) l.length e (by simp only [maxLen];omega)
          have hg:=hH.grew (w':=w.drew.alloc (.cells (ol++nw++Builtin.zeroCells z0.cells (grownCap w (l.length+m) l.length e - (l.length+m))) e)) (t:=e) rfl rfl rfl (fun k hk=>heap_alloc_old w.drew _ k hk) (heap_alloc_new w.drew _)
           (o:= .row e (l.flatten++news)) (.inr ⟨_,rfl,by simp only [B0,Ad,hol.1,hnw.1];omega⟩) (fun i x hi=>qmf hol hnw _ i x hi)
          refine ⟨_,_,_,hrun,hg.1,hg.2,?_⟩
          have hsh:(w.drew.alloc (.cells (ol++nw++Builtin.zeroCells z0.cells (grownCap w (l.length+m) l.length e - (l.length+m))) e)).shape? w.heap.size=some (e,grownCap w (l.length+m) l.length e*i.size):=by
           simp only [World.shape?,heap_alloc_new w.drew,show w.heap.size=w.drew.heap.size from rfl]
           simp only [B0,size_zeroCells,hol.1,hnw.1,holl,hnl,hzsz,←Bn]
           rw [show l.length+m+(grownCap w (l.length+m) l.length e - (l.length+m))=grownCap w (l.length+m) l.length e by omega]
          have:=RV.bs (w:=w.drew.alloc (.cells (ol++nw++Builtin.zeroCells z0.cells (grownCap w (l.length+m) l.length e - (l.length+m))) e)) (S:=S) (β:=fun s=>if s=H.n then w.heap.size else β s) (n:=H.n+1)
           i.size H.objs.length H.n 0 (l.length+m) (grownCap w (l.length+m) l.length e) _ e (by omega) (by simpa using hsh) (by omega) hcg (by simpa [maxLen] using hcm) (by omega)
          simp only [if_true] at this
          exact this
         cases h
      cases h
     ·rename_i sz id s0 len
      split at h
      ·rename_i hsk
       subst hsk
       split at h
       ·rename_i s' e' cs hobj
        split at h
        ·rename_i hlim
         obtain ⟨rfl,rfl,hle,hpos,hmx,hbb⟩:=hlim
         simp only [Ab,Al] at h
         obtain ⟨rfl,rfl⟩:=h
         have hs':=hs
         obtain ⟨ol,hol,holl,A',c',hAe,horun⟩:=qb3 (P:=P) hH hk0 hs' (m:=len) (cs:=cs.take (len*i.size)) (by simp [wx,Js,hobj,hle]) (fun _ h=>by cases h)
         have grow:∀(A':Option Addr) (cap:Nat),(∀w':World,w'.heap=w.heap→(Builtin.firstCells i.size len (.slice A' len cap)).run P w'= .ok ol w')→cap < len+m→∃v' w' β',(Builtin.append_ #[t,t1] ty #[.slice A' len cap,xv]).run P w= .ok v' w'∧Ext w S F β H.n w' S β' (H.n+1)∧HR G w' S F β' ⟨H.n+1,H.objs.set id (H.n, .row e' (cs.take (len*i.size)++news))⟩∧RV w' S β' (H.n+1) (.bs i.size id H.n 0 (len+m)) v':=by
          intro A' cap horun hcapm
          have hrun:=qdm t t1 ty e' i z0 hu ht1 hi hz0 A' xv len cap m hlx ol nw horun hnrun hcapm hmx hbb
          have hcg:=grownCap_ge w (len+m) cap e'
          have hcm:=grownCap_le_maxLen w (len+m) cap e' (by simp only [maxLen];omega)
          have hg:=hH.regrow hobj (w':=w.drew.alloc (.cells (ol++nw++Builtin.zeroCells z0.cells (grownCap w (len+m) cap e' - (len+m))) e')) (b:=w.heap.size) (.inr (Aj _)) rfl rfl rfl (by show w.heap.size≤(w.heap.push _).size;simp)
           (fun k hk _=>heap_alloc_old w.drew _ k hk) (fun hb x hx=>by rw [←hb] at hx;simp [World.shape?] at hx) (cs:=cs.take (len*i.size)++news) (heap_alloc_new w.drew _)
           (by simp only [B0,Ad,hol.1,hnw.1];omega) (fun q x hq=>qmf hol hnw _ q x hq)
          refine ⟨_,_,_,hrun,hg.1,hg.2,?_⟩
          have hsh3:(w.drew.alloc (.cells (ol++nw++Builtin.zeroCells z0.cells (grownCap w (len+m) cap e' - (len+m))) e')).shape? w.heap.size=some (e',grownCap w (len+m) cap e'*i.size):=by
           simp only [World.shape?,heap_alloc_new w.drew,show w.heap.size=w.drew.heap.size from rfl]
           simp only [B0,size_zeroCells,hol.1,hnw.1,holl,hnl,hzsz,←Bn]
           rw [show len+m+(grownCap w (len+m) cap e' - (len+m))=grownCap w (len+m) cap e' by omega]
          have:=RV.bs (w:=w.drew.alloc (.cells (ol++nw++Builtin.zeroCells z0.cells (grownCap w (len+m) cap e' - (len+m))) e')) (S:=S) (β:=fun s=>if s=H.n then w.heap.size else β s) (n:=H.n+1)
           i.size id H.n 0 (len+m) (grownCap w (len+m) cap e') _ e' (by omega) (by simpa using hsh3) (by omega) hcg (by simpa [maxLen] using hcm) hpos
          simpa using this
         cases hs with
         | bs0 _ _ _ _ A hsl=>
           simp only [Value.slice.injEq,true_and] at hAe
           obtain ⟨rfl,rfl⟩:=hAe
           exact grow _ _ horun (by omega)
         | bs _ _ _ _ _ cap mm e2 hsl hsh hn hl hm h0=>
           have hne:cs≠ []:=by
            intro e;subst e
            have:0 < len*i.size:=Nat.mul_pos h0 hk0
            simp at hle;omega
           obtain ⟨cc,hcc,hccl,hnS,hnF,hall⟩:=hH.obj _ _ _ hobj hne
           simp only [Value.slice.injEq,true_and] at hAe
           obtain ⟨rfl,rfl⟩:=hAe
           have hsh2:=hsh
           simp only [World.shape?,hcc,Ab,Al] at hsh2
           obtain ⟨rfl,hmm⟩:=hsh2
           rw [AN] at hn
           by_cases hroom:len+m≤cap
           ·have hfit:(len+m)*i.size≤cc.size:=by rw [hmm,←hn];exact Cg _ hroom
            rw [Bn] at hfit
            have hst:=run_storeCells_at (P:=P) (β s') (len*i.size) e' nw.toList 0 cc w hcc (by rw [AY,hnw.1,hnl];omega) hnw.one
            have hrun:=Wt t t1 ty e' i hu ht1 hi (some ⟨β s',0,none⟩) xv len cap m hlx nw (hnrun w rfl) hroom _ (by simp only [Addr.add_lit,AN];exact hst)
            have hsz:(cc.toList.take (len*i.size+0)++nw.toList++cc.toList.drop (len*i.size+0+nw.toList.length)).toArray.size=cc.size:=by
             simp only [List.size_toArray,Ad,Bs,BH,AY,hnw.1,hnl];omega
            have hg:=hH.regrow hobj (w':=w.setRow (β s') (cc.toList.take (len*i.size+0)++nw.toList++cc.toList.drop (len*i.size+0+nw.toList.length)).toArray) (b:=β s') (.inl ⟨rfl,qb1 hne⟩) rfl rfl rfl (by rw [setRow_size];omega)
             (fun k _ hk=>setRow_other w _ k _ hk) (fun _ x hx=>by
               unfold World.shape? at*
               rw [setRow_heap w _ cc _ e' _ hcc]
               simp only [hcc] at hx
               rw [←hx]
               exact congrArg (fun m=>some (e',m)) hsz) (cs:=cs.take (len*i.size)++news) (setRow_heap w _ cc _ e' _ hcc) (by rw [hsz,Ad,holl,hnl];omega)
             (fun q x hq=>by
               have h1:(Qu (cs.take (len*i.size)) (len*i.size) news)=cs.take (len*i.size)++news:=by
                simp only [Qu]
                rw [Bi (by omega),AW (by omega),Az]
               have hlt:=(Ah.1 hq).1
               rw [Ad,holl,hnl] at hlt
               rw [AH] at hq
               have hol1:cc.toList.take (len*i.size+0)=cc.toList.take (len*i.size):=rfl
               rw [qar,Ap,AH,Bs,AY,show min (len*i.size+0) cc.size=len*i.size by omega]
               rw [holl] at hq
               split at hq
               ·rename_i hlt2
                rw [if_pos hlt2,Bl,if_pos (by omega),Bk,←Ag]
                rw [Bl,if_pos hlt2] at hq
                exact hall q x hq
               rename_i hlt2
               rw [if_neg hlt2,Bx (by rw [AY,hnw.1,hnl];omega),Bk,←Ag]
               exact hnw.2 _ _ hq)
            refine ⟨_,_,_,hrun,hg.1,hg.2,?_⟩
            have:=RV.bs (w:=w.setRow (β s') (cc.toList.take (len*i.size+0)++nw.toList++cc.toList.drop (len*i.size+0+nw.toList.length)).toArray) (S:=S) (β:=fun s=>if s=H.n then β s' else β s) (n:=H.n+1)
             i.size id H.n 0 (len+m) cap mm e' (by omega) (by
              simp only [if_true]
              simp only [World.shape?,setRow_heap w _ cc _ e' _ hcc]
              rw [←hmm]
              exact congrArg (fun m=>some (e',m)) hsz) (by omega) hroom hm hpos
            simpa using this
           exact grow _ _ horun (by omega)
        split at h
        ·rename_i hz
         obtain ⟨rfl,rfl,rfl,rfl⟩:=hz
         simp only [Ab,Al] at h
         obtain ⟨rfl,rfl⟩:=h
         have hemp:nw= #[]:=by
          have:=hnw.1;rw [hnl] at this;simpa using this
         subst hemp
         have hs':=hs
         cases hs with
         | bs0 _ _ _ _ A hsl=>
           exact ⟨_,w,β,Wt t t1 ty e' i hu ht1 hi A xv 0 0 0 hlx #[] (hnrun w rfl) (by omega) w (by cases A <;> rfl), .refl ..,hH,hs'⟩
         | bs _ _ _ _ _ cap mm e2 hsl hsh hn hl hm h0=>exact absurd h0 (by omega)
        cases h
       cases h
      cases h
     cases h
    cases h
   cases h
  cases h
 cases h
theorem qj0 {k:Nat}:∀(l:List (List AV)),(∀c∈l,c.length=k)→∀(j i:Nat) (c:List AV) (x:AV),l[j]? =some c→c[i]? =some x→l.flatten[j*k+i]? =some x
 | [],_,j,i,c,x,h,_=>by simp at h
 | d::l,h,0,i,c,x,hj,hi=>by
   simp only [Aq,Ab] at hj
   subst hj
   rw [Bf,Nat.zero_mul,AN,Bx (Ah.1 hi).1]
   exact hi
 | d::l,h,j+1,i,c,x,hj,hi=>by
   have hd:=h d (AK ..)
   have:=qj0 l (fun c hc=>h c (Ay _ hc)) j i c x (by simpa using hj) hi
   rw [Bf,Bu (by rw [hd,Bn];omega),hd,show (j+1)*k+i - k=j*k+i by rw [Bn];omega]
   exact this
theorem RV.pure0 {w:World} {S:Nat→Prop} {β:Nat→Nat} {m:Nat} {x:AV} {v:Value} (h:RV w S β m x v):m=0→Pure x:=by
 induction h with
 | undef v=>exact fun _=> .undef
 | bool b=>exact fun _=> .bool b
 | int k n=>exact fun _=> .int k n
 | str s=>exact fun _=> .str s
 | nilp=>exact fun _=> .nilp
 | ptr id s off hb=>intro h;omega
 | optr id s off v hb hv=>intro h;omega
 | rptr cs=>exact fun _=> .rptr cs
 | bs sz id s off len cap m e hb=>intro h;omega
 | bs0 sz id s off A hb=>intro h;omega
 | sl sz full l=>exact fun _=> .sl sz full l
 | fn f caps vs hs' _ ih=>exact fun h=> .fn f caps (fun x hx=>by obtain ⟨i,hi⟩:=AB hx;exact ih i x hi h)
 | nilf=>exact fun _=> .nilf
 | agg cs vs hs' h1 _ ih=>exact fun h=> .agg cs (fun x hx=>by obtain ⟨i,hi⟩:=AB hx;exact ih i x hi h)
 | tup cs vs hs' _ ih=>exact fun h=> .tup cs (fun x hx=>by obtain ⟨i,hi⟩:=AB hx;exact ih i x hi h)
 | iface t x v _ ih=>exact fun h=> .iface t x (ih h)
 | nili=>exact fun _=> .nili
 | mp kk vk l=>exact fun _=> .mp kk vk l
theorem RV.loose {sz k:Nat} {full:Bool} {l:List (List AV)} {v:Value} (h:RV w S β n (.sl sz full l) v) (hk:sz=k∨l= []):RV w S β n (.sl k false l) v:=by
 cases h with
 | sl _ _ _ A cap u hl hm hf hA hA1 hS hsz h1 hc hr=>
   rcases hk with rfl | rfl
   ·exact .sl sz false l A cap u hl hm (fun h=>by cases h) hA hA1 hS hsz h1 hc hr (fun h=>by cases h)
   exact .sl k false [] A cap u hl hm (fun h=>by cases h) hA hA1 hS (by simp) (by simp) (by simp) (by simp) (fun h=>by cases h)
def qys (P:Program) (t t1:TypeId) (s x:AV):Option AV:=
 match elemP P t with
 | some (e,k)=>match qdv P e,zeroAV P e with
   | some by_,some z=>if 0 < k∧z.length=k∧qcj P t1=true then
      match s,x with
      | .sl sz full l, .sl sz2 _ l2=>if full=true∧(sz=k∨l= [])∧(sz2=k∨l2= [])∧l.length+l2.length≤9223372036854775807∧(l.length+l2.length)*by_≤140737488355328 then some (.sl k false (l++l2)) else none
      | _,_=>none
     else none
   | _,_=>none
 | none=>none
set_option maxHeartbeats 2000000 in
theorem q7a {H : Hp} (hH:HR G w S F β H) {t t1 ty:TypeId} {s x z:AV} {sv xv:Value} (hs:RV w S β H.n s sv) (hx:RV w S β H.n x xv) (h:qys P t t1 s x=some z):
 ∃v' w' S',(Builtin.append_ #[t,t1] ty #[sv,xv]).run P w= .ok v' w'∧Ext w S F β H.n w' S' β H.n∧HR G w' S' F β H∧RV w' S' β H.n z v':=by
 unfold qys at h
 split at h
 ·rename_i e k he
  obtain ⟨hu,hk⟩:=Qh he
  split at h
  ·rename_i by_ zz hby hz
   split at h
   ·rename_i hcond
    obtain ⟨hk0,hzl,ht1⟩:=hcond
    split at h
    ·rename_i sz full l sz2 f2 l2
     split at h
     ·rename_i hc2
      obtain ⟨rfl,hsz1,hsz2,h63,hb⟩:=hc2
      simp only [Ab] at h;subst h
      cases hi:P.info? e with
      | none=>simp [szP,hi] at hk
      | some i =>
        simp [szP,hi] at hk
        simp [qdv,hi] at hby
        subst hk hby
        obtain ⟨i',z0,hi',hz0,hcz⟩:=qxo (w:=w) (S:=S) (β:=β) (n:=H.n) hz
        rw [hi] at hi'
        simp only [Ab] at hi'
        subst hi'
        have hzsz:z0.cells.size=i.size:=by rw [hcz.1];exact hzl
        obtain ⟨nw,hnw,hnl,B,c,rfl,hnrun⟩:=qb3 (P:=P) hH hk0 hx (m:=l2.length) (cs:=l2.flatten) (by simp [wx,hsz2]) (fun _ h=>by cases h)
        obtain ⟨ol,hol,holl,A',c',rfl,horun⟩:=qb3 (P:=P) hH hk0 hs (m:=l.length) (cs:=l.flatten) (by simp [wx,hsz1]) (fun _ h=>by cases h)
        have hs':=hs
        generalize hV:Value.slice A' l.length c'=V at hs'
        cases hs' with
        | sl _ _ _ A cap u hl hm hf hA hA1 hS hsz h1 hc hr=>
          injection hV with e1 e2 e3
          subst e1 e3
          have hcap:=hf rfl
          subst hcap
          by_cases hm0:l2.length=0
          ·have:l2= []:=AZ.1 hm0
           subst this
           have hemp:nw= #[]:=by
            have:=hnw.1;simpa using this
           subst hemp
           refine ⟨_,w,S,Wt t t1 ty e i hu ht1 hi A' (.slice B 0 c) l.length l.length 0 rfl #[] (hnrun w rfl) (by omega) w (by cases A' <;> rfl), .refl ..,hH,?_⟩
           rw [Az]
           exact hs.loose hsz1
          have hx':=hx
          generalize hV2:Value.slice B l2.length c=V2 at hx'
          cases hx' with
          | sl _ _ _ A2 cap2 u2 hl2 hm2 hf2 hA2 hA12 hS2 hszl2 h12 hc2 hr2=>
            injection hV2 with e1 e2 e3
            subst e1 e3
            have hrun:=qdm t t1 ty e i z0 hu ht1 hi hz0 A' (.slice B l2.length c) l.length l.length l2.length rfl ol nw horun hnrun (by omega) h63 hb
            have hcg:=grownCap_ge w (l.length+l2.length) l.length e
            have hcm:=grownCap_le_maxLen w (l.length+l2.length) l.length e (by simp only [maxLen];omega)
            have hcat:=qmf hol hnw (Builtin.zeroCells z0.cells (grownCap w (l.length+l2.length) l.length e - (l.length+l2.length)))
            have hrsz:(ol++nw++Builtin.zeroCells z0.cells (grownCap w (l.length+l2.length) l.length e - (l.length+l2.length))).size≥(l.length+l2.length)*i.size:=by
             simp only [B0,hol.1,hnw.1,holl,hnl,Bn];omega
            generalize (ol++nw++Builtin.zeroCells z0.cells (grownCap w (l.length+l2.length) l.length e - (l.length+l2.length)))=row at hrun hcat hrsz
            have hfx:=hH.fixed (w':=w.drew.alloc (.cells row e)) rfl rfl rfl (by show w.drew.heap.size < (w.drew.heap.push _).size;simp) (fun k hk=>heap_alloc_old w.drew _ k hk)
            refine ⟨_,_,_,hrun,hfx.1,hfx.2,?_⟩
            have hcells:∀(j:Nat) (d:List AV) (q:Nat) (y:AV),(l++l2)[j]? =some d→d[q]? =some y→y.one=true∧Pure y∧d.length=i.size∧RV w S β H.n y (row.getD (j*i.size+q) Go.undef):=by
             intro j d q y hj hq
             rw [AH] at hj
             split at hj
             ·rename_i hlt
              have hmem:=Af hj
              have hne:l≠ []:=by intro e;subst e;simp at hj
              have hk':∀c∈l,c.length=i.size:=fun c hc=>by rw [hsz c hc];exact hsz1.resolve_right hne
              have hfl:=qj0 l hk' j q d y hj hq
              have:=hcat (j*i.size+q) y (by rw [Bx (Ah.1 hfl).1];exact hfl)
              exact ⟨this.1,(hr j d q y hj hq).pure0 rfl,hk' d hmem,this.2⟩
             rename_i hge
             have hmem:=Af hj
             have hne:l2≠ []:=by intro e;subst e;simp at hj
             have hk':∀c∈l2,c.length=i.size:=fun c hc=>by rw [hszl2 c hc];exact hsz2.resolve_right hne
             have hfl:=qj0 l2 hk' (j - l.length) q d y hj hq
             have hflen:l.flatten.length=l.length*i.size:=holl
             have hjq:j*i.size+q=l.flatten.length+((j - l.length)*i.size+q):=by
              rw [hflen,←BB,←Bn]
              congr 2;omega
             have:=hcat (j*i.size+q) y (by rw [Bu (by rw [hjq];omega),hjq,BP];exact hfl)
             exact ⟨this.1,(hr2 _ d q y hj hq).pure0 rfl,hk' d hmem,this.2⟩
            have hlen:(l++l2).length=l.length+l2.length:=Ad
            have hcnt:∀(j:Nat) (d:List AV) (q:Nat) (y:AV),(l++l2)[j]? =some d→d[q]? =some y→j*i.size+q < row.size:=by
             intro j d q y hj hq
             have hdl:=(hcells j d q y hj hq).2.2.1
             have hq2:=(Ah.1 hq).1
             have hj2:=(Ah.1 hj).1
             rw [hlen] at hj2
             have:(j+1)*i.size≤(l.length+l2.length)*i.size:=Cg _ hj2
             rw [Bn,Bn] at this
             rw [Bn] at hrsz
             omega
            have key:=RV.sl (w:=w.drew.alloc (.cells row e)) (S:=fun k=>S k∨k=w.heap.size) (β:=β) (n:=H.n) i.size false (l++l2) (some ⟨w.heap.size,0,none⟩)
             (grownCap w (l.length+l2.length) l.length e) (fun j q=>row.getD (j*i.size+q) Go.undef)
             (by rw [hlen];exact hcg) (by simpa [maxLen] using hcm) (fun h=>by cases h) (fun _ a ha=>by simp only [Ab] at ha;subst ha;rfl) (fun _=>rfl) (fun b o hb _=>by simp only [Ab,Addr.mk.injEq] at hb;exact .inr hb.1.symm)
             (fun d hd=>by
               rcases List.mem_append.1 hd with hd | hd
               ·have hne:l≠ []:=by intro e;subst e;cases hd
                rw [hsz d hd];exact hsz1.resolve_right hne
               have hne:l2≠ []:=by intro e;subst e;cases hd
               rw [hszl2 d hd];exact hsz2.resolve_right hne)
             (fun d hd y hy=>by
               obtain ⟨j,hj⟩:=AB hd
               obtain ⟨q,hq⟩:=AB hy
               exact (hcells j d q y hj hq).1)
             (fun b o hb j d q y hj hq=>by
               simp only [Ab,Addr.mk.injEq] at hb
               obtain ⟨rfl,rfl,_⟩:=hb
               rw [AN]
               show (w.drew.alloc _).cell? ⟨w.drew.heap.size,j*i.size+q,none⟩=_
               rw [qhz]
               exact Kd (hcnt j d q y hj hq))
             (fun j d q y hj hq=>((hcells j d q y hj hq).2.2.2.ext hfx.1).pure (hcells j d q y hj hq).2.1)
            rw [hlen] at key
            exact key (fun h=>by cases h)
     cases h
    cases h
   cases h
  cases h
 cases h
end Go.Proofs.YtpnkemogepoioaaGreatDoorW.Ex
