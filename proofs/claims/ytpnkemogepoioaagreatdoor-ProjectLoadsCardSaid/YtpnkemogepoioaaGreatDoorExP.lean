/- A symbolic executor for the machine's code, part P: the rules for functions that are printed as functions on numbers, strings, lists and trees (Option: none where the program would not come to an end, or not by itself). General over the program; no conditions beside those in each theorem. -/
import Derived.Test.YtpnkemogepoioaaGreatDoorEx10
import Derived.KernelRfl
namespace Go.Proofs.YtpnkemogepoioaaGreatDoorW.Ex
set_option linter.all false
open Go
variable {D:List Deferred}
set_option linter.unusedVariables false
variable {G:Nat→List AV} {P:Program} {N p:Nat}
theorem ql {α:Type} {c:Bool} {A B:Option α} {r:α} (hc:c=true) (h:(if c then A else B)=some r):A=some r:=by rwa [if_pos hc] at h
theorem qm {α:Type} {c:Bool} {A B:Option α} {r:α} (hc:c=false) (h:(if c then A else B)=some r):B=some r:=by rwa [if_neg (by rw [hc];simp)] at h
theorem bind_some {α β:Type} {x:Option α} {f:α→Option β} {r:β} (h:(x >>=f)=some r):∃y,x=some y∧f y=some r:=by
 cases x with
 | none=>cases h
 | some y=>exact ⟨y,rfl,h⟩
def qa {α:Type} (x:α):α:=x
def ix {α:Type} (l:List α) (i:Int):Option α:=if 0≤i then l[i.toNat]? else none
theorem qn3 {α:Type} {l:List α} {i:Int} {x:α} (h:ix l i=some x):i=((i.toNat:Nat):Int)∧l[i.toNat]? =some x:=by
 unfold ix at h
 split at h
 ·exact ⟨by omega,h⟩
 cases h
theorem qmb {α:Type} (l:List α) (i:Nat):ix l (i:Int)=l[i]? :=by simp [ix]
def sx (s:ByteArray) (i:Int):Option Int:=if 0≤i then (s[i.toNat]?).map (fun b=>(b.toNat:Int)) else none
def ssub (s:ByteArray) (a b:Int):Option ByteArray:=if 0≤a∧a≤b∧b≤(s.size:Int) then some (s.extract a.toNat b.toNat) else none
def cat (a b:ByteArray):Option ByteArray:=if a.size+b.size≤9223372036854775807 then some (a++b) else none
def quo (k:IntKind) (a b:Int):Option Int:=if b=0 then none else some (k.wrap (a.tdiv b))
def rem (a b:Int):Option Int:=if b=0 then none else some (a.tmod b)
def app {α:Type} (by_:Nat) (l m:List α):Option (List α):=if (l.length+m.length)*by_≤140737488355328∧l.length+m.length≤9223372036854775807 then some (l++m) else none
theorem qb5 {α:Type} {by_:Nat} {l m r:List α} (h:app by_ l m=some r):r=l++m∧(l.length+m.length)*by_≤140737488355328∧l.length+m.length≤9223372036854775807:=by
 unfold app at h
 split at h
 ·rename_i hc;exact ⟨(Bh h).symm,hc⟩
 cases h
theorem qav {α:Type} {by_:Nat} {l m r:List α} (h:app by_ l m=some r) (hm:0 < m.length):0 < r.length:=by
 obtain ⟨rfl,_⟩:=qb5 h
 rw [Ad];omega
def qjs (bars:List Nat):Code→List Item→List (Code × List Item)
 | .seq a b,k=>qjs bars a (.code b::k)++qjs bars b k
 | .cond c a b,k=>barC bars c k fun k=>qjs bars a k++qjs bars b k
 | .block id b,k=>barB bars id k fun k=>qjs bars b (.blk id::k)
 | .loop c,k=>(c,k)::qjs bars c (.inl c::k)
 | _,_=> []
def qkk (bars:List Nat):Code→Nat→List Item→Option (List Item)
 | .seq a b,t,k=>match qkk bars a t (.code b::k) with | some x=>some x | none=>qkk bars b t k
 | .cond c a b,t,k=>match c with
   | .tmp u=>bif Nat.beq u t then some k else barC bars c k fun k=>match qkk bars a t k with | some x=>some x | none=>qkk bars b t k
   | _=>match qkk bars a t k with | some x=>some x | none=>qkk bars b t k
 | .block id b,t,k=>barB bars id k fun k=>qkk bars b t (.blk id::k)
 | .loop c,t,k=>qkk bars c t (.inl c::k)
 | _,_,_=>none
def qj7 (bars:List Nat):Code→Nat→List Item→Option (List Item)
 | .seq a b,t,k=>match qj7 bars a t (.code b::k) with | some x=>some x | none=>qj7 bars b t k
 | .cond c a b,t,k=>barC bars c k fun k=>match qj7 bars a t k with | some x=>some x | none=>qj7 bars b t k
 | .block id b,t,k=>bif Nat.beq id t then some k else barB bars id k fun k=>qj7 bars b t (.blk id::k)
 | .loop c,t,k=>qj7 bars c t (.inl c::k)
 | _,_,_=>none
def qgm (f:Func):Code:=match f.body with | some c=>c | none=> .skip
def ju (bars:List Nat) (f:Func) (i:Nat):Code × List Item:=((qjs bars (qgm f) [])[i]?).getD (.skip, [])
def v8 (bars:List Nat) (f:Func) (t:Nat):List Item:=(qkk bars (qgm f) t []).getD []
def qgn (bars:List Nat) (f:Func) (t:Nat):List Item:=(qj7 bars (qgm f) t []).getD []
def qdu:List Item→Bool
 | .code _::_=>true
 | .inl _::_=>true
 | .blk _::k=>qdu k
 | .bar::k=>qdu k
 | _=>false
section
variable {T:TT} {Q:Exit→Fr→Hp→Prop} {k:List Item} {kn:List Nat} {fr:FT} {n:Nat} {objs:Objs}
theorem qg0 {c:Code} {f1 f2:Fr} {H1 H2:Hp} (h:Less G N p f1 H1 f2 H2) (k:qq6 P G N p c Q f2 H2):qq6 P G N p c Q f1 H1:=by
 intro D w S F β a hp hH hf
 unfold Less at h
 obtain ⟨S',β',hx,hp',hH',hf'⟩:=h D w S F β a hp hH hf
 intro b ks cs
 obtain ⟨e,a',w',⟨fr',H',S2,β2,q,hx2,r⟩,harr⟩:=k D w S' F β' a hp' hH' hf' b ks cs
 exact ⟨e,a',w',⟨fr',H',S2,β2,q,hx.trans hx2,r⟩,harr⟩
theorem qiw {f1 f2:Fr} {H1 H2:Hp} (h:Less G N p f1 H1 f2 H2):∀(k:List Item),qdu k=true→QK P G N p Q k .normal f2 H2→QK P G N p Q k .normal f1 H1
 | .code c::k,_,q=>Wb (qid h q)
 | .inl c::k,_,q=>Wb (qg0 h q)
 | .blk i::k,hk,q=>qg5 (qiw h k hk q)
 | .bar::k,hk,q=>qiw h k hk q
theorem jr {c:Code} {fr1:FT} {n1:Nat} {objs1:Objs} {K:Code × List Item} (hK:(c,k)=K) (hl:Less G N p (frT fr) ⟨n,objs⟩ (frT fr1) ⟨n1,objs1⟩) (h:Ok P G T N p Q (.again K.1 K.2 fr1 n1 objs1)):Ok P G T N p Q (.loop c k kn fr n objs):=by
 subst hK
 unfold Ok at h ⊢
 exact fun hk=>qu3 (qg0 hl (h hk))
theorem ja {c:Code} {fr1:FT} {n1:Nat} {objs1:Objs} {K:Code × List Item} (hK:(c,k)=K) (hl:Less G N p (frT fr) ⟨n,objs⟩ (frT fr1) ⟨n1,objs1⟩) (h:Ok P G T N p Q (.again K.1 K.2 fr1 n1 objs1)):Ok P G T N p Q (.again c k fr n objs):=by
 subst hK
 unfold Ok at h ⊢
 exact fun hk=>qg0 hl (h hk)
theorem yb {c:Code} (h:Ok P G T N p Q (.go [] (.code c:: .inl c::k) [] fr n objs)):Ok P G T N p Q (.again c k fr n objs):=by
 unfold Ok at h ⊢
 intro hk
 simp only [wa,An] at hk
 exact qu4 (h (by simp only [wa,hk.1,hk.2,Bm]))
theorem qx {fr1:FT} {n1:Nat} {objs1:Objs} {K:List Item} (hK:k=K) (hc:qdu k=true) (hl:Less G N p (frT fr) ⟨n,objs⟩ (frT fr1) ⟨n1,objs1⟩) (h:Ok P G T N p Q (.go [] K [] fr1 n1 objs1)):Ok P G T N p Q (.bar k fr n objs):=by
 subst hK
 unfold Ok at h ⊢
 intro hk
 exact qiw hl k hc (h hk)
theorem qdh (h:Ok P G T N p Q (.go [] k [] fr n objs)):Ok P G T N p Q (.bar k fr n objs):=by
 unfold Ok at h ⊢
 exact h
end
section
variable {T:TT} {Q:Exit→Fr→Hp→Prop} {k:List Item} {kn:List Nat} {fr:FT} {n:Nat} {objs:Objs} {d:Bool} {all:Array Oper} {os:List Oper} {u:Tmp} {ty:TypeId} {pos:String} {aft:Array Edge} {α:Type}
theorem y7 {t:TypeId} {a i:Operand} {sz:Nat} {full:Bool} {l:List α} {C:α→List AV} {κ:IntKind} {j:Int} {x:α} {c:List AV} {e:TypeId} {it:TI} (E:Env P T) (hx:ix l j=some x)
 (ha:ev G (frT fr) a= .sl sz full (l.map C)) (hi:ev G (frT fr) i= .int κ j) (ht:T.get t=some it) (he:it.elem=some (e,sz)) (hC:C x=c)
 (hc:Ok P G T N p Q (.go [(u, .rptr c)] (.ops d all os::k) (unkn (some u) kn) fr n objs)):Ok P G T N p Q (.gen ⟨some u, .indexAddr t a i,ty,pos,aft,none⟩ d all os k kn fr n objs):=by
 obtain ⟨h0,hl⟩:=qn3 hx
 exact qay E ha hi ht he h0 (by rw [Av,hl,Ba,hC]) hc
theorem qqq {t:TypeId} {a i:Operand} {κ:IntKind} {j x:Int} {s:ByteArray} {it:TI} (E:Env P T) (hx:sx s j=some x)
 (ha:ev G (frT fr) a= .str s) (hi:ev G (frT fr) i= .int κ j) (ht:T.get t=some it) (he:it.str=true)
 (hc:Ok P G T N p Q (.go [(u, .int .u8 x)] (.ops d all os::k) (unkn (some u) kn) fr n objs)):Ok P G T N p Q (.gen ⟨some u, .index t a i,ty,pos,aft,none⟩ d all os k kn fr n objs):=by
 unfold sx at hx
 split at hx
 ·rename_i h0
  rw [Am] at hx
  obtain ⟨b,hb,rfl⟩:=hx
  exact q52 E ha hi ht he (show j=((j.toNat:Nat):Int) by omega) hb hc
 cases hx
def bnd (x:Option AV) (d:Nat) (i:Int):Prop:=match x with
 | none=>i=(d:Int)
 | some (.int _ j)=>j=i
 | _=>False
theorem q5n {x:Option AV} {d:Nat} {i:Int} (h:bnd x d i) (h0:0≤i):vp x d=some i.toNat:=by
 unfold bnd at h
 split at h
 ·subst h;rfl
 ·subst h;simp only [vp,if_pos h0]
 exact h.elim
theorem qdx {t:TypeId} {a:Operand} {lo hi:Option Operand} {s r:ByteArray} {i j:Int} {it:TI} (E:Env P T) (hx:ssub s i j=some r)
 (ha:ev G (frT fr) a= .str s) (ht:T.get t=some it) (he:it.str=true) (hl:bnd (lo.map (ev G (frT fr))) 0 i) (hh:bnd (hi.map (ev G (frT fr))) s.size j)
 (hc:Ok P G T N p Q (.go [(u, .str r)] (.ops d all os::k) (unkn (some u) kn) fr n objs)):Ok P G T N p Q (.gen ⟨some u, .slice t a lo hi none,ty,pos,aft,none⟩ d all os k kn fr n objs):=by
 unfold ssub at hx
 split at hx
 ·rename_i hcond
  cases hx
  exact qut E ha ht he (q5n hl (by omega)) (q5n hh (by omega)) (by omega) (by omega) hc
 cases hx
theorem quv {t t2:TypeId} {a b:Operand} {s s2 r:ByteArray} (E:Env P T) (hx:cat s s2=some r) (ha:ev G (frT fr) a= .str s) (hb:ev G (frT fr) b= .str s2)
 (hc:Ok P G T N p Q (.go [(u, .str r)] (.ops d all os::k) (unkn (some u) kn) fr n objs)):Ok P G T N p Q (.gen ⟨some u, .binOp .add t a b t2,ty,pos,aft,none⟩ d all os k kn fr n objs):=by
 unfold cat at hx
 split at hx
 ·rename_i hcond
  cases hx
  refine qdy (fun _=>rfl) ?_ hc
  simp only [evalOp,ha,hb,qlf,qhh,if_pos hcond,Ba]
 cases hx
structure CellsOk {α:Type} (C:α→List AV) (sz:Nat):Prop where
 len:∀a,(C a).length=sz
 pos:0 < sz
 all:∀a,∀z∈C a,z.one=true∧z.closed=true
theorem qdt {C:α→List AV} {sz:Nat} (hC:∀a,(C a).length=sz) (l:List α):(l.map C).flatten.length=l.length*sz:=by
 induction l with
 | nil=>simp
 | cons a l ih=>rw [AX,Bf,Ad,ih,hC,Ae,Bn];omega
theorem q44 {C:α→List AV} (l m:List α):((l++m).map C).flatten=(l.map C).flatten++(m.map C).flatten:=by
 rw [BZ,Cl]
theorem qbv {a b:Operand} {t t1 e:TypeId} {sz by_ id s0:Nat} {f2:Bool} {l m r:List α} {C:α→List AV} {z:List AV} {it ie:TI} (E:Env P T) (hx:app by_ l m=some r)
 (ha:ev G (frT fr) a= .bs sz id s0 0 l.length) (hb:ev G (frT fr) b= .sl sz f2 (m.map C)) (hm:0 < m.length) (hC:∀a,(C a).length=sz) (ht:T.get t=some it) (he:it.elem=some (e,sz)) (hie:T.get e=some ie) (hz:ie.zero=some z) (hzl:z.length=sz) (h0:0 < sz)
 (hby:qdv P e=some by_) (hn:qcj P t1=true) (ho:objs[id]? =some (s0, .row e (l.map C).flatten))
 (hc:Ok P G T N p Q (.go [(u, .bs sz id n 0 r.length)] (.ops d all os::k) (unkn (some u) kn) fr (n+1) (objs.set id (n, .row e (r.map C).flatten)))) (hcp:d=false∨qap a=false:=by first | exact .inl rfl | exact .inr rfl):
 Ok P G T N p Q (.gen ⟨some u, .call ⟨.builtin .append, #[a,b], #[t,t1]⟩,ty,pos,aft,none⟩ d all os k kn fr n objs):=by
 obtain ⟨rfl,h1,h2⟩:=qb5 hx
 refine qgq E ha hb ht he hie hz hzl h0 hby hn ho (qdt hC l) (by rw [As];exact h1) (by rw [As];exact h2) ?_ hcp (by rw [As];omega)
 rw [As,←q44]
 rw [Ad] at hc
 exact hc
theorem q2u {t:TypeId} {len:Nat} {qs:Array (Nat × Operand)} {e:TypeId} {sz:Nat} {it ie:TI} {l:List α} {C:α→List AV} {z:List AV} (E:Env P T)
 (hd:d=false) (ht:T.get t=some it) (he:it.elem=some (e,sz)) (hie:T.get e=some ie) (hz:ie.zero=some z) (hl:(Nat.ble (len*sz) 16777216 && Nat.blt 0 (len*sz))=true)
 (hf:Jv (fun i=>some (i*sz,sz)) (List.replicate (len*sz) .undef) (qs.toList.map fun q=>(q.1,ev G (frT fr) q.2))=some (l.map C).flatten) (h1:(l.map C).flatten.all (·.one)=true) (hn:l.length=len)
 (hc:Ok P G T N p Q (.go [(u, .bs sz objs.length n 0 l.length)] (.ops d all os::k) (unkn (some u) kn) fr (n+1) (objs++ [(n, .row e (l.map C).flatten)]))):Ok P G T N p Q (.gen ⟨some u, .buildSlice t len qs,ty,pos,aft,none⟩ d all os k kn fr n objs):=by
 subst hn
 exact qxj E hd ht he hie hz hl hf h1 hc
theorem q4i {t:Nat} {sz:Nat} {e:TypeId} {fr':FT} (hg:fr.get t= .sl 0 true []) (hs:FT.setK 10 fr t (.bs sz objs.length n 0 0) some=some fr'):Less G N p (frT fr) ⟨n,objs⟩ (frT fr') ⟨n+1,objs++ [(n, .row e [])]⟩:=by
 obtain ⟨fr2,h1,h2⟩:=FT.setK_ok _ _ _ _ _ hs
 cases h2
 unfold Less
 intro D w S F β a hp hH hf
 refine ⟨S,β,⟨rfl,rfl,rfl,Aj _,Aj _,fun _ _=>rfl,fun _ h=>h,fun _ h=> .inl h,fun _ _=>rfl,fun _ _=>rfl,fun _ _ h=>h⟩,Nat.le_succ_of_le hp,⟨hH.lts,hH.ltf,fun g=>(hH.glob g).pure (.rptr _),fun i s o hi=> ?_,fun i j si sj oi oj hi hj hne l1 l2=> ?_,fun i s o hi=> ?_⟩,hf.size,hf.defers,fun q=> ?_⟩
 ·simp only [AH] at hi
  split at hi
  ·exact BO (hH.ltn i s o hi)
  have:=Af hi
  simp only [AO,Al] at this
  rw [this.1];exact BT _
 ·have new:∀(i s:Nat) (o:Obj),(objs++ [(n,Obj.row e [])])[i]? =some (s,o)→o.live=true→objs[i]? =some (s,o):=by
   intro i s o hi hl
   rw [AH] at hi
   split at hi
   ·exact hi
   have:=Af hi
   simp only [AO,Al] at this
   rw [this.2] at hl;cases hl
  exact hH.inj i j si sj oi oj (new _ _ _ hi l1) (new _ _ _ hj l2) hne l1 l2
 ·simp only [AH] at hi
  split at hi
  ·exact (hH.obj i s o hi).to (fun x v h=>h.to (Cj _) (fun _ _=>rfl) (fun _ h=>h) (fun _ _=>rfl) (fun _ _ _ h=>h)) rfl (fun h=>h) (fun h=>h) (fun h=>h)
  have:=Af hi
  simp only [AO,Al] at this
  rw [this.2]
  exact fun h=>absurd rfl h
 have hv:=hf.val q
 show RV w S β (n+1) (fr'.get q) _
 rw [h1 q]
 by_cases hq:q=t
 ·subst hq
  rw [if_pos rfl]
  have hv':RV w S β n (.sl 0 true []) (a.tmps.getD q Go.undef):=by rw [←hg];exact hv
  generalize a.tmps.getD q Go.undef=v at hv'
  cases hv' with
  | sl _ _ _ A cap u hl hm hf0 hA hA1 hS hsz h1 hc hr hV=>
    have:=hf0 rfl
    subst this
    exact .bs0 sz objs.length n 0 A (BT _) (hV rfl rfl)
 rw [if_neg hq]
 exact hv.to (Cj _) (fun _ _=>rfl) (fun _ h=>h) (fun _ _=>rfl) (fun _ _ _ h=>h)
theorem quu {c:Code} (t s1 sz:Nat) (e:TypeId) {fr':FT} (hg:fr.get t= .sl s1 true []) (hs:FT.setK 10 fr t (.bs sz objs.length n 0 0) some=some fr') (h:Ok P G T N p Q (.loop c k kn fr' (n+1) (objs++ [(n, .row e [])]))) (h0:s1=0:=by rfl):Ok P G T N p Q (.loop c k kn fr n objs):=by
 subst h0
 unfold Ok at h ⊢
 exact fun hk=>qid (q4i hg hs) (h hk)
theorem q2c {i si j:Nat} {sz:Nat} {e ty:TypeId} {cs:List AV} (ho:objs[i]? =some (si, .var ty cs)) (hg:cs[j]? =some (.sl 0 true [])):
 Less G N p (frT fr) ⟨n,objs⟩ (frT fr) ⟨n+1,objs.set i (si, .var ty (cs.set j (.bs sz objs.length n 0 0)))++ [(n, .row e [])]⟩:=by
 unfold Less
 intro D w S F β a hp hH hf
 have up:∀x v,RV w S β n x v→RV w S β (n+1) x v:=fun x v h=>h.to (Cj _) (fun _ _=>rfl) (fun _ h=>h) (fun _ _=>rfl) (fun _ _ _ h=>h)
 have hil:=(Ah.1 ho).1
 have hjl:=(Ah.1 hg).1
 have at_:∀(q s:Nat) (o:Obj),(objs.set i (si, .var ty (cs.set j (.bs sz objs.length n 0 0)))++ [(n,Obj.row e [])])[q]? =some (s,o)→(q=i∧s=si∧o= .var ty (cs.set j (.bs sz objs.length n 0 0)))∨(q≠i∧objs[q]? =some (s,o))∨(q=objs.length∧s=n∧o= .row e []):=by
  intro q s o hq
  rw [AH] at hq
  split at hq
  ·by_cases hqi:q=i
   ·subst hqi
    rw [Bz hil] at hq
    simp only [Ab,Al] at hq
    exact .inl ⟨rfl,hq.1.symm,hq.2.symm⟩
   rw [BF (Ne.symm hqi)] at hq
   exact .inr (.inl ⟨hqi,hq⟩)
  rename_i hge
  have h1:=Af hq
  have h2:=(Ah.1 hq).1
  simp only [AO,Al] at h1
  simp only [Ai] at h2
  rw [B9] at h2 hge
  exact .inr (.inr ⟨by omega,h1.1,h1.2⟩)
 have old:∀(q s:Nat) (o:Obj),(objs.set i (si, .var ty (cs.set j (.bs sz objs.length n 0 0)))++ [(n,Obj.row e [])])[q]? =some (s,o)→o.live=true→∃o',objs[q]? =some (s,o')∧o'.live=true:=by
  intro q s o hq hl
  rcases at_ q s o hq with ⟨rfl,rfl,rfl⟩ | ⟨_,h⟩ | ⟨_,_,rfl⟩
  ·exact ⟨_,ho,rfl⟩
  ·exact ⟨o,h,hl⟩
  cases hl
 refine ⟨S,β,⟨rfl,rfl,rfl,Aj _,Aj _,fun _ _=>rfl,fun _ h=>h,fun _ h=> .inl h,fun _ _=>rfl,fun _ _=>rfl,fun _ _ h=>h⟩,Nat.le_succ_of_le hp,⟨hH.lts,hH.ltf,fun g=>(hH.glob g).pure (.rptr _),fun q s o hq=> ?_,fun q q' sq sq' oq oq' hq hq' hne l1 l2=> ?_,fun q s o hq=> ?_⟩,hf.size,hf.defers,fun q=>up _ _ (hf.val q)⟩
 ·rcases at_ q s o hq with ⟨_,rfl,_⟩ | ⟨_,h⟩ | ⟨_,rfl,_⟩
  ·exact BO (hH.ltn _ _ _ ho)
  ·exact BO (hH.ltn _ _ _ h)
  exact BT _
 ·obtain ⟨o1,a1,a2⟩:=old q sq oq hq l1
  obtain ⟨o2,b1,b2⟩:=old q' sq' oq' hq' l2
  exact hH.inj q q' sq sq' o1 o2 a1 b1 hne a2 b2
 rcases at_ q s o hq with ⟨rfl,rfl,rfl⟩ | ⟨_,h⟩ | ⟨_,rfl,rfl⟩
 ·obtain ⟨c,h1,h2,h3,h4,h5⟩:=hH.obj _ _ _ ho
  refine ⟨c,h1,by rw [B9];exact h2,h3,h4,fun m x hm=> ?_⟩
  by_cases hmj:m=j
  ·subst hmj
   rw [Bz hjl] at hm
   simp only [Ab] at hm
   subst hm
   refine ⟨rfl,?_⟩
   obtain ⟨_,hv⟩:=h5 m _ hg
   generalize c.getD m Go.undef=v at hv
   cases hv with
   | sl _ _ _ A cap u hl hm hf0 hA hA1 hS hsz h1 hc hr hV=>
     have:=hf0 rfl
     subst this
     exact .bs0 sz objs.length n 0 A (BT _) (hV rfl rfl)
  rw [BF (Ne.symm hmj)] at hm
  exact ⟨(h5 m x hm).1,up _ _ (h5 m x hm).2⟩
 ·exact (hH.obj _ _ _ h).to up rfl (fun h=>h) (fun h=>h) (fun h=>h)
 exact fun h=>absurd rfl h
theorem q08 {c:Code} (i j sz:Nat) (e:TypeId) {s1 si:Nat} {ty:TypeId} {cs cs':List AV} (ho:objs[i]? =some (si, .var ty cs)) (hg:cs[j]? =some (.sl s1 true [])) (hs:cs.set j (.bs sz objs.length n 0 0)=cs') (h:Ok P G T N p Q (.loop c k kn fr (n+1) (objs.set i (si, .var ty cs')++ [(n, .row e [])]))) (h0:s1=0:=by rfl):Ok P G T N p Q (.loop c k kn fr n objs):=by
 subst hs h0
 unfold Ok at h ⊢
 exact fun hk=>qid (q2c ho hg) (h hk)
def qkx (ids:List Nat):Nat→Objs→(Objs→Option Objs)→Option Objs
 | _, [],k=>k []
 | j,(s,o)::l,k=>qkx ids (j+1) l fun l=>bif ids.any (Nat.beq j) then k ((s, .dead)::l) else k ((s,o)::l)
theorem qdq {ids:List Nat}:∀(l:Objs) (j:Nat) (r:Objs) (k:Objs→Option Objs),qkx ids j l k=some r→∃l',qnb ids j l l'∧k l'=some r
 | [],j,r,k,h=>⟨[],trivial,h⟩
 | (s,o)::l,j,r,k,h=>by
   simp only [qkx] at h
   obtain ⟨l',h1,h2⟩:=qdq l (j+1) r _ h
   cases hb:ids.any (Nat.beq j) with
   | true=>
     rw [hb,cond_true] at h2
     exact ⟨(s, .dead)::l',⟨⟨rfl, .inl rfl⟩,h1⟩,h2⟩
   | false=>
     rw [hb,cond_false] at h2
     refine ⟨(s,o)::l',⟨⟨rfl, .inr ⟨rfl,fun hm=> ?_⟩⟩,h1⟩,h2⟩
     have:ids.any (Nat.beq j)=true:=List.any_eq_true.2 ⟨j,hm,Nat.beq_refl j⟩
     rw [hb] at this;cases this
theorem qom:∀(ps:List (Nat × AV)) (fr fr':FT),qr2 ps fr=some fr'→frT fr'=puts ps (frT fr)
 | [],fr,fr',h=>by simp only [qr2,Ab] at h;subst h;rfl
 | (t,x)::ps,fr,fr',h=>by
   simp only [qr2,qiq] at h
   obtain ⟨fr2,h1,h2⟩:=FT.setK_ok _ _ _ _ _ h
   rw [qom ps fr2 fr' h2,h1.put]
   rfl
def viwL (f:Fr) (objs:Objs) (ids:List Nat):List (Nat × AV)→Prop
 | []=>True
 | (t,x)::ps=>(∃sz id s e l,f t= .bs sz id s 0 l.length∧x= .sl sz false l∧id∈ids∧0 < sz∧objs[id]? =some (s, .row e l.flatten)∧∀c∈l,c.length=sz∧∀z∈c,z.one=true∧z.closed=true)∧viwL f objs ids ps
theorem qvl {f:Fr} {objs:Objs} {ids:List Nat}:∀(ps:List (Nat × AV)),viwL f objs ids ps→∀q∈ps,∃sz id s e l,f q.1= .bs sz id s 0 l.length∧q.2= .sl sz false l∧id∈ids∧0 < sz∧objs[id]? =some (s, .row e l.flatten)∧∀c∈l,c.length=sz∧∀z∈c,z.one=true∧z.closed=true
 | [],_,q,hq=>by cases hq
 | (t,x)::ps,h,q,hq=>by
   rcases AE.1 hq with rfl | hq
   ·exact h.1
   exact qvl ps h.2 q hq
theorem qry {α:Type} {C:α→List AV} {f:Fr} {objs:Objs} {ids:List Nat} {ps:List (Nat × AV)} {t sz id s:Nat} {e:TypeId} {l:List α} (hC:CellsOk C sz) (hf:f t= .bs sz id s 0 l.length) (hi:ids.contains id=true) (ho:objs[id]? =some (s, .row e (l.map C).flatten)) (h:viwL f objs ids ps):viwL f objs ids ((t, .sl sz false (l.map C))::ps):=
 ⟨⟨sz,id,s,e,l.map C,by rw [As];exact hf,rfl,by simpa using hi,hC.pos,ho,fun c hc=>by
   obtain ⟨a,_,rfl⟩:=BG.1 hc
   exact ⟨hC.len a,hC.all a⟩⟩,h⟩
theorem qvk {f:Fr} {objs:Objs} {ids:List Nat}:viwL f objs ids []:=trivial
theorem q30 {f:Fr}:∀(ps:List (Nat × AV)) (t:Nat),puts ps f t=f t∨∃q∈ps,q.1=t∧puts ps f t=q.2:=by
 intro ps
 induction ps generalizing f with
 | nil=>exact fun t=> .inl rfl
 | cons q ps ih=>
   intro t
   obtain ⟨u,x⟩:=q
   simp only [puts]
   rcases ih (f:=put (some u) x f) t with h | ⟨q,hq,e,h⟩
   ·rw [h,ur]
    by_cases hu:t=u
    ·rw [if_pos hu];exact .inr ⟨(u,x),AK ..,hu.symm,rfl⟩
    rw [if_neg hu];exact .inl rfl
   exact .inr ⟨q,Ay _ hq,e,h⟩
theorem q18 {f:Fr} {objs':Objs} (ps:List (Nat × AV)) (ids:List Nat) (hps:viwL f objs ids ps) (ho:qnb ids 0 objs objs'):Less G N p f ⟨n,objs⟩ (puts ps f) ⟨n,objs'⟩:=by
 unfold Less
 intro D w S F β a hp hH hf
 let S2:Nat→Prop:=fun k=>S k∨∃(id s:Nat) (o:Obj),id∈ids∧objs[id]? =some (s,o)∧o.live=true∧β s=k
 have hS:∀k,S k→S2 k:=fun k h=> .inl h
 have rv:∀x v,RV w S β n x v→RV w S2 β n x v:=fun x v h=>h.to (Aj _) (fun _ _=>rfl) hS (fun _ _=>rfl) (fun _ _ _ h=>h)
 refine ⟨S2,β,⟨rfl,rfl,rfl,Aj _,Aj _,fun _ _=>rfl,hS,?_,fun _ _=>rfl,fun _ _=>rfl,fun _ _ h=>h⟩,hp,⟨?_,hH.ltf,fun g=>⟨rv _ _ (hH.glob g).rv,(hH.glob g).sh⟩,fun i s o hi=> ?_,fun i j si sj oi oj hi hj hne h1 h2=> ?_,fun i s o hi=> ?_⟩,hf.size,hf.defers,fun t=> ?_⟩
 ·rintro k (h | ⟨id,s,o,_,hi,hl,rfl⟩)
  ·exact .inl h
  exact .inr ((hH.obj id s _ hi).notS hl).2
 ·rintro k (h | ⟨id,s,o,_,hi,hl,rfl⟩)
  ·exact hH.lts k h
  exact (hH.obj id s _ hi).lt hl
 ·obtain ⟨o1,h1,_⟩:=Z9 _ _ 0 ho i s o hi
  exact hH.ltn i s o1 h1
 ·obtain ⟨o1,a1,a2⟩:=Z9 _ _ 0 ho i si oi hi
  obtain ⟨o2,b1,b2⟩:=Z9 _ _ 0 ho j sj oj hj
  rcases a2 with rfl | ⟨rfl,_⟩
  ·cases h1
  rcases b2 with rfl | ⟨rfl,_⟩
  ·cases h2
  exact hH.inj i j si sj _ _ a1 b1 hne h1 h2
 ·obtain ⟨o1,a1,a2⟩:=Z9 _ _ 0 ho i s o hi
  rcases a2 with rfl | ⟨rfl,hni⟩
  ·trivial
  rw [AN] at hni
  have hor:=hH.obj i s _ a1
  cases hl:o.live with
  | false=>
    cases o with
    | dead=>trivial
    | var t cs=>cases hl
    | row t cs=>exact OR.nil hl
    | froz t cs=>
      have h2:=hor
      obtain ⟨_,_,_,_,h2,_⟩:=h2
      exact hor.to rv rfl (fun h=>absurd h2 h) (hS _) (fun h=>h)
  | true=>
    refine hor.to rv rfl (fun hn hS'=> ?_) (hS _) (fun h=>h)
    rcases hS' with h | ⟨id,s2,o2,hid,hi2,hl2,e⟩
    ·exact hn h
    exact hH.inj i id s s2 _ _ a1 hi2 (fun e=>hni (e ▸ hid)) hl hl2 e.symm
 rcases q30 (f:=f) ps t with h | ⟨q,hq,rfl,h⟩
 ·rw [h];exact rv _ _ (hf.val t)
 rw [h]
 obtain ⟨sz,id,s,e,l,h1,h2,h3,h4,h5,h6⟩:=qvl ps hps q hq
 have hv:=hf.val q.1
 rw [h1] at hv
 rw [h2]
 generalize a.tmps.getD q.1 Go.undef=v at hv ⊢
 generalize hln:l.length=ln at hv
 cases hv with
 | bs0 _ _ _ _ A hs=>
   have:l= []:=AZ.1 hln
   subst this
   exact .sl sz false [] A 0 (fun _ _=>Go.undef) (Aj _) (by omega) (fun h=>by cases h) (fun h=>absurd rfl h) (fun h=>absurd rfl h) (fun _ _ _ h=>absurd rfl h) (by simp) (by simp) (by simp) (by simp) (fun h=>by cases h)
 | bs _ _ _ _ _ cap m' e' hs hsh hn hl hm h0=>
   subst hln
   have hlen:∀c∈l,c.length=sz:=fun c hc=>(h6 c hc).1
   have hne:l.flatten≠ []:=by
    intro e
    obtain ⟨c0,hc0⟩:∃c0,l[0]? =some c0:=⟨l[0],Ak h0⟩
    have:=hlen c0 (Af hc0)
    have h2:=qfb l hlen 0 c0 0 c0[0] hc0 (Ak (by omega))
    rw [e] at h2
    simp at h2
   obtain ⟨c,hc,hcl2,hnS,hnF,hcells⟩:=hH.obj id s _ h5 hne
   refine .sl sz false l (some ⟨β s,0,none⟩) cap (fun j i=>c.getD (j*sz+i) Go.undef) hl hm (by simp) (fun _ a ha=>by cases ha;rfl) (fun _=>rfl) (fun b o hb _=> ?_) hlen (fun c' hc' x hx=>((h6 c' hc').2 x hx).1) (fun b o hb j c' i x hj hi=> ?_) (fun j c' i x hj hi=> ?_) (fun h=>by cases h)
   ·simp only [Ab,Addr.mk.injEq] at hb
    exact AM ⟨id,s,_,h3,h5,qb1 hne,hb.1⟩
   ·simp only [Ab,Addr.mk.injEq] at hb
    obtain ⟨rfl,rfl,_⟩:=hb
    have hx:=qfb l hlen j c' i x hj hi
    have hlt:=(Ah.1 hx).1
    simp only [World.cell?,hc,AN]
    exact Kd (by omega)
   have hx:=qfb l hlen j c' i x hj hi
   exact ((hcells _ x hx).2.pure (j9 x ((h6 c' (Af hj)).2 x (Af hi)).2)).to (Aj 0) (fun _ _=>rfl) (fun _ h=>Or.inl h) (fun _ _=>rfl) (fun _ _ _ h=>h)
theorem qxi {fr':FT} {objs':Objs} (ps:List (Nat × AV)) (ids:List Nat) (hk:qdu k=true) (hps:viwL (frT fr) objs ids ps) (ho:qkx ids 0 objs some=some objs') (hf:qr2 ps fr=some fr') (hc:Ok P G T N p Q (.bar k fr' n objs')):Ok P G T N p Q (.bar k fr n objs):=by
 unfold Ok at hc ⊢
 obtain ⟨l',ho,e⟩:=qdq _ _ _ _ ho
 cases e
 have:=q18 (G:=G) (N:=N) (p:=p) (n:=n) ps ids hps ho
 rw [←qom ps fr fr' hf] at this
 exact fun h=>qiw this k hk (hc h)
end
theorem jm {α:Type} {C:α→List AV} {sz id s:Nat} {l:List α} {objs:Objs} {e:TypeId} (hC:CellsOk C sz) (ho:objs[id]? =some (s, .row e (l.map C).flatten)):W7 objs (.bs sz id s 0 l.length) (.sl sz false (l.map C)):=by
 refine ⟨rfl,rfl,hC.pos,e,_,ho,by rw [As],fun c hc=> ?_,?_,fun c hc z hz=> ?_⟩
 ·obtain ⟨a,_,rfl⟩:=BG.1 hc;exact hC.len a
 ·rw [BR,Bi (by rw [qdt hC.len];exact Aj _)]
 obtain ⟨a,_,rfl⟩:=BG.1 hc;exact hC.all a z hz
theorem q1i {α:Type} {C:α→List AV} {sz id s len:Nat} {l:List α} {objs:Objs} {e:TypeId} (hC:CellsOk C sz) (hl:l.length=len) (ho:objs[id]? =some (s, .row e (l.map C).flatten)):W7 objs (.bs sz id s 0 len) (.sl sz false (l.map C)):=by
 subst hl;exact jm hC ho
theorem Wv {T:TT} {Q:Exit→Fr→Hp→Prop} {k:List Item} {kn:List Nat} {fr:FT} {n:Nat} {objs:Objs} {c:Code} (t:Nat) {sz:Nat} {full:Bool} {l:List (List AV)} (hg:fr.get t= .sl sz full l)
 (h:l.length≤9223372036854775807→Ok P G T N p Q (.loop c k kn fr n objs)):Ok P G T N p Q (.loop c k kn fr n objs):=by
 unfold Ok at h ⊢
 intro hk D w S F β a hp hH hf
 have hv:=hf.val t
 have e:frT fr t= .sl sz full l:=hg
 rw [e] at hv
 have hl:l.length≤9223372036854775807:=by
  generalize a.tmps.getD t Go.undef=v at hv
  cases hv with
  | sl _ _ _ A cap u hl hm=>exact BD hl hm
 exact h hl hk D w S F β a hp hH hf
section
variable {α:Type} {l rest:List α} {j:Nat} {x:α} {C:α→List AV}
theorem Z7 (hl:l.drop j= []) (hj:j≤l.length):decide (((j:Nat):Int) < ((l.map C).length:Int))=false:=by
 have:l.length≤j:=by simpa using hl
 rw [As]
 exact decide_eq_false (by omega)
theorem Qv (hl:l.drop j=x::rest) (hm:l.length≤9223372036854775807):decide (((j:Nat):Int) < ((l.map C).length:Int))=true∧l[j]? =some x∧l.drop (j+1)=rest∧j+1≤l.length∧IntKind.i64.wrap ((j:Int)+1)=((j+1:Nat):Int):=by
 have hlt:j < l.length:=by
  rcases Br j l.length with h | h
  ·exact h
  rw [AW h] at hl;cases hl
 rw [Be hlt] at hl
 injection hl with h1 h2
 refine ⟨?_,by rw [Ak hlt,h1],h2,hlt,?_⟩
 ·rw [As]
  exact decide_eq_true (by omega)
 have e:((j:Int)+1)=((j+1:Nat):Int):=rfl
 rw [e]
 unfold IntKind.wrap
 simp [IntKind.bits,IntKind.signed]
 omega
theorem qaj (hj:j+1≤l.length) (hm:l.length≤9223372036854775807):IntKind.i64.wrap ((j:Int)+1)=((j+1:Nat):Int):=by
 have e:((j:Int)+1)=((j+1:Nat):Int):=rfl
 rw [e]
 unfold IntKind.wrap
 simp [IntKind.bits,IntKind.signed]
 omega
theorem qak {c:List AV} (hx:l[j]? =some x) (hC:C x=c):(l.map C)[j]? =some c:=by rw [Av,hx,Ba,hC]
theorem Qw (h:(l.map C).length≤9223372036854775807):l.length≤9223372036854775807:=by rwa [As] at h
end
theorem qc3 {fr fr':FT} {n n':Nat} {objs objs':Objs} (hf:leFT (rho objs' objs) n' fr fr') (ho:leOs (rho objs' objs) n' objs objs'):Less G N 0 (frT fr) ⟨n,objs⟩ (frT fr') ⟨n',objs'⟩:=qt3 _ hf ho
theorem Q4 (x:AV):wk1 x x:=by
 unfold wk1
 cases x <;> first | rfl | exact ⟨.inl rfl, .inl rfl,fun h=>⟨h, .inl rfl⟩⟩
theorem qvf:∀l:List AV,wkL l l
 | []=>trivial
 | x::l=>⟨Q4 x,qvf l⟩
theorem qza:wkL [] []:=trivial
theorem Wl {x y:AV} {xs ys:List AV} (h:wk1 x y) (hs:wkL xs ys):wkL (x::xs) (y::ys):=⟨h,hs⟩
theorem qog:wkLs [] []:=trivial
theorem qii {x y:AV} {xs ys:List AV} (h:wk x y) (hs:wkLs xs ys):wkLs (x::xs) (y::ys):=⟨h,hs⟩
theorem qtc {s1 sz:Nat} {f:Bool} {l:List (List AV)} (h:s1=sz∨l= []):wk1 (.sl s1 f l) (.sl sz false l):=⟨.inl rfl,h,fun e=>by cases e⟩
theorem qy9 {s1 sz:Nat} {f:Bool} {l:List (List AV)} (h:s1=sz∨l= []):wk (.sl s1 f l) (.sl sz false l):=qtc h
section
variable {objs:Objs}
theorem Y9 {x y:AV} (h:wk1 x y) (hx:∀sz id s off len,x≠ .bs sz id s off len):W7 objs x y:=by
 unfold W7
 split
 ·exact absurd rfl (hx _ _ _ _ _)
 exact h
theorem y6 {s1 sz:Nat} {f:Bool} {l:List (List AV)} (h:s1=sz∨l= []):W7 objs (.sl s1 f l) (.sl sz false l):=Y9 (qtc h) (by simp)
theorem zo {k:IntKind} {a b:Int} (h:a=b):W7 objs (.int k a) (.int k b):=h ▸ Y9 (Q4 _) (by simp)
theorem qbh {a b:Bool} (h:a=b):W7 objs (.bool a) (.bool b):=h ▸ Y9 (Q4 _) (by simp)
theorem z6 {a b:ByteArray} (h:a=b):W7 objs (.str a) (.str b):=h ▸ Y9 (Q4 _) (by simp)
theorem qe2:qol objs [] []:=trivial
theorem jk {x y:AV} {xs ys:List AV} (h:W7 objs x y) (hs:qol objs xs ys):qol objs (x::xs) (y::ys):=⟨h,hs⟩
theorem Jk:qjh objs [] []:=trivial
theorem j8 {x y:AV} {xs ys:List AV} (h:view objs x y) (hs:qjh objs xs ys):qjh objs (x::xs) (y::ys):=⟨h,hs⟩
theorem qhf {xs ys:List AV} (h:qol objs xs ys):view objs (.agg xs) (.agg ys):=h
theorem uq {x y:AV} (h:W7 objs x y) (hy:∀ds,y≠ .agg ds):view objs x y:=by
 unfold view
 split
 ·exact absurd rfl (hy _)
 exact h
theorem Yt {xs ys:List AV} (h:qjh objs xs ys):qr0 objs (.tup xs) (.tup ys):=h
theorem qrz {x y:AV} (h:view objs x y) (hy:∀ds,y≠ .tup ds):qr0 objs x y:=by
 unfold qr0
 split
 ·exact absurd rfl (hy _)
 exact h
end
def AV.closed3:AV→Bool
 | .tup cs=>cs.all AV.closed2
 | .fn _ cs=>cs.all AV.closed
 | x=>x.closed2
theorem zt (x:AV) (h:x.closed3=true):Pure x:=by
 cases x with
 | tup cs=>exact .tup cs (fun y hy=>zf y (Aw.1 h y hy))
 | fn f cs=>exact .fn f cs (fun y hy=>j9 y (Aw.1 h y hy))
 | _=>exact zf _ h
theorem yk {xs:List AV} (h:xs.all AV.closed3=true):∀y∈xs,Pure y:=fun y hy=>zt y (Aw.1 h y hy)
def ic (k:Int):List AV:= [.int .i64 k]
def sc (s:ByteArray):List AV:= [.str s]
theorem qcw:CellsOk ic 1:=⟨fun _=>rfl,by decide,fun a z hz=>by simp [ic] at hz;subst hz;exact ⟨rfl,rfl⟩⟩
theorem zp:CellsOk sc 1:=⟨fun _=>rfl,by decide,fun a z hz=>by simp [sc] at hz;subst hz;exact ⟨rfl,rfl⟩⟩
end Go.Proofs.YtpnkemogepoioaaGreatDoorW.Ex
