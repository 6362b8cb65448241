/- A symbolic executor for the machine's code: functions that are handed lists of their caller's: what such a list holds told less, names below the caller's kept, what is returned. Conditions: none beside those in each theorem. -/
import Derived.Test.YtpnkemogepoioaaGreatDoorExP
import Derived.KernelRfl
namespace Go.Proofs.YtpnkemogepoioaaGreatDoorW.Ex
open Go
variable {D:List Deferred}
set_option linter.all false
set_option maxRecDepth 100000
variable {P:Program} {G:Nat→List AV} {T:TT} {N p:Nat} {Q:Exit→Fr→Hp→Prop} {k:List Item} {kn:List Nat} {fr:FT} {n:Nat} {objs:Objs}
theorem q2a {i s:Nat} {e:TypeId} {cs cs':List AV} (ho:objs[i]? =some (s, .row e cs)) (hw:wkL cs cs'):Less G N p (frT fr) ⟨n,objs⟩ (frT fr) ⟨n,objs.set i (s, .row e cs')⟩:=by
 obtain ⟨hl,hg⟩:=qd9 _ _ hw
 have hil:=(Ah.1 ho).1
 have at_:∀(q t:Nat) (o:Obj),(objs.set i (s, .row e cs'))[q]? =some (t,o)→(q=i∧t=s∧o= .row e cs')∨(q≠i∧objs[q]? =some (t,o)):=by
  intro q t o hq
  by_cases hqi:q=i
  ·subst hqi
   rw [Bz hil] at hq
   simp only [Ab,Al] at hq
   exact .inl ⟨rfl,hq.1.symm,hq.2.symm⟩
  rw [BF (Ne.symm hqi)] at hq
  exact .inr ⟨hqi,hq⟩
 have hlive:(Obj.row e cs').live=(Obj.row e cs).live:=by
  show (!cs'.isEmpty)=(!cs.isEmpty)
  cases cs <;> cases cs' <;> simp_all
 unfold Less
 intro D w S F β a hp hH hf
 refine ⟨S,β,Ext.refl w S F β p,hp,⟨hH.lts,hH.ltf,hH.glob,fun q t o hq=> ?_,fun q q' sq sq' oq oq' hq hq' hne l1 l2=> ?_,fun q t o hq=> ?_⟩,hf⟩
 ·rcases at_ q t o hq with ⟨_,rfl,_⟩ | ⟨_,h⟩
  ·exact hH.ltn i t _ ho
  exact hH.ltn q t o h
 ·have old:∀(q t:Nat) (o:Obj),(objs.set i (s, .row e cs'))[q]? =some (t,o)→o.live=true→∃o',objs[q]? =some (t,o')∧o'.live=true:=by
   intro q t o hq hv
   rcases at_ q t o hq with ⟨rfl,rfl,rfl⟩ | ⟨_,h⟩
   ·exact ⟨_,ho,by rw [←hlive];exact hv⟩
   exact ⟨o,h,hv⟩
  obtain ⟨o1,h1,v1⟩:=old _ _ _ hq l1
  obtain ⟨o2,h2,v2⟩:=old _ _ _ hq' l2
  exact hH.inj q q' sq sq' o1 o2 h1 h2 hne v1 v2
 rcases at_ q t o hq with ⟨rfl,rfl,rfl⟩ | ⟨_,h⟩
 ·intro hne
  have hor:=hH.obj q t _ ho
  obtain ⟨c,h1,h2,h3,h4,h5⟩:=hor (by rintro rfl;exact hne (AZ.1 (by rw [←hl];rfl)))
  refine ⟨c,h1,by omega,h3,h4,fun j y hj=> ?_⟩
  obtain ⟨x,hx,hk⟩:=hg j y hj
  obtain ⟨o1,r1⟩:=h5 j x hx
  exact ⟨(qij hk).trans o1,ql1 hk r1⟩
 exact hH.obj q t o h
theorem q07 (i s:Nat) (e:TypeId) {cs cs':List AV} (hk:qdu k=true) (ho:objs[i]? =some (s, .row e cs)) (hw:wkL cs cs') (h:Ok P G T N p Q (.bar k fr n (objs.set i (s, .row e cs')))):Ok P G T N p Q (.bar k fr n objs):=by
 unfold Ok at h ⊢
 exact fun hi=>qiw (q2a ho hw) k hk (h hi)
theorem qzb:∀{a b c d:List AV},wkL a b→wkL c d→wkL (a++c) (b++d)
 | [], [],_,_,_,h=>h
 | x::a,y::b,c,d,h,g=>⟨h.1,qzb h.2 g⟩
 | [],_::_,_,_,h,_=>h.elim
 | _::_, [],_,_,h,_=>h.elim
theorem qpm {fr fr':FT} {n n':Nat} {objs objs':Objs} (hid:∀s,s < p→rho objs' objs s=s) (hp:p≤n') (hf:leFT (rho objs' objs) n' fr fr') (ho:leOs (rho objs' objs) n' objs objs'):Less G N p (frT fr) ⟨n,objs⟩ (frT fr') ⟨n',objs'⟩:=q4j _ hid hp hf ho
theorem qxy {m:Nat} {x:AV} (h:x.closed=true):x.un1 m=true:=by
 cases x with
 | fn f caps=>
   have:caps= []:=List.isEmpty_iff.1 h
   subst this;rfl
 | _=>first | exact h | cases h
theorem qyg {ι ρ:Nat→Nat} {x:AV} (h:x.closed=true):x.mv1 ι ρ=x:=by
 cases x with
 | fn f caps=>
   have:caps= []:=List.isEmpty_iff.1 h
   subst this;rfl
 | _=>first | rfl | cases h
theorem qee {α:Type} {C:α→List AV} {sz:Nat} (hC:CellsOk C sz) (l:List α):∀x∈(l.map C).flatten,x.closed=true:=by
 intro x hx
 rw [List.mem_flatten] at hx
 obtain ⟨c,hc,hx⟩:=hx
 obtain ⟨a,_,rfl⟩:=BG.1 hc
 exact (hC.all a x hx).2
theorem q3o {α:Type} {C:α→List AV} {sz m:Nat} {e:TypeId} (hC:CellsOk C sz) (l:List α):Obj.un m (.row e (l.map C).flatten)=true:=
 Aw.2 fun x hx=>qxy (qee hC l x hx)
theorem q8r {e:TypeId} (cs:List AV):((Obj.row e cs).live || (Obj.row e cs).ghost)=true:=by cases cs <;> rfl
section
variable {d:Bool} {all:Array Oper} {os:List Oper} {u:Tmp} {ty:TypeId} {pos:String} {aft:Array Edge}
theorem qj9 {t:TypeId} {a i:Operand} {sz id s len:Nat} {κ:IntKind} {j:Int} {e:TypeId} {it:TI} (E:Env P T)
 (ha:ev G (frT fr) a= .bs sz id s 0 len) (hi:ev G (frT fr) i= .int κ j) (ht:T.get t=some it) (he:it.elem=some (e,sz)) (h0:0≤j) (hl:j.toNat < len)
 (hc:Ok P G T N p Q (.go [(u, .ptr id s (j.toNat*sz))] (.ops d all os::k) (unkn (some u) kn) fr n objs)):Ok P G T N p Q (.gen ⟨some u, .indexAddr t a i,ty,pos,aft,none⟩ d all os k kn fr n objs):=by
 refine qdy (fun _=>rfl) ?_ hc
 simp only [evalOp,ha,hi,Kc,if_pos h0,(ti E.hT ht).elem _ he,Ba]
 rw [if_pos ⟨trivial,hl⟩,AN]
 rfl
theorem q2s {t:TypeId} {a x:Operand} {id s off:Nat} {v:AV} {te:TypeId} {cs:List AV}
 (ha:ev G (frT fr) a= .ptr id s off) (hx:ev G (frT fr) x=v) (hv:K1 v=some [v]) (hsz:szP P t=some 1) (ho:objs[id]? =some (s, .row te cs)) (hl:off+1≤cs.length)
 (hc:Ok P G T N p Q (.go [] (.ops false all os::k) kn fr n (objs.set id (s, .row te (Qu cs off [v]))))):Ok P G T N p Q (.gen ⟨none, .store t a x,ty,pos,aft,none⟩ false all os k kn fr n objs):=by
 unfold Ok at hc ⊢
 refine fun hk=>Or.inl ⟨.undef,⟨n,objs.set id (s, .row te (Qu cs off [v]))⟩,fun h=>(by cases h),?_,hc hk⟩
 simp only [evalOp,ha,hx,Q6,hv,hsz,ho]
 rw [if_pos (by rfl),if_pos ⟨trivial,by simpa using hl,by omega⟩]
 rfl
end
def wkO (o o':Obj):Prop:=match o' with
 | .dead=>True
 | .var t cs=>(match o with | .var t' cs'=>t'=t∧wkL cs' cs | _=>False)
 | .row t cs=>(match o with | .row t' cs'=>t'=t∧wkL cs' cs | _=>False)
 | .froz _ _=>o=o'
def wkOs:Objs→Objs→Prop
 | [], []=>True
 | (s,o)::l,(s',o')::l'=>(s=s'∧wkO o o')∧wkOs l l'
 | _,_=>False
theorem qhc:∀(l l':Objs),wkOs l l'→∀(i s:Nat) (o':Obj),l'[i]? =some (s,o')→∃o,l[i]? =some (s,o)∧wkO o o'
 | [], [],_,i,s,o',h=>by simp at h
 | [],_::_,h,_,_,_,_=>h.elim
 | _::_, [],h,_,_,_,_=>h.elim
 | (s,o)::l,(t,q)::l',h,0,s',o',hi=>by
   simp only [Aq,Ab,Al] at hi
   obtain ⟨rfl,rfl⟩:=hi
   exact ⟨o,by rw [h.1.1];rfl,h.1.2⟩
 | (s,o)::l,(t,q)::l',h,i+1,s',o',hi=>by
   obtain ⟨o2,h1,h2⟩:=qhc l l' h.2 i s' o' (by simpa using hi)
   exact ⟨o2,by simpa using h1,h2⟩
theorem qve {o o':Obj} (h:wkO o o') (hl:o'.live=true):o.live=true:=by
 cases o' with
 | dead=>cases hl
 | froz t cs=>cases hl
 | var t cs=>
   cases o with
   | var t' cs'=>rfl
   | _=>exact h.elim
 | row t cs=>
   cases o with
   | row t' cs'=>
     obtain ⟨_,h⟩:=h
     have:=(qd9 _ _ h).1
     cases cs with
     | nil=>cases hl
     | cons a l=>cases cs' with
       | nil=>simp at this
       | cons b l'=>rfl
   | _=>exact h.elim
theorem ACalls.wk {f:FuncId} {xs ys:List AV} {x:AV} {m:Nat} {O O':Objs} {H:Hp} (h:ACalls P G f ys ⟨m,O'⟩ x H) (hw:wkLs xs ys) (ho:wkOs O O'):ACalls P G f xs ⟨m,O⟩ x H:=by
 intro w S F β vs hH hv
 obtain ⟨hl,hg⟩:=qoh xs ys hw
 have cells:∀(cs cs':List AV) (c:Array Value),wkL cs' cs→(∀(i:Nat) (x:AV),cs'[i]? =some x→x.one=true∧RV w S β m x (c.getD i Go.undef))→∀(i:Nat) (x:AV),cs[i]? =some x→x.one=true∧RV w S β m x (c.getD i Go.undef):=by
  intro cs cs' c hw h i x hi
  obtain ⟨y,hy,hk⟩:=(qd9 _ _ hw).2 i x hi
  exact ⟨(qij hk).trans (h i y hy).1,ql1 hk (h i y hy).2⟩
 refine h w S F β vs ⟨hH.lts,hH.ltf,hH.glob,fun i s o hi=> ?_,fun i j si sj oi oj hi hj hne h1 h2=> ?_,fun i s o hi=> ?_⟩ ⟨by rw [hv.1,hl],fun i y hi=> ?_⟩
 ·obtain ⟨o1,h1,_⟩:=qhc _ _ ho i s o hi
  exact hH.ltn i s o1 h1
 ·obtain ⟨o1,e1,k1⟩:=qhc _ _ ho i si oi hi
  obtain ⟨o2,e2,k2⟩:=qhc _ _ ho j sj oj hj
  exact hH.inj i j si sj o1 o2 e1 e2 hne (qve k1 h1) (qve k2 h2)
 ·obtain ⟨o1,e1,k1⟩:=qhc _ _ ho i s o hi
  have hor:=hH.obj i s o1 e1
  unfold wkO at k1
  split at k1
  ·trivial
  ·split at k1
   ·obtain ⟨rfl,hw⟩:=k1
    obtain ⟨c,h1,h2,h3,h4,h5⟩:=hor
    exact ⟨c,h1,by rw [h2,(qd9 _ _ hw).1],h3,h4,cells _ _ c hw h5⟩
   exact k1.elim
  ·split at k1
   ·obtain ⟨rfl,hw⟩:=k1
    intro hne
    obtain ⟨c,h1,h2,h3,h4,h5⟩:=hor (by
     intro e;subst e
     exact hne (AZ.1 ((qd9 _ _ hw).1.symm.trans rfl)))
    exact ⟨c,h1,by rw [←(qd9 _ _ hw).1];exact h2,h3,h4,cells _ _ c hw h5⟩
   exact k1.elim
  subst k1;exact hor
 obtain ⟨z,hz,hk⟩:=hg i y hi
 exact q7z hk (hv.2 i z hz)
def frOs (r:Nat):Objs→Prop
 | []=>True
 | (s,o)::O=>((o.live || o.ghost)=true∧Nat.blt s r=true∧o.un r=true)∧frOs r O
def mvOs (ι ρ:Nat→Nat):Objs→Objs→Prop
 | [], []=>True
 | (s,o)::O,(s',o')::O'=>(s'=ρ s∧o'=o.mv ι ρ)∧mvOs ι ρ O O'
 | _,_=>False
def qgh:List Nat→Objs→Option Objs
 | [],_=>some []
 | i::is,objs=>match objs[i]? with
   | some q=>(match qgh is objs with | some l=>some (q::l) | none=>none)
   | none=>none
theorem qpt {r:Nat}:∀(O:Objs),frOs r O→∀(i s:Nat) (o:Obj),O[i]? =some (s,o)→(o.live || o.ghost)=true∧s < r∧o.un r=true
 | [],_,i,s,o,h=>by simp at h
 | (s1,o1)::O,h,0,s,o,hi=>by
   simp only [Aq,Ab,Al] at hi
   obtain ⟨rfl,rfl⟩:=hi
   exact ⟨h.1.1,Ao h.1.2.1,h.1.2.2⟩
 | (s1,o1)::O,h,i+1,s,o,hi=>qpt O h.2 i s o (by simpa using hi)
theorem qph {ι ρ:Nat→Nat}:∀(O O':Objs),mvOs ι ρ O O'→O'.length=O.length∧∀(i s:Nat) (o:Obj),O[i]? =some (s,o)→O'[i]? =some (ρ s,o.mv ι ρ)
 | [], [],_=>⟨rfl,by simp⟩
 | [],_::_,h=>h.elim
 | _::_, [],h=>h.elim
 | (s,o)::O,(s',o')::O',h=>by
   obtain ⟨h1,h2⟩:=qph O O' h.2
   refine ⟨by simp [h1],fun i t q hi=> ?_⟩
   cases i with
   | zero=>
     simp only [Aq,Ab,Al] at hi
     obtain ⟨rfl,rfl⟩:=hi
     rw [h.1.1,h.1.2];rfl
   | succ i=>simpa using h2 i t q (by simpa using hi)
theorem qjw {objs:Objs}:∀(ids:List Nat) (l:Objs),qgh ids objs=some l→∀(j:Nat) (q:Nat × Obj),l[j]? =some q→∃i,ids[j]? =some i∧objs[i]? =some q
 | [],l,h,j,q,hj=>by simp only [qgh,Ab] at h;subst h;simp at hj
 | i ::is,l,h,j,q,hj=>by
   simp only [qgh] at h
   split at h
   ·rename_i q0 h0
    split at h
    ·rename_i l0 hl
     cases h
     cases j with
     | zero=>simp at hj;subst hj;exact ⟨i,rfl,h0⟩
     | succ j=>simpa using qjw is l0 hl j q (by simpa using hj)
    cases h
   cases h
theorem qwc {ι ρ:Nat→Nat}:∀(O O':Objs),mvOs ι ρ O O'→O'=O.map (fun q=>(ρ q.1,q.2.mv ι ρ))
 | [], [],_=>rfl
 | [],_::_,h=>h.elim
 | _::_, [],h=>h.elim
 | (s,o)::O,(s',o')::O',h=>by rw [AX,←qwc O O' h.2,h.1.1,h.1.2]
theorem j3 {r:Nat}:frOs r []:=trivial
theorem jn {α:Type} {C:α→List AV} {sz r:Nat} {e:TypeId} {l:List α} {s:Nat} {O:Objs} (hC:CellsOk C sz) (hs:Nat.blt s r=true) (h:frOs r O):frOs r ((s, .row e (l.map C).flatten)::O):=⟨⟨q8r _,hs,q3o hC l⟩,h⟩
theorem zm {r:Nat} {t:TypeId} {cs:List AV} {s:Nat} {O:Objs} (hs:Nat.blt s r=true) (hu:cs.all (AV.un1 r)=true) (h:frOs r O):frOs r ((s, .var t cs)::O):=⟨⟨rfl,hs,hu⟩,h⟩
def unOs (m:Nat):Objs→Prop
 | []=>True
 | q::O=>q.2.un m=true∧unOs m O
theorem qvm {m:Nat}:∀(O:Objs),unOs m O→O.all (fun q=>q.2.un m)=true
 | [],_=>rfl
 | q::O,h=>by rw [List.all_cons,h.1,qvm O h.2];rfl
theorem j6 {m:Nat}:unOs m []:=trivial
theorem jt {α:Type} {C:α→List AV} {sz m:Nat} {e:TypeId} {l:List α} {s:Nat} {O:Objs} (hC:CellsOk C sz) (h:unOs m O):unOs m ((s, .row e (l.map C).flatten)::O):=⟨q3o hC l,h⟩
theorem zn {m:Nat} {t:TypeId} {cs:List AV} {s:Nat} {O:Objs} (hu:cs.all (AV.un1 m)=true) (h:unOs m O):unOs m ((s, .var t cs)::O):=⟨hu,h⟩
section
variable {f:FuncId} {xs xs0:List AV} {x:AV} {r m':Nat} {O O' O1 O2 objs2:Objs} {n2:Nat} {all:Array Oper} {os:List Oper} {u:Tmp}
theorem q2r (ids st:List Nat) {y:AV} (h:ACalls P G f xs0 ⟨r,O⟩ x ⟨m',O'⟩) (hids:ids.length=O.length) (hl:O'.length=O.length) (hnd:ids.Nodup)
 (hst:st.length=r) (hstn:st.all (fun s=>Nat.blt s n)=true) (hr:Nat.ble r m'=true)
 (hxs:mvdL (fun j=>ids.getD j 0) (fun s=>st.getD s 0) r xs0 xs) (hO:frOs r O) (hO1:mvOs (fun j=>ids.getD j 0) (fun s=>st.getD s 0) O O1) (hg:qgh ids objs=some O1)
 (hx:Mvd (fun j=>ids.getD j 0) (qec (fun s=>st.getD s 0) r n) m' x y) (hun:unOs m' O') (hO2:mvOs (fun j=>ids.getD j 0) (qec (fun s=>st.getD s 0) r n) O' O2) (hs:ql4 ids O2 objs=objs2) (hn:n+(m' - r)=n2):ACalls P G f xs ⟨n,objs⟩ y ⟨n2,objs2⟩:=by
 obtain ⟨h1,h2⟩:=qpg _ _ hxs
 subst hn hs
 refine h.frame (ι:=fun j=>ids.getD j 0) (ι':=fun j=>ids.getD j 0) (ρ:=fun s=>st.getD s 0) h1 h2 (fun j s o hj=> ?_) (fun j j' hj hj' e=> ?_) (fun s hs=> ?_) (Ao hr) hx (fun j s o hj=>Aw.1 (qvm _ hun) _ (Af hj)) (fun i s o hi=> ?_)
 ·obtain ⟨a1,a2,a3⟩:=qpt O hO j s o hj
  have:=(qph O O1 hO1).2 j s o hj
  obtain ⟨i,e1,e2⟩:=qjw ids O1 hg j _ this
  refine ⟨a1,a2,?_,a3⟩
  simp only [Ax,e1,Bo]
  simpa only [Ax] using e2
 ·rw [←hids] at hj hj'
  simp only [Ax,Ak hj,Ak hj',Bo] at e
  exact (List.getElem_inj hnd).1 e
 ·rw [←hst] at hs
  simp only [Ax,Ak hs,Bo]
  exact Ao (Aw.1 hstn _ (Ci hs))
 rw [qwc O' O2 hO2] at hi
 rcases qov ids _ _ (by rw [As,hl,hids];exact Aj _) i _ hi with ⟨j,e1,e2⟩ | ⟨e1,e2⟩
 ·rw [Av,Am] at e2
  obtain ⟨q,hq,e⟩:=e2
  simp only [Al] at e
  refine .inl ⟨j,q.1,q.2,hq,e.1.symm,e.2.symm,?_⟩
  simp only [Ax,e1,Bo]
 refine .inr ⟨e1,fun j hj e=>e2 j ?_⟩
 rw [←hids] at hj
 simp only [Ax,Ak hj,Bo] at e
 rw [Ak hj,e]
def q4p (G:Nat→List AV):List Oper→Fr→Objs→Objs→Prop
 | [],_,_,_=>True
 | l::ls,fr,objs,objs2=>(match l.op with | .load _ a=>(match ev G fr a with | .ptr id _ _=>objs2[id]? =objs[id]? | _=>True) | _=>True)∧q4p G ls fr objs objs2
theorem q0a {G:Nat→List AV} {n n2:Nat}:∀{ls:List Oper} {fr:Fr} {objs objs2:Objs},q4p G ls fr objs objs2→qm8 G ls fr ⟨n,objs⟩ ⟨n2,objs2⟩
 | [],_,_,_,_=>trivial
 | l ::ls,fr,objs,objs2,h=>by
   refine ⟨?_,q0a h.2⟩
   have h1:=h.1
   clear h
   revert h1
   cases l.op <;> intro h1 <;> first | trivial | skip
   case load t a=>
    simp only at h1 ⊢
    unfold qaa
    revert h1
    cases ev G fr a <;> intro h1 <;> first | (intro s t cs hi;simp only at h1;rw [h1];exact hi) | trivial
theorem qb {d:Bool} {y:AV} (h:ACalls P G f xs ⟨n,objs⟩ y ⟨n2,objs2⟩) (hc:Ok P G T N p Q (.go [(u,y)] (.ops d all os::k) (unkn (some u) kn) fr n2 objs2)) (hd:d=false∨((cwOf all).1=true∧q4p G all.toList (frT fr) objs objs2):=by first | exact .inl rfl | exact .inr ⟨by kernel_rfl,by repeat' (first | exact trivial | exact rfl | refine Bd ?_ ?_)⟩):Ok P G T N p Q (.call f xs (some u) d all os k kn fr n objs):=by
 unfold Ok at hc ⊢
 exact fun hk=> .inr (.inl ⟨y,_,(fun e=>hd.elim (fun h=>by rw [h] at e;cases e) (fun h=>⟨h.1,q0a h.2⟩)),h,hc hk⟩)
theorem jh (E:Env P T) {rs:List ResultVar} {y:AV} {K:AV→Hp→Prop} (h:qkp T fr objs rs qi6=some y) (ht:K y ⟨n,objs⟩):Ok P G T N p (Ret P rs K) (.fin .normal [] fr n objs):=by
 unfold Ok
 intro _
 obtain ⟨xs,h1,h2⟩:=qhm (n:=n) E.hT rs _ h
 refine ⟨y,?_,ht⟩
 unfold Zm
 rw [h1]
 unfold qi6 at h2
 split at h2
 ·exact h2
 rename_i hne
 split
 ·rename_i x' hx'
  exact absurd (Bh hx') (hne x')
 ·rename_i xs' _ hx'
  cases hx'
  exact h2
 rename_i hx';cases hx'
end
theorem qpr {ρ:Nat→Nat} {m:Nat} (h:(List.range m).all (fun s=>Nat.beq (ρ s) s)=true):∀s,s < m→ρ s=s:=fun s hs=>AF (Aw.1 h s (BS.2 hs))
theorem q0c {α:Type} {l:List α} {i:Int} {x:α} (h:ix l i=some x):0≤i:=by
 have:=(qn3 h).1;omega
theorem qwk {α:Type} {l:List α} {i:Int} {x:α} (h:ix l i=some x):i.toNat < l.length:=(Ah.1 (qn3 h).2).1
theorem qos {α:Type} {C:α→List AV} {sz fo:Nat} {vs:List AV} (hC:∀a,(C a).length=sz) (hfo:fo+vs.length≤sz):∀(l:List α) (j:Nat) (x x':α),l[j]? =some x→Qu (C x) fo vs=C x'→Qu (l.map C).flatten (j*sz+fo) vs=((l.set j x').map C).flatten
 | [],j,x,x',h,_=>by simp at h
 | a::l,0,x,x',h,e=>by
   simp only [Aq,Ab] at h
   subst h
   rw [List.set_cons_zero,AX,AX,Bf,Bf,←e,Nat.zero_mul,AN]
   simp only [Qu]
   rw [List.take_append_of_le_length (by rw [hC];omega),List.drop_append_of_le_length (by rw [hC];omega)]
   simp only [Ap]
 | a::l,j+1,x,x',h,e=>by
   have ih:=qos hC hfo l j x x' (by simpa using h) e
   rw [List.set_cons_succ,AX,AX,Bf,Bf,←ih]
   simp only [Qu]
   have e1:(j+1)*sz+fo=(C a).length+(j*sz+fo):=by rw [hC,Bn];omega
   rw [e1,List.take_append,Bi (by omega),BP,BB,List.drop_append,AW (by omega),BP]
   simp only [Ap,AQ]
theorem qgo {α:Type} {l:List α} {C:α→List AV} {sz fo id s n:Nat} {j:Int} {x x':α} {all:Array Oper} {os:List Oper} {ty:TypeId} {pos:String} {aft:Array Edge} {t:TypeId} {a y:Operand} {v:AV} {te:TypeId} (hx:ix l j=some x) (hC:CellsOk C sz)
 (ha:ev G (frT fr) a= .ptr id s (j.toNat*sz+fo)) (hy:ev G (frT fr) y=v) (hv:K1 v=some [v]) (hsz:szP P t=some 1) (ho:objs[id]? =some (s, .row te (l.map C).flatten)) (hfo:Nat.ble (fo+1) sz=true) (he:Qu (C x) fo [v]=C x')
 (hc:Ok P G T N p Q (.go [] (.ops false all os::k) kn fr n (objs.set id (s, .row te ((l.set j.toNat x').map C).flatten)))):Ok P G T N p Q (.gen ⟨none, .store t a y,ty,pos,aft,none⟩ false all os k kn fr n objs):=by
 have h1:=Ao hfo
 have h2:=qwk hx
 have e:=qos (vs:= [v]) hC.len (by simpa using h1) l j.toNat x x' (qn3 hx).2 he
 refine q2s ha hy hv hsz ho ?_ (by rw [e];exact hc)
 rw [qdt hC.len]
 have:(j.toNat+1)*sz≤l.length*sz:=Cg _ h2
 rw [Bn] at this
 omega
section
variable {α:Type} {d:Bool} {all:Array Oper} {os:List Oper} {u:Tmp} {ty:TypeId} {pos:String} {aft:Array Edge}
theorem qxk {a b:Operand} {t t1 e:TypeId} {sz by_ id s0:Nat} {f2:Bool} {l m r:List α} {C:α→List AV} {raw:List (List AV)} {z:List AV} {it ie:TI} (E:Env P T) (hx:app by_ l m=some r)
 (ha:ev G (frT fr) a= .bs sz id s0 0 l.length) (hb:ev G (frT fr) b= .sl sz f2 raw) (hrw:raw.length=m.length) (hm:0 < m.length) (hC:∀a,(C a).length=sz) (ht:T.get t=some it) (he:it.elem=some (e,sz)) (hie:T.get e=some ie) (hz:ie.zero=some z) (hzl:z.length=sz) (h0:0 < sz)
 (hby:qdv P e=some by_) (hn:qcj P t1=true) (ho:objs[id]? =some (s0, .row e (l.map C).flatten))
 (hc:Ok P G T N p Q (.go [(u, .bs sz id n 0 r.length)] (.ops d all os::k) (unkn (some u) kn) fr (n+1) (objs.set id (n, .row e ((l.map C).flatten++raw.flatten))))) (hcp:d=false∨qap a=false:=by first | exact .inl rfl | exact .inr rfl):
 Ok P G T N p Q (.gen ⟨some u, .call ⟨.builtin .append, #[a,b], #[t,t1]⟩,ty,pos,aft,none⟩ d all os k kn fr n objs):=by
 obtain ⟨rfl,h1,h2⟩:=qb5 hx
 refine qgq E ha hb ht he hie hz hzl h0 hby hn ho (qdt hC l) (by rw [hrw];exact h1) (by rw [hrw];exact h2) ?_ hcp (by omega)
 rw [Ad,←hrw] at hc
 exact hc
end
theorem qvg {α:Type} {by_:Nat} {l m r:List α} {C:α→List AV} {raw:List (List AV)} (hx:app by_ l m=some r) (h:wkL raw.flatten (m.map C).flatten):wkL ((l.map C).flatten++raw.flatten) (r.map C).flatten:=by
 obtain ⟨rfl,_⟩:=qb5 hx
 rw [BZ,Cl]
 exact qzb (qvf _) h
end Go.Proofs.YtpnkemogepoioaaGreatDoorW.Ex
