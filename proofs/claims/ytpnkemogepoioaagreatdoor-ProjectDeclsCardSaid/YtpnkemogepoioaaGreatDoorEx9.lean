/- A symbolic executor for the machine's code, part 9: the rules as a proof applies them, one by one. General over the program; no conditions beside those in each theorem. -/
import Derived.Test.YtpnkemogepoioaaGreatDoorEx8
namespace Go.Proofs.YtpnkemogepoioaaGreatDoorW.Ex
set_option linter.all false
open Go
variable {G:Nat→List AV} {P:Program} {N p:Nat} {fr:Fr} {H H':Hp} {Q:Exit→Fr→Hp→Prop} {ops:Array Oper} {os:List Oper} {o:Oper} {K:Exit→Fr→Hp→Prop}
theorem Ye {next:Fr→Hp→Prop} (h:next fr H):Yr next Q .normal fr H:=h
theorem qph {next:Fr→Hp→Prop} (h:Q .ret fr H):Yr next Q .ret fr H:=h
theorem qey {next:Fr→Hp→Prop} {i:Nat} (h:Q (.exit i) fr H):Yr next Q (.exit i) fr H:=h
theorem qe2 {id:Nat} (h:Q .normal fr H):Ys id Q .normal fr H:=h
theorem qq5 {id:Nat} (h:Q .ret fr H):Ys id Q .ret fr H:=h
theorem qn7 {id:Nat} (h:Q .normal fr H):Ys id Q (.exit id) fr H:=by simpa [Ys] using h
theorem qf3 {id i:Nat} (hne:Nat.beq i id=false) (h:Q (.exit i) fr H):Ys id Q (.exit i) fr H:=by
 have:i≠id:=by intro e;subst e;simp at hne
 simpa [Ys,this] using h
theorem qn6 {c:Operand} {x y:Code} (hc:ev G fr c= .bool true) (h:AWp P G N p x Q fr H):AWp P G N p (.cond c x y) Q fr H:=qjf hc (fun _=>h) (fun h=>by cases h)
theorem qnj {c:Operand} {x y:Code} (hc:ev G fr c= .bool false) (h:AWp P G N p y Q fr H):AWp P G N p (.cond c x y) Q fr H:=qjf hc (fun h=>by cases h) (fun _=>h)
theorem qlt {op:Op} {x:AV} (h:evalOp P G fr H op=some (x,H')):qd9 P G fr H op x H':=by
 unfold qd9
 split
 ·rename_i c
  split
  ·rename_i f xs hc
   exfalso
   unfold y5 at hc
   split at hc
   ·rename_i fo hfo
    simp [evalOp,Jf,hfo] at h
   cases hc
  exact .inl h
 exact .inl h
theorem q0r (hg:o.guard=none) {x:AV} (h:qnd P G fr H o.op x H') (hk:wpL P G ops os (put o.dst x fr) H' K):wpL P G ops (o::os) fr H K:=by
 unfold wpL
 simp only [hg]
 refine .inl ⟨x,H',?_,hk⟩
 unfold qnd at h
 split at h
 ·rename_i t len ps hop
  rw [hop]
  exact .inr h
 ·rename_i t len cap hop
  rw [hop]
  exact .inr h
 exact h.elim
theorem qww {c:Call} {x:AV} (h:Zo P G fr c=some x):qd9 P G fr H (.call c) x H:=by
 have hc:y5 G fr c=none:=by
  unfold Zo at h
  unfold y5
  split at h
  ·rename_i hb _ _
   rw [hb]
  cases h
 unfold qd9
 simp only [hc]
 exact .inr ⟨h,trivial⟩
theorem qxv {c:Call} {x:AV} (hg:o.guard=none) (ho:o.op= .call c) (h:Zo P G fr c=some x) (hk:wpL P G ops os (put o.dst x fr) H K):wpL P G ops (o::os) fr H K:=by
 unfold wpL
 simp only [hg]
 exact .inl ⟨x,H,ho ▸ qww h,hk⟩
theorem q2j {x:AV} (hg:o.guard=none) (h:evalOp P G fr H o.op=some (x,H')) (hk:wpL P G ops os (put o.dst x fr) H' K):wpL P G ops (o::os) fr H K:=by
 unfold wpL
 simp only [hg]
 exact .inl ⟨x,H',qlt h,hk⟩
theorem qn9 {c:Call} {f:FuncId} {xs:List AV} {x:AV} (hg:o.guard=none) (ho:o.op= .call c) (hc:y5 G fr c=some (f,xs)) (h:ACalls P G f xs H x H') (hk:wpL P G ops os (put o.dst x fr) H' K):wpL P G ops (o::os) fr H K:=by
 unfold wpL
 simp only [hg]
 refine .inl ⟨x,H',?_,hk⟩
 rw [ho]
 unfold qd9
 simp only [hc]
 exact h
theorem qwi {c:Call} {f:FuncId} {xs:List AV} {ch:List PanicEntry} (hg:o.guard=none) (ho:o.op= .call c) (hc:y5 G fr c=some (f,xs)) (h:FCalls P G f xs H ch) (hk:K (.panic ch) fr ⟨H.n, []⟩):wpL P G ops (o::os) fr H K:=by
 unfold wpL
 simp only [hg]
 refine .inr ⟨ch,?_,hk⟩
 rw [ho]
 unfold qpf
 simp only [hc]
 exact h
theorem qwh {x:Operand} {t:TypeId} {k:IntKind} {i:Int} (hg:o.guard=none) (ho:o.op= .panic x) (hx:ev G fr x= .iface t (.int k i)) (hk:K (.panic [{v:= .iface t (.int k i),recovered:=false}]) fr ⟨H.n, []⟩):wpL P G ops (o::os) fr H K:=by
 unfold wpL
 simp only [hg]
 refine .inr ⟨_,?_,hk⟩
 rw [ho]
 exact ⟨t,k,i,hx,rfl⟩
theorem qxw {c:Call} {f:FuncId} {xs:List AV} {x:AV} (hg:o.guard=none) (ho:o.op= .call c) (hc:y5 G fr c=some (f,xs)) (h:Fn P G f xs x) (hk:wpL P G ops os (put o.dst x fr) H K):wpL P G ops (o::os) fr H K:=
 qn9 hg ho hc (h.calls H) hk
def Oper.free (o:Oper):Oper:=⟨o.dst,o.op,o.type,o.pos,o.after,none⟩
theorem qc8 {t j:Nat} {b:Bool} (ht:(ops[j]?).bind (·.dst)=some t) (hb:fr t= .bool b):vw ops fr j=some (some b):=by
 unfold vw
 simp only [ht,hb]
theorem qlg {t j:Nat} (ht:(ops[j]?).bind (·.dst)=some t) (hb:fr t= .tup []):vw ops fr j=some none:=by
 unfold vw
 simp only [ht,hb]
theorem qti {t j:Nat} {want:Bool} (hg:o.guard=some (j,want)) (ht:(ops[j]?).bind (·.dst)=some t) (hb:fr t= .tup []) (h:wpL P G ops os (put o.dst (.tup []) fr) H K):wpL P G ops (o::os) fr H K:=by
 unfold wpL
 simp only [hg]
 exact ⟨none,qlg ht hb,(fun h=>by cases h),fun _=>h⟩
theorem qq8 {t j:Nat} {want:Bool} (hg:o.guard=some (j,want)) (ht:(ops[j]?).bind (·.dst)=some t) (hb:fr t= .bool want) (h:wpL P G ops (Oper.free o::os) fr H K):wpL P G ops (o::os) fr H K:=by
 unfold wpL at*
 simp only [hg]
 simp only [Oper.free] at h
 exact ⟨some want,qc8 ht hb,fun _=>h,fun h=>absurd rfl h⟩
theorem qth {t j:Nat} (hg:o.guard=some (j,true)) (ht:(ops[j]?).bind (·.dst)=some t) (hb:fr t= .bool false) (h:wpL P G ops os (put o.dst (.tup []) fr) H K):wpL P G ops (o::os) fr H K:=by
 unfold wpL
 simp only [hg]
 exact ⟨some false,qc8 ht hb,(fun h=>by cases h),fun _=>h⟩
theorem qtj {t j:Nat} (hg:o.guard=some (j,false)) (ht:(ops[j]?).bind (·.dst)=some t) (hb:fr t= .bool true) (h:wpL P G ops os (put o.dst (.tup []) fr) H K):wpL P G ops (o::os) fr H K:=by
 unfold wpL
 simp only [hg]
 exact ⟨some true,qc8 ht hb,(fun h=>by cases h),fun _=>h⟩
theorem qq6 {t j:Nat} {b:Bool} (hg:o.guard=some (j,true)) (ht:(ops[j]?).bind (·.dst)=some t) (hb:fr t= .bool b) (hy:b=true→wpL P G ops (Oper.free o::os) fr H K) (hn:b=false→wpL P G ops os (put o.dst (.tup []) fr) H K):wpL P G ops (o::os) fr H K:=by
 cases b
 ·exact qth hg ht hb (hn rfl)
 exact qq8 hg ht hb (hy rfl)
theorem qq7 {t j:Nat} {b:Bool} (hg:o.guard=some (j,false)) (ht:(ops[j]?).bind (·.dst)=some t) (hb:fr t= .bool b) (hy:b=false→wpL P G ops (Oper.free o::os) fr H K) (hn:b=true→wpL P G ops os (put o.dst (.tup []) fr) H K):wpL P G ops (o::os) fr H K:=by
 cases b
 ·exact qq8 hg ht hb (hy rfl)
 exact qtj hg ht hb (hn rfl)
section
variable {d:Option Tmp} {op:Op} {ty:TypeId} {pos:String} {aft:Array Edge}
end
theorem qqk (x:AV) (xs:List AV):Kv (x::xs) 0=x:=rfl
theorem qql (x:AV) (xs:List AV) (i:Nat):Kv (x::xs) (i+1)=Kv xs i:=rfl
theorem qsr (i:Nat):Kv [] i= .undef:=rfl
theorem qno (fr:Fr) (H:Hp) (t:Tmp):Qi P [.tmp t] fr H=some (fr t):=rfl
theorem qnn (fr:Fr) (H:Hp) (t u:Tmp):Qi P [.tmp t, .tmp u] fr H=some (.tup [fr t,fr u]):=rfl
theorem qkq (fr:Fr) (H:Hp) (t u v:Tmp):Qi P [.tmp t, .tmp u, .tmp v] fr H=some (.tup [fr t,fr u,fr v]):=rfl
attribute [go_sem] qno qnn qkq List.all_cons List.all_nil AV.one Bool.and_true Bool.true_and Bool.and_self Bool.false_eq_true eq_self
attribute [go_sem] List.length_nil List.length_cons List.nil_append List.cons_append List.getElem?_cons_zero List.getElem?_cons_succ Nat.add_zero Nat.zero_add Option.map_some Option.map_none List.set_cons_zero List.set_cons_succ List.head?_cons List.map_cons List.map_nil List.drop_zero List.drop_succ_cons List.take_succ_cons List.take_zero true_and and_true and_self
attribute [go_sem] qpu vd evalOp ev ofV wn qyt qqk qql qsr Zj qhe Ka Jo qi0 qig qfb eqAV eqTypeAV unAV qr7 qp2 qr8 qhq qhg qgg qih qdm ub qeb qkg
 J8 vm vx Zn qgi qdq J9 Qj qb0 qeh vh Jf y5 vw Hp.push
end Go.Proofs.YtpnkemogepoioaaGreatDoorW.Ex
