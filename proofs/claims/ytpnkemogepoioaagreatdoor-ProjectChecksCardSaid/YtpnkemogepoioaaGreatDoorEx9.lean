/- A symbolic executor for the machine's code, part 9: the rules as a proof applies them, one by one. General over the program; no conditions beside those in each theorem. -/
import Derived.Test.YtpnkemogepoioaaGreatDoorEx8
namespace Go.Proofs.YtpnkemogepoioaaGreatDoorW.Ex
set_option linter.all false
open Go
variable {G:Nat→List AV} {P:Program} {N p:Nat} {fr:Fr} {H H':Hp} {Q:Exit→Fr→Hp→Prop} {ops:Array Oper} {os:List Oper} {o:Oper} {K:Exit→Fr→Hp→Prop}
theorem qae {next:Fr→Hp→Prop} (h:next fr H):qap next Q .normal fr H:=h
theorem qvn {next:Fr→Hp→Prop} (h:Q .ret fr H):qap next Q .ret fr H:=h
theorem qi2 {next:Fr→Hp→Prop} {i:Nat} (h:Q (.exit i) fr H):qap next Q (.exit i) fr H:=h
theorem qjc {id:Nat} (h:Q .normal fr H):qaq id Q .normal fr H:=h
theorem qxn {id:Nat} (h:Q .ret fr H):qaq id Q .ret fr H:=h
theorem qt8 {id:Nat} (h:Q .normal fr H):qaq id Q (.exit id) fr H:=by simpa [qaq] using h
theorem qkq {id i:Nat} (hne:Nat.beq i id=false) (h:Q (.exit i) fr H):qaq id Q (.exit i) fr H:=by
 have:i≠id:=by intro e;subst e;simp at hne
 simpa [qaq,this] using h
theorem qt7 {c:Operand} {x y:Code} (hc:ev G fr c= .bool true) (h:AWp P G N p x Q fr H):AWp P G N p (.cond c x y) Q fr H:=qoh hc (fun _=>h) (fun h=>by cases h)
theorem qtc {c:Operand} {x y:Code} (hc:ev G fr c= .bool false) (h:AWp P G N p y Q fr H):AWp P G N p (.cond c x y) Q fr H:=qoh hc (fun h=>by cases h) (fun _=>h)
theorem qra {op:Op} {x:AV} (h:evalOp P G fr H op=some (x,H')):qh5 P G fr H op x H':=by
 unfold qh5
 split
 ·rename_i c
  split
  ·rename_i f xs hc
   exfalso
   unfold wr at hc
   split at hc
   ·rename_i fo hfo
    simp [evalOp,Kc,hfo] at h
   cases hc
  exact .inl h
 exact .inl h
theorem q8h (hg:o.guard=none) {x:AV} (h:qsx P G fr H o.op x H') (hk:wpL P G ops os (put o.dst x fr) H' K):wpL P G ops (o::os) fr H K:=by
 unfold wpL
 simp only [hg]
 refine .inl ⟨x,H',?_,hk⟩
 unfold qsx at h
 split at h
 ·rename_i t len ps hop
  rw [hop]
  exact .inr h
 ·rename_i t len cap hop
  rw [hop]
  exact .inr h
 exact h.elim
theorem q30 {c:Call} {x:AV} (h:Yv P G fr c=some x):qh5 P G fr H (.call c) x H:=by
 have hc:wr G fr c=none:=by
  unfold Yv at h
  unfold wr
  split at h
  ·rename_i hb _ _
   rw [hb]
  cases h
 unfold qh5
 simp only [hc]
 exact .inr ⟨h,trivial⟩
theorem q49 {c:Call} {x:AV} (hg:o.guard=none) (ho:o.op= .call c) (h:Yv P G fr c=some x) (hk:wpL P G ops os (put o.dst x fr) H K):wpL P G ops (o::os) fr H K:=by
 unfold wpL
 simp only [hg]
 exact .inl ⟨x,H,ho ▸ q30 h,hk⟩
theorem zah {x:AV} (hg:o.guard=none) (h:evalOp P G fr H o.op=some (x,H')) (hk:wpL P G ops os (put o.dst x fr) H' K):wpL P G ops (o::os) fr H K:=by
 unfold wpL
 simp only [hg]
 exact .inl ⟨x,H',qra h,hk⟩
theorem qua {c:Call} {f:FuncId} {xs:List AV} {x:AV} (hg:o.guard=none) (ho:o.op= .call c) (hc:wr G fr c=some (f,xs)) (h:ACalls P G f xs H x H') (hk:wpL P G ops os (put o.dst x fr) H' K):wpL P G ops (o::os) fr H K:=by
 unfold wpL
 simp only [hg]
 refine .inl ⟨x,H',?_,hk⟩
 rw [ho]
 unfold qh5
 simp only [hc]
 exact h
theorem q3l {c:Call} {f:FuncId} {xs:List AV} {ch:List PanicEntry} (hg:o.guard=none) (ho:o.op= .call c) (hc:wr G fr c=some (f,xs)) (h:FCalls P G f xs H ch) (hk:K (.panic ch) fr ⟨H.n, []⟩):wpL P G ops (o::os) fr H K:=by
 unfold wpL
 simp only [hg]
 refine .inr ⟨ch,?_,hk⟩
 rw [ho]
 unfold qvl
 simp only [hc]
 exact h
theorem q3k {x:Operand} {t:TypeId} {k:IntKind} {i:Int} (hg:o.guard=none) (ho:o.op= .panic x) (hx:ev G fr x= .iface t (.int k i)) (hk:K (.panic [{v:= .iface t (.int k i),recovered:=false}]) fr ⟨H.n, []⟩):wpL P G ops (o::os) fr H K:=by
 unfold wpL
 simp only [hg]
 refine .inr ⟨_,?_,hk⟩
 rw [ho]
 exact ⟨t,k,i,hx,rfl⟩
theorem q5a {c:Call} {f:FuncId} {xs:List AV} {x:AV} (hg:o.guard=none) (ho:o.op= .call c) (hc:wr G fr c=some (f,xs)) (h:Fn P G f xs x) (hk:wpL P G ops os (put o.dst x fr) H K):wpL P G ops (o::os) fr H K:=
 qua hg ho hc (h.calls H) hk
def Oper.free (o:Oper):Oper:=⟨o.dst,o.op,o.type,o.pos,o.after,none⟩
theorem qgz {t j:Nat} {b:Bool} (ht:(ops[j]?).bind (·.dst)=some t) (hb:fr t= .bool b):Zv ops fr j=some (some b):=by
 unfold Zv
 simp only [ht,hb]
theorem qqs {t j:Nat} (ht:(ops[j]?).bind (·.dst)=some t) (hb:fr t= .tup []):Zv ops fr j=some none:=by
 unfold Zv
 simp only [ht,hb]
theorem q0c {t j:Nat} {want:Bool} (hg:o.guard=some (j,want)) (ht:(ops[j]?).bind (·.dst)=some t) (hb:fr t= .tup []) (h:wpL P G ops os (put o.dst (.tup []) fr) H K):wpL P G ops (o::os) fr H K:=by
 unfold wpL
 simp only [hg]
 exact ⟨none,qqs ht hb,(fun h=>by cases h),fun _=>h⟩
theorem qxq {t j:Nat} {want:Bool} (hg:o.guard=some (j,want)) (ht:(ops[j]?).bind (·.dst)=some t) (hb:fr t= .bool want) (h:wpL P G ops (Oper.free o::os) fr H K):wpL P G ops (o::os) fr H K:=by
 unfold wpL at*
 simp only [hg]
 simp only [Oper.free] at h
 exact ⟨some want,qgz ht hb,fun _=>h,fun h=>absurd rfl h⟩
theorem q0b {t j:Nat} (hg:o.guard=some (j,true)) (ht:(ops[j]?).bind (·.dst)=some t) (hb:fr t= .bool false) (h:wpL P G ops os (put o.dst (.tup []) fr) H K):wpL P G ops (o::os) fr H K:=by
 unfold wpL
 simp only [hg]
 exact ⟨some false,qgz ht hb,(fun h=>by cases h),fun _=>h⟩
theorem q0d {t j:Nat} (hg:o.guard=some (j,false)) (ht:(ops[j]?).bind (·.dst)=some t) (hb:fr t= .bool true) (h:wpL P G ops os (put o.dst (.tup []) fr) H K):wpL P G ops (o::os) fr H K:=by
 unfold wpL
 simp only [hg]
 exact ⟨some true,qgz ht hb,(fun h=>by cases h),fun _=>h⟩
theorem qxo {t j:Nat} {b:Bool} (hg:o.guard=some (j,true)) (ht:(ops[j]?).bind (·.dst)=some t) (hb:fr t= .bool b) (hy:b=true→wpL P G ops (Oper.free o::os) fr H K) (hn:b=false→wpL P G ops os (put o.dst (.tup []) fr) H K):wpL P G ops (o::os) fr H K:=by
 cases b
 ·exact q0b hg ht hb (hn rfl)
 exact qxq hg ht hb (hy rfl)
theorem qxp {t j:Nat} {b:Bool} (hg:o.guard=some (j,false)) (ht:(ops[j]?).bind (·.dst)=some t) (hb:fr t= .bool b) (hy:b=false→wpL P G ops (Oper.free o::os) fr H K) (hn:b=true→wpL P G ops os (put o.dst (.tup []) fr) H K):wpL P G ops (o::os) fr H K:=by
 cases b
 ·exact qxq hg ht hb (hy rfl)
 exact q0d hg ht hb (hn rfl)
section
variable {d:Option Tmp} {op:Op} {ty:TypeId} {pos:String} {aft:Array Edge}
end
theorem qwo (x:AV) (xs:List AV):qby (x::xs) 0=x:=rfl
theorem qwp (x:AV) (xs:List AV) (i:Nat):qby (x::xs) (i+1)=qby xs i:=rfl
theorem qy5 (i:Nat):qby [] i= .undef:=rfl
theorem qth (fr:Fr) (H:Hp) (t:Tmp):Ji P [.tmp t] fr H=some (fr t):=rfl
theorem qtg (fr:Fr) (H:Hp) (t u:Tmp):Ji P [.tmp t, .tmp u] fr H=some (.tup [fr t,fr u]):=rfl
theorem qpt (fr:Fr) (H:Hp) (t u v:Tmp):Ji P [.tmp t, .tmp u, .tmp v] fr H=some (.tup [fr t,fr u,fr v]):=rfl
attribute [go_sem] qth qtg qpt BX List.all_nil AV.one Bool.and_true Bh Bm Aq eq_self
attribute [go_sem] Ao Af Be Bq Au Ba BL AO AP Option.map_none List.set_cons_zero List.set_cons_succ List.head?_cons Ay AN BO List.drop_succ_cons Cj List.take_zero true_and and_true and_self
attribute [go_sem] qv0 Q9 evalOp ev ofV u1 q57 qwo qwp qy5 Yp ql3 qbd Wh qnx qnd qjs eqAV eqTypeAV unAV qyl qv8 qym qmi ql4 qk2 qne qha vw qh9 qpi
 W4 Zl Zw Yu qk4 qhe W5 Zm qdn qif Qu Kc wr Zv Hp.push
end Go.Proofs.YtpnkemogepoioaaGreatDoorW.Ex
