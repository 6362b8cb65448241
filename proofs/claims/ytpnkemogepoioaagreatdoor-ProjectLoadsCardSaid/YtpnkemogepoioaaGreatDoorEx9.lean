/- A symbolic executor for the machine's code, part 9: the rules as a proof applies them, one by one. General over the program; no conditions beside those in each theorem. -/
import Derived.Test.YtpnkemogepoioaaGreatDoorEx8
namespace Go.Proofs.YtpnkemogepoioaaGreatDoorW.Ex
set_option linter.all false
open Go
variable {G:Nat→List AV} {P:Program} {N p:Nat} {fr:Fr} {H H':Hp} {Q:Exit→Fr→Hp→Prop} {ops:Array Oper} {os:List Oper} {o:Oper} {K:Exit→Fr→Hp→Prop}
theorem Wb {next:Fr→Hp→Prop} (h:next fr H):Wq next Q .normal fr H:=h
theorem qs9 {next:Fr→Hp→Prop} (h:Q .ret fr H):Wq next Q .ret fr H:=h
theorem qgz {next:Fr→Hp→Prop} {i:Nat} (h:Q (.exit i) fr H):Wq next Q (.exit i) fr H:=h
theorem qg5 {id:Nat} (h:Q .normal fr H):Wr id Q .normal fr H:=h
theorem qu5 {id:Nat} (h:Q .ret fr H):Wr id Q .ret fr H:=h
theorem qru {id:Nat} (h:Q .normal fr H):Wr id Q (.exit id) fr H:=by simpa [Wr] using h
theorem qif {id i:Nat} (hne:Nat.beq i id=false) (h:Q (.exit i) fr H):Wr id Q (.exit i) fr H:=by
 have:i≠id:=by intro e;subst e;simp at hne
 simpa [Wr,this] using h
theorem qrt {c:Operand} {x y:Code} (hc:ev G fr c= .bool true) (h:AWp P G N p x Q fr H):AWp P G N p (.cond c x y) Q fr H:=qlw hc (fun _=>h) (fun h=>by cases h)
theorem qq5 {c:Operand} {x y:Code} (hc:ev G fr c= .bool false) (h:AWp P G N p y Q fr H):AWp P G N p (.cond c x y) Q fr H:=qlw hc (fun h=>by cases h) (fun _=>h)
theorem qoq {op:Op} {x:AV} (h:evalOp P G fr H op=some (x,H')):qf0 P G fr H op x H':=by
 unfold qf0
 split
 ·rename_i c
  split
  ·rename_i f xs hc
   exfalso
   unfold wq at hc
   split at hc
   ·rename_i fo hfo
    simp [evalOp,Jx,hfo] at h
   cases hc
  exact .inl h
 exact .inl h
theorem q6c (hg:o.guard=none) {x:AV} (h:qqp P G fr H o.op x H') (hk:wpL P G ops os (put o.dst x fr) H' K):wpL P G ops (o::os) fr H K:=by
 unfold wpL
 simp only [hg]
 refine .inl ⟨x,H',?_,hk⟩
 unfold qqp at h
 split at h
 ·rename_i t len ps hop
  rw [hop]
  exact .inr h
 ·rename_i t len cap hop
  rw [hop]
  exact .inr h
 exact h.elim
theorem q1u {c:Call} {x:AV} (h:Jw P G fr c=some x):qf0 P G fr H (.call c) x H:=by
 have hc:wq G fr c=none:=by
  unfold Jw at h
  unfold wq
  split at h
  ·rename_i hb _ _
   rw [hb]
  cases h
 unfold qf0
 simp only [hc]
 exact .inr ⟨h,trivial⟩
theorem q20 {c:Call} {x:AV} (hg:o.guard=none) (ho:o.op= .call c) (h:Jw P G fr c=some x) (hk:wpL P G ops os (put o.dst x fr) H K):wpL P G ops (o::os) fr H K:=by
 unfold wpL
 simp only [hg]
 exact .inl ⟨x,H,ho ▸ q1u h,hk⟩
theorem q8k {x:AV} (hg:o.guard=none) (h:evalOp P G fr H o.op=some (x,H')) (hk:wpL P G ops os (put o.dst x fr) H' K):wpL P G ops (o::os) fr H K:=by
 unfold wpL
 simp only [hg]
 exact .inl ⟨x,H',qoq h,hk⟩
theorem qrw {c:Call} {f:FuncId} {xs:List AV} {x:AV} (hg:o.guard=none) (ho:o.op= .call c) (hc:wq G fr c=some (f,xs)) (h:ACalls P G f xs H x H') (hk:wpL P G ops os (put o.dst x fr) H' K):wpL P G ops (o::os) fr H K:=by
 unfold wpL
 simp only [hg]
 refine .inl ⟨x,H',?_,hk⟩
 rw [ho]
 unfold qf0
 simp only [hc]
 exact h
theorem q1e {c:Call} {f:FuncId} {xs:List AV} {ch:List PanicEntry} (hg:o.guard=none) (ho:o.op= .call c) (hc:wq G fr c=some (f,xs)) (h:FCalls P G f xs H ch) (hk:K (.panic ch) fr ⟨H.n, []⟩):wpL P G ops (o::os) fr H K:=by
 unfold wpL
 simp only [hg]
 refine .inr ⟨ch,?_,hk⟩
 rw [ho]
 unfold qs7
 simp only [hc]
 exact h
theorem q1d {x:Operand} {t:TypeId} {k:IntKind} {i:Int} (hg:o.guard=none) (ho:o.op= .panic x) (hx:ev G fr x= .iface t (.int k i)) (hk:K (.panic [{v:= .iface t (.int k i),recovered:=false}]) fr ⟨H.n, []⟩):wpL P G ops (o::os) fr H K:=by
 unfold wpL
 simp only [hg]
 refine .inr ⟨_,?_,hk⟩
 rw [ho]
 exact ⟨t,k,i,hx,rfl⟩
theorem q21 {c:Call} {f:FuncId} {xs:List AV} {x:AV} (hg:o.guard=none) (ho:o.op= .call c) (hc:wq G fr c=some (f,xs)) (h:Fn P G f xs x) (hk:wpL P G ops os (put o.dst x fr) H K):wpL P G ops (o::os) fr H K:=
 qrw hg ho hc (h.calls H) hk
def Oper.free (o:Oper):Oper:=⟨o.dst,o.op,o.type,o.pos,o.after,none⟩
theorem qey {t j:Nat} {b:Bool} (ht:(ops[j]?).bind (·.dst)=some t) (hb:fr t= .bool b):Q5 ops fr j=some (some b):=by
 unfold Q5
 simp only [ht,hb]
theorem qn9 {t j:Nat} (ht:(ops[j]?).bind (·.dst)=some t) (hb:fr t= .tup []):Q5 ops fr j=some none:=by
 unfold Q5
 simp only [ht,hb]
theorem qxr {t j:Nat} {want:Bool} (hg:o.guard=some (j,want)) (ht:(ops[j]?).bind (·.dst)=some t) (hb:fr t= .tup []) (h:wpL P G ops os (put o.dst (.tup []) fr) H K):wpL P G ops (o::os) fr H K:=by
 unfold wpL
 simp only [hg]
 exact ⟨none,qn9 ht hb,(fun h=>by cases h),fun _=>h⟩
theorem qu9 {t j:Nat} {want:Bool} (hg:o.guard=some (j,want)) (ht:(ops[j]?).bind (·.dst)=some t) (hb:fr t= .bool want) (h:wpL P G ops (Oper.free o::os) fr H K):wpL P G ops (o::os) fr H K:=by
 unfold wpL at*
 simp only [hg]
 simp only [Oper.free] at h
 exact ⟨some want,qey ht hb,fun _=>h,fun h=>absurd rfl h⟩
theorem qxq {t j:Nat} (hg:o.guard=some (j,true)) (ht:(ops[j]?).bind (·.dst)=some t) (hb:fr t= .bool false) (h:wpL P G ops os (put o.dst (.tup []) fr) H K):wpL P G ops (o::os) fr H K:=by
 unfold wpL
 simp only [hg]
 exact ⟨some false,qey ht hb,(fun h=>by cases h),fun _=>h⟩
theorem qxs {t j:Nat} (hg:o.guard=some (j,false)) (ht:(ops[j]?).bind (·.dst)=some t) (hb:fr t= .bool true) (h:wpL P G ops os (put o.dst (.tup []) fr) H K):wpL P G ops (o::os) fr H K:=by
 unfold wpL
 simp only [hg]
 exact ⟨some true,qey ht hb,(fun h=>by cases h),fun _=>h⟩
theorem qu7 {t j:Nat} {b:Bool} (hg:o.guard=some (j,true)) (ht:(ops[j]?).bind (·.dst)=some t) (hb:fr t= .bool b) (hy:b=true→wpL P G ops (Oper.free o::os) fr H K) (hn:b=false→wpL P G ops os (put o.dst (.tup []) fr) H K):wpL P G ops (o::os) fr H K:=by
 cases b
 ·exact qxq hg ht hb (hn rfl)
 exact qu9 hg ht hb (hy rfl)
theorem qu8 {t j:Nat} {b:Bool} (hg:o.guard=some (j,false)) (ht:(ops[j]?).bind (·.dst)=some t) (hb:fr t= .bool b) (hy:b=false→wpL P G ops (Oper.free o::os) fr H K) (hn:b=true→wpL P G ops os (put o.dst (.tup []) fr) H K):wpL P G ops (o::os) fr H K:=by
 cases b
 ·exact qu9 hg ht hb (hy rfl)
 exact qxs hg ht hb (hn rfl)
section
variable {d:Option Tmp} {op:Op} {ty:TypeId} {pos:String} {aft:Array Edge}
end
theorem quh (x:AV) (xs:List AV):qas (x::xs) 0=x:=rfl
theorem qui (x:AV) (xs:List AV) (i:Nat):qas (x::xs) (i+1)=qas xs i:=rfl
theorem qw0 (i:Nat):qas [] i= .undef:=rfl
theorem qrb (fr:Fr) (H:Hp) (t:Tmp):Zm P [.tmp t] fr H=some (fr t):=rfl
theorem qra (fr:Fr) (H:Hp) (t u:Tmp):Zm P [.tmp t, .tmp u] fr H=some (.tup [fr t,fr u]):=rfl
theorem qng (fr:Fr) (H:Hp) (t u v:Tmp):Zm P [.tmp t, .tmp u, .tmp v] fr H=some (.tup [fr t,fr u,fr v]):=rfl
attribute [go_sem] qrb qra qng List.all_cons List.all_nil AV.one Bool.and_true Bv Bm AA eq_self
attribute [go_sem] Ar Ae AQ AJ Aq Bc BJ AN Ba Option.map_none List.set_cons_zero List.set_cons_succ List.head?_cons AX BU BR List.drop_succ_cons BQ List.take_zero true_and and_true and_self
attribute [go_sem] qtl Qo evalOp ev ofV ur q31 quh qui qw0 Js qjp W8 Kc qlf qky qhh eqAV eqTypeAV unAV qv9 qtu qwa qj3 qjq qis qkz qfe vp qf3 qm5
 K1 Qu Q6 Jv qiu qfi K2 wx qau qf9 v6 Jx wq Q5 Hp.push
end Go.Proofs.YtpnkemogepoioaaGreatDoorW.Ex
