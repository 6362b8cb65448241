/- A symbolic executor for the machine's code, part 9: the rules as a proof applies them, one by one. General over the program; no conditions beside those in each theorem. -/
import Derived.Test.YtpnkemogepoioaaGreatDoorEx8
namespace Go.Proofs.YtpnkemogepoioaaGreatDoorW.Ex
set_option linter.all false
open Go
variable {G:Nat→List AV} {P:Program} {N p:Nat} {fr:Fr} {H H':Hp} {Q:Exit→Fr→Hp→Prop} {ops:Array Oper} {os:List Oper} {o:Oper} {K:Exit→Fr→Hp→Prop}
theorem J4 {next:Fr→Hp→Prop} (h:next fr H):Yf next Q .normal fr H:=h
theorem qn4 {next:Fr→Hp→Prop} (h:Q .ret fr H):Yf next Q .ret fr H:=h
theorem qdl {next:Fr→Hp→Prop} {i:Nat} (h:Q (.exit i) fr H):Yf next Q (.exit i) fr H:=h
theorem qdo {id:Nat} (h:Q .normal fr H):Yg id Q .normal fr H:=h
theorem qpn {id:Nat} (h:Q .ret fr H):Yg id Q .ret fr H:=h
theorem qmu {id:Nat} (h:Q .normal fr H):Yg id Q (.exit id) fr H:=by simpa [Yg] using h
theorem qes {id i:Nat} (hne:Nat.beq i id=false) (h:Q (.exit i) fr H):Yg id Q (.exit i) fr H:=by
 have:i≠id:=by intro e;subst e;simp at hne
 simpa [Yg,this] using h
theorem qmt {c:Operand} {x y:Code} (hc:ev G fr c= .bool true) (h:AWp P G N p x Q fr H):AWp P G N p (.cond c x y) Q fr H:=qh0 hc (fun _=>h) (fun h=>by cases h)
theorem ql9 {c:Operand} {x y:Code} (hc:ev G fr c= .bool false) (h:AWp P G N p y Q fr H):AWp P G N p (.cond c x y) Q fr H:=qh0 hc (fun h=>by cases h) (fun _=>h)
theorem qkh {op:Op} {x:AV} (h:evalOp P G fr H op=some (x,H')):qcu P G fr H op x H':=by
 unfold qcu
 split
 ·rename_i c
  split
  ·rename_i f xs hc
   exfalso
   unfold kc at hc
   split at hc
   ·rename_i fo hfo
    simp [evalOp,Zy,hfo] at h
   cases hc
  exact .inl h
 exact .inl h
theorem qzk (hg:o.guard=none) {x:AV} (h:ql3 P G fr H o.op x H') (hk:wpL P G ops os (put o.dst x fr) H' K):wpL P G ops (o::os) fr H K:=by
 unfold wpL
 simp only [hg]
 refine .inl ⟨x,H',?_,hk⟩
 unfold ql3 at h
 split at h
 ·rename_i t len ps hop
  rw [hop]
  exact .inr h
 ·rename_i t len cap hop
  rw [hop]
  exact .inr h
 exact h.elim
theorem qvl {c:Call} {x:AV} (h:Za P G fr c=some x):qcu P G fr H (.call c) x H:=by
 have hc:kc G fr c=none:=by
  unfold Za at h
  unfold kc
  split at h
  ·rename_i hb _ _
   rw [hb]
  cases h
 unfold qcu
 simp only [hc]
 exact .inr ⟨h,trivial⟩
theorem qwm {c:Call} {x:AV} (hg:o.guard=none) (ho:o.op= .call c) (h:Za P G fr c=some x) (hk:wpL P G ops os (put o.dst x fr) H K):wpL P G ops (o::os) fr H K:=by
 unfold wpL
 simp only [hg]
 exact .inl ⟨x,H,ho ▸ qvl h,hk⟩
theorem q1c {x:AV} (hg:o.guard=none) (h:evalOp P G fr H o.op=some (x,H')) (hk:wpL P G ops os (put o.dst x fr) H' K):wpL P G ops (o::os) fr H K:=by
 unfold wpL
 simp only [hg]
 exact .inl ⟨x,H',qkh h,hk⟩
theorem qmw {c:Call} {f:FuncId} {xs:List AV} {x:AV} (hg:o.guard=none) (ho:o.op= .call c) (hc:kc G fr c=some (f,xs)) (h:ACalls P G f xs H x H') (hk:wpL P G ops os (put o.dst x fr) H' K):wpL P G ops (o::os) fr H K:=by
 unfold wpL
 simp only [hg]
 refine .inl ⟨x,H',?_,hk⟩
 rw [ho]
 unfold qcu
 simp only [hc]
 exact h
theorem qu7 {c:Call} {f:FuncId} {xs:List AV} {ch:List PanicEntry} (hg:o.guard=none) (ho:o.op= .call c) (hc:kc G fr c=some (f,xs)) (h:FCalls P G f xs H ch) (hk:K (.panic ch) fr ⟨H.n, []⟩):wpL P G ops (o::os) fr H K:=by
 unfold wpL
 simp only [hg]
 refine .inr ⟨ch,?_,hk⟩
 rw [ho]
 unfold qn2
 simp only [hc]
 exact h
theorem qu6 {x:Operand} {t:TypeId} {k:IntKind} {i:Int} (hg:o.guard=none) (ho:o.op= .panic x) (hx:ev G fr x= .iface t (.int k i)) (hk:K (.panic [{v:= .iface t (.int k i),recovered:=false}]) fr ⟨H.n, []⟩):wpL P G ops (o::os) fr H K:=by
 unfold wpL
 simp only [hg]
 refine .inr ⟨_,?_,hk⟩
 rw [ho]
 exact ⟨t,k,i,hx,rfl⟩
theorem qwn {c:Call} {f:FuncId} {xs:List AV} {x:AV} (hg:o.guard=none) (ho:o.op= .call c) (hc:kc G fr c=some (f,xs)) (h:Fn P G f xs x) (hk:wpL P G ops os (put o.dst x fr) H K):wpL P G ops (o::os) fr H K:=
 qmw hg ho hc (h.calls H) hk
def Oper.free (o:Oper):Oper:=⟨o.dst,o.op,o.type,o.pos,o.after,none⟩
theorem qbx {t j:Nat} {b:Bool} (ht:(ops[j]?).bind (·.dst)=some t) (hb:fr t= .bool b):vm ops fr j=some (some b):=by
 unfold vm
 simp only [ht,hb]
theorem qj4 {t j:Nat} (ht:(ops[j]?).bind (·.dst)=some t) (hb:fr t= .tup []):vm ops fr j=some none:=by
 unfold vm
 simp only [ht,hb]
theorem qr3 {t j:Nat} {want:Bool} (hg:o.guard=some (j,want)) (ht:(ops[j]?).bind (·.dst)=some t) (hb:fr t= .tup []) (h:wpL P G ops os (put o.dst (.tup []) fr) H K):wpL P G ops (o::os) fr H K:=by
 unfold wpL
 simp only [hg]
 exact ⟨none,qj4 ht hb,(fun h=>by cases h),fun _=>h⟩
theorem qpq {t j:Nat} {want:Bool} (hg:o.guard=some (j,want)) (ht:(ops[j]?).bind (·.dst)=some t) (hb:fr t= .bool want) (h:wpL P G ops (Oper.free o::os) fr H K):wpL P G ops (o::os) fr H K:=by
 unfold wpL at*
 simp only [hg]
 simp only [Oper.free] at h
 exact ⟨some want,qbx ht hb,fun _=>h,fun h=>absurd rfl h⟩
theorem qr2 {t j:Nat} (hg:o.guard=some (j,true)) (ht:(ops[j]?).bind (·.dst)=some t) (hb:fr t= .bool false) (h:wpL P G ops os (put o.dst (.tup []) fr) H K):wpL P G ops (o::os) fr H K:=by
 unfold wpL
 simp only [hg]
 exact ⟨some false,qbx ht hb,(fun h=>by cases h),fun _=>h⟩
theorem qr4 {t j:Nat} (hg:o.guard=some (j,false)) (ht:(ops[j]?).bind (·.dst)=some t) (hb:fr t= .bool true) (h:wpL P G ops os (put o.dst (.tup []) fr) H K):wpL P G ops (o::os) fr H K:=by
 unfold wpL
 simp only [hg]
 exact ⟨some true,qbx ht hb,(fun h=>by cases h),fun _=>h⟩
theorem qpo {t j:Nat} {b:Bool} (hg:o.guard=some (j,true)) (ht:(ops[j]?).bind (·.dst)=some t) (hb:fr t= .bool b) (hy:b=true→wpL P G ops (Oper.free o::os) fr H K) (hn:b=false→wpL P G ops os (put o.dst (.tup []) fr) H K):wpL P G ops (o::os) fr H K:=by
 cases b
 ·exact qr2 hg ht hb (hn rfl)
 exact qpq hg ht hb (hy rfl)
theorem qpp {t j:Nat} {b:Bool} (hg:o.guard=some (j,false)) (ht:(ops[j]?).bind (·.dst)=some t) (hb:fr t= .bool b) (hy:b=false→wpL P G ops (Oper.free o::os) fr H K) (hn:b=true→wpL P G ops os (put o.dst (.tup []) fr) H K):wpL P G ops (o::os) fr H K:=by
 cases b
 ·exact qpq hg ht hb (hy rfl)
 exact qr4 hg ht hb (hn rfl)
section
variable {d:Option Tmp} {op:Op} {ty:TypeId} {pos:String} {aft:Array Edge}
end
theorem qo5 (x:AV) (xs:List AV):Ke (x::xs) 0=x:=rfl
theorem qo6 (x:AV) (xs:List AV) (i:Nat):Ke (x::xs) (i+1)=Ke xs i:=rfl
theorem qrb (i:Nat):Ke [] i= .undef:=rfl
theorem qme (fr:Fr) (H:Hp) (t:Tmp):v7 P [.tmp t] fr H=some (fr t):=rfl
theorem qmd (fr:Fr) (H:Hp) (t u:Tmp):v7 P [.tmp t, .tmp u] fr H=some (.tup [fr t,fr u]):=rfl
theorem qje (fr:Fr) (H:Hp) (t u v:Tmp):v7 P [.tmp t, .tmp u, .tmp v] fr H=some (.tup [fr t,fr u,fr v]):=rfl
attribute [go_sem] qme qmd qje List.all_cons List.all_nil AV.one Bool.and_true Bool.true_and Bool.and_self Bool.false_eq_true eq_self
attribute [go_sem] List.length_nil List.length_cons List.nil_append List.cons_append List.getElem?_cons_zero List.getElem?_cons_succ Nat.add_zero Nat.zero_add Option.map_some Option.map_none List.set_cons_zero List.set_cons_succ List.head?_cons List.map_cons List.map_nil List.drop_zero List.drop_succ_cons List.take_succ_cons List.take_zero true_and and_true and_self
attribute [go_sem] qog u3 evalOp ev ofV wq qxj qo5 qo6 qrb Q6 qf2 Yw Z9 qhn qg3 qdx eqAV eqTypeAV unAV qqr qoo qqs qge qf4 qe6 qg4 qcc ub qcw qi5
 Jx vd vn Q9 qe7 qcg Jy v8 qaz qc2 u6 Zy kc vm Hp.push
end Go.Proofs.YtpnkemogepoioaaGreatDoorW.Ex
