/- A symbolic executor for the machine's code, part 9: the rules as a proof applies them, one by one. General over the program; no conditions beside those in each theorem. -/
import Derived.Test.YtigmilhpeodhbaaGreatDoorEx8
namespace Go.Proofs.YtigmilhpeodhbaaGreatDoorW.Ex
set_option linter.all false
open Go
variable {G : Nat → List AV} {P : Program} {N p : Nat} {fr : Fr} {H H' : Hp} {Q : Exit → Fr → Hp → Prop} {ops : Array Oper} {os : List Oper} {o : Oper} {K : Exit → Fr → Hp → Prop}
theorem Qf {next : Fr → Hp → Prop} (h : next fr H) : Jk next Q .normal fr H := h
theorem qrp {next : Fr → Hp → Prop} (h : Q .ret fr H) : Jk next Q .ret fr H := h
theorem qe6 {next : Fr → Hp → Prop} {i : Nat} (h : Q (.exit i) fr H) : Jk next Q (.exit i) fr H := h
theorem qfd {id : Nat} (h : Q .normal fr H) : Y5 id Q .normal fr H := h
theorem qtq {id : Nat} (h : Q .ret fr H) : Y5 id Q .ret fr H := h
theorem qqa {id : Nat} (h : Q .normal fr H) : Y5 id Q (.exit id) fr H := by simpa [Y5] using h
theorem qgk {id i : Nat} (hne : Nat.beq i id = false) (h : Q (.exit i) fr H) : Y5 id Q (.exit i) fr H := by
 have : i ≠ id := by intro e; subst e; simp at hne
 simpa [Y5, this] using h
theorem qp9 {c : Operand} {x y : Code} (hc : ev G fr c = .bool true) (h : AWp P G N p x Q fr H) : AWp P G N p (.cond c x y) Q fr H := qd3 hc (fun _ => h) (fun h => by cases h)
theorem qpt {c : Operand} {x y : Code} (hc : ev G fr c = .bool false) (h : AWp P G N p y Q fr H) : AWp P G N p (.cond c x y) Q fr H := qd3 hc (fun h => by cases h) (fun _ => h)
theorem qm6 {op : Op} {x : AV} (h : evalOp P G fr H op = some (x, H')) : qfc P G fr H op x H' := by
 unfold qfc
 split
 ·rename_i c
  split
  ·rename_i f xs hc
   exfalso
   unfold wq at hc
   split at hc
   ·rename_i fo hfo
    simp [evalOp, Je, hfo] at h
   cases hc
  exact .inl h
 exact .inl h
theorem q43 (hg : o.guard = none) {x : AV} (h : qo5 P G fr H o.op x H') (hk : wpL P G ops os (put o.dst x fr) H' K) : wpL P G ops (o :: os) fr H K := by
 unfold wpL
 simp only [hg]
 refine .inl ⟨x, H', ?_, hk⟩
 unfold qo5 at h
 split at h
 ·rename_i t len ps hop
  rw [hop]
  exact .inr h
 exact h.elim
theorem q0m {c : Call} {x : AV} (h : Jd P G fr c = some x) : qfc P G fr H (.call c) x H := by
 have hc : wq G fr c = none := by
  unfold Jd at h
  unfold wq
  split at h
  ·rename_i hb _ _
   rw [hb]
  cases h
 unfold qfc
 simp only [hc]
 exact .inr ⟨h, trivial⟩
theorem q1n {c : Call} {x : AV} (hg : o.guard = none) (ho : o.op = .call c) (h : Jd P G fr c = some x) (hk : wpL P G ops os (put o.dst x fr) H K) : wpL P G ops (o :: os) fr H K := by
 unfold wpL
 simp only [hg]
 exact .inl ⟨x, H, ho ▸ q0m h, hk⟩
theorem q65 {x : AV} (hg : o.guard = none) (h : evalOp P G fr H o.op = some (x, H')) (hk : wpL P G ops os (put o.dst x fr) H' K) : wpL P G ops (o :: os) fr H K := by
 unfold wpL
 simp only [hg]
 exact .inl ⟨x, H', qm6 h, hk⟩
theorem qqc {c : Call} {f : FuncId} {xs : List AV} {x : AV} (hg : o.guard = none) (ho : o.op = .call c) (hc : wq G fr c = some (f, xs)) (h : ACalls P G f xs H x H') (hk : wpL P G ops os (put o.dst x fr) H' K) : wpL P G ops (o :: os) fr H K := by
 unfold wpL
 simp only [hg]
 refine .inl ⟨x, H', ?_, hk⟩
 rw [ho]
 unfold qfc
 simp only [hc]
 exact h
theorem qz8 {c : Call} {f : FuncId} {xs : List AV} {ch : List PanicEntry} (hg : o.guard = none) (ho : o.op = .call c) (hc : wq G fr c = some (f, xs)) (h : FCalls P G f xs H ch) (hk : K (.panic ch) fr ⟨H.n, []⟩) : wpL P G ops (o :: os) fr H K := by
 unfold wpL
 simp only [hg]
 refine .inr ⟨ch, ?_, hk⟩
 rw [ho]
 unfold qrn
 simp only [hc]
 exact h
theorem qz7 {x : Operand} {t : TypeId} {k : IntKind} {i : Int} (hg : o.guard = none) (ho : o.op = .panic x) (hx : ev G fr x = .iface t (.int k i)) (hk : K (.panic [{ v := .iface t (.int k i), recovered := false }]) fr ⟨H.n, []⟩) : wpL P G ops (o :: os) fr H K := by
 unfold wpL
 simp only [hg]
 refine .inr ⟨_, ?_, hk⟩
 rw [ho]
 exact ⟨t, k, i, hx, rfl⟩
theorem q1o {c : Call} {f : FuncId} {xs : List AV} {x : AV} (hg : o.guard = none) (ho : o.op = .call c) (hc : wq G fr c = some (f, xs)) (h : Fn P G f xs x) (hk : wpL P G ops os (put o.dst x fr) H K) : wpL P G ops (o :: os) fr H K :=
 qqc hg ho hc (h.calls H) hk
def Oper.free (o : Oper) : Oper := ⟨o.dst, o.op, o.type, o.pos, o.after, none⟩
theorem qcy {t j : Nat} {b : Bool} (ht : (ops[j]?).bind (·.dst) = some t) (hb : fr t = .bool b) : Z6 ops fr j = some (some b) := by
 unfold Z6
 simp only [ht, hb]
theorem qmv {t j : Nat} (ht : (ops[j]?).bind (·.dst) = some t) (hb : fr t = .tup []) : Z6 ops fr j = some none := by
 unfold Z6
 simp only [ht, hb]
theorem qwh {t j : Nat} {want : Bool} (hg : o.guard = some (j, want)) (ht : (ops[j]?).bind (·.dst) = some t) (hb : fr t = .tup []) (h : wpL P G ops os (put o.dst (.tup []) fr) H K) : wpL P G ops (o :: os) fr H K := by
 unfold wpL
 simp only [hg]
 exact ⟨none, qmv ht hb, (fun h => by cases h), fun _ => h⟩
theorem qtu {t j : Nat} {want : Bool} (hg : o.guard = some (j, want)) (ht : (ops[j]?).bind (·.dst) = some t) (hb : fr t = .bool want) (h : wpL P G ops (Oper.free o :: os) fr H K) : wpL P G ops (o :: os) fr H K := by
 unfold wpL at *
 simp only [hg]
 simp only [Oper.free] at h
 exact ⟨some want, qcy ht hb, fun _ => h, fun h => absurd rfl h⟩
theorem qwg {t j : Nat} (hg : o.guard = some (j, true)) (ht : (ops[j]?).bind (·.dst) = some t) (hb : fr t = .bool false) (h : wpL P G ops os (put o.dst (.tup []) fr) H K) : wpL P G ops (o :: os) fr H K := by
 unfold wpL
 simp only [hg]
 exact ⟨some false, qcy ht hb, (fun h => by cases h), fun _ => h⟩
theorem qwi {t j : Nat} (hg : o.guard = some (j, false)) (ht : (ops[j]?).bind (·.dst) = some t) (hb : fr t = .bool true) (h : wpL P G ops os (put o.dst (.tup []) fr) H K) : wpL P G ops (o :: os) fr H K := by
 unfold wpL
 simp only [hg]
 exact ⟨some true, qcy ht hb, (fun h => by cases h), fun _ => h⟩
theorem qts {t j : Nat} {b : Bool} (hg : o.guard = some (j, true)) (ht : (ops[j]?).bind (·.dst) = some t) (hb : fr t = .bool b) (hy : b = true → wpL P G ops (Oper.free o :: os) fr H K) (hn : b = false → wpL P G ops os (put o.dst (.tup []) fr) H K) : wpL P G ops (o :: os) fr H K := by
 cases b
 ·exact qwg hg ht hb (hn rfl)
 exact qtu hg ht hb (hy rfl)
theorem qtt {t j : Nat} {b : Bool} (hg : o.guard = some (j, false)) (ht : (ops[j]?).bind (·.dst) = some t) (hb : fr t = .bool b) (hy : b = false → wpL P G ops (Oper.free o :: os) fr H K) (hn : b = true → wpL P G ops os (put o.dst (.tup []) fr) H K) : wpL P G ops (o :: os) fr H K := by
 cases b
 ·exact qtu hg ht hb (hy rfl)
 exact qwi hg ht hb (hn rfl)
section
variable {d : Option Tmp} {op : Op} {ty : TypeId} {pos : String} {aft : Array Edge}
end
theorem qs2 (x : AV) (xs : List AV) : K9 (x :: xs) 0 = x := rfl
theorem qs3 (x : AV) (xs : List AV) (i : Nat) : K9 (x :: xs) (i + 1) = K9 xs i := rfl
theorem qvp (i : Nat) : K9 [] i = .undef := rfl
theorem qpz (fr : Fr) (H : Hp) (t : Tmp) : Q3 P [.tmp t] fr H = some (fr t) := rfl
theorem qpy (fr : Fr) (H : Hp) (t u : Tmp) : Q3 P [.tmp t, .tmp u] fr H = some (.tup [fr t, fr u]) := rfl
theorem ql1 (fr : Fr) (H : Hp) (t u v : Tmp) : Q3 P [.tmp t, .tmp u, .tmp v] fr H = some (.tup [fr t, fr u, fr v]) := rfl
attribute [go_sem] qpz qpy ql1 List.all_cons List.all_nil AV.one Bool.and_true Bool.true_and Bool.and_self Bool.false_eq_true eq_self
attribute [go_sem] List.length_nil List.length_cons List.nil_append List.cons_append List.getElem?_cons_zero List.getElem?_cons_succ Nat.add_zero Nat.zero_add Option.map_some Option.map_none List.set_cons_zero List.set_cons_succ List.head?_cons List.map_cons List.map_nil List.drop_zero List.drop_succ_cons List.take_succ_cons List.take_zero true_and and_true and_self
attribute [go_sem] qry qco evalOp ev ofV Qg q2p qs2 qs3 qvp Z8 qhu Kl Yi qjj qi5 qfo eqAV eqTypeAV unAV qur qr9 qus qh7 qhv qgu qi6 qde vh qd9 qlk
 Wa J6 Ze Jc qgv qdk Yn ww Wb qek vq Je wq Z6 Hp.push
end Go.Proofs.YtigmilhpeodhbaaGreatDoorW.Ex
