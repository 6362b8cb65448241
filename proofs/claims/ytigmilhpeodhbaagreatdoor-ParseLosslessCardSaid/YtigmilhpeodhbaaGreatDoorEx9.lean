/- A symbolic executor for the machine's code, part 9: the rules as a proof applies them, one by one. General over the program; no conditions beside those in each theorem. -/
import Derived.Test.YtigmilhpeodhbaaGreatDoorEx8
namespace Go.Proofs.YtigmilhpeodhbaaGreatDoorW.Ex
set_option linter.all false
open Go
variable {G : Nat → List AV} {P : Program} {N p : Nat} {fr : Fr} {H H' : Hp} {Q : Exit → Fr → Hp → Prop} {ops : Array Oper} {os : List Oper} {o : Oper} {K : Exit → Fr → Hp → Prop}
theorem vh {next : Fr → Hp → Prop} (h : next fr H) : Zp next Q .normal fr H := h
theorem qp5 {next : Fr → Hp → Prop} (h : Q .ret fr H) : Zp next Q .ret fr H := h
theorem qd0 {next : Fr → Hp → Prop} {i : Nat} (h : Q (.exit i) fr H) : Zp next Q (.exit i) fr H := h
theorem qd9 {id : Nat} (h : Q .normal fr H) : Yh id Q .normal fr H := h
theorem qrx {id : Nat} (h : Q .ret fr H) : Yh id Q .ret fr H := h
theorem qoq {id : Nat} (h : Q .normal fr H) : Yh id Q (.exit id) fr H := by simpa [Yh] using h
theorem qfa {id i : Nat} (hne : Nat.beq i id = false) (h : Q (.exit i) fr H) : Yh id Q (.exit i) fr H := by
 have : i ≠ id := by intro e; subst e; simp at hne
 simpa [Yh, this] using h
theorem qop {c : Operand} {x y : Code} (hc : ev G fr c = .bool true) (h : AWp P G N p x Q fr H) : AWp P G N p (.cond c x y) Q fr H := qc4 hc (fun _ => h) (fun h => by cases h)
theorem qn7 {c : Operand} {x y : Code} (hc : ev G fr c = .bool false) (h : AWp P G N p y Q fr H) : AWp P G N p (.cond c x y) Q fr H := qc4 hc (fun h => by cases h) (fun _ => h)
theorem qle {op : Op} {x : AV} (h : evalOp P G fr H op = some (x, H')) : qd7 P G fr H op x H' := by
 unfold qd7
 split
 ·rename_i c
  split
  ·rename_i f xs hc
   exfalso
   unfold kz at hc
   split at hc
   ·rename_i fo hfo
    simp [evalOp, Zj, hfo] at h
   ·cases hc
  ·exact .inl h
 ·exact .inl h
theorem q1z (hg : o.guard = none) {x : AV} (h : qnk P G fr H o.op x H') (hk : wpL P G ops os (put o.dst x fr) H' K) : wpL P G ops (o :: os) fr H K := by
 unfold wpL
 simp only [hg]
 refine .inl ⟨x, H', ?_, hk⟩
 unfold qnk at h
 split at h
 ·rename_i t len ps hop
  rw [hop]
  exact .inr h
 ·exact h.elim
theorem qx6 {c : Call} {x : AV} (h : Zi P G fr c = some x) : qd7 P G fr H (.call c) x H := by
 have hc : kz G fr c = none := by
  unfold Zi at h
  unfold kz
  split at h
  ·rename_i hb _ _
   rw [hb]
  ·cases h
 unfold qd7
 simp only [hc]
 exact .inr ⟨h, trivial⟩
theorem qy7 {c : Call} {x : AV} (hg : o.guard = none) (ho : o.op = .call c) (h : Zi P G fr c = some x) (hk : wpL P G ops os (put o.dst x fr) H K) : wpL P G ops (o :: os) fr H K := by
 unfold wpL
 simp only [hg]
 exact .inl ⟨x, H, ho ▸ qx6 h, hk⟩
theorem q3w {x : AV} (hg : o.guard = none) (h : evalOp P G fr H o.op = some (x, H')) (hk : wpL P G ops os (put o.dst x fr) H' K) : wpL P G ops (o :: os) fr H K := by
 unfold wpL
 simp only [hg]
 exact .inl ⟨x, H', qle h, hk⟩
theorem qos {c : Call} {f : FuncId} {xs : List AV} {x : AV} (hg : o.guard = none) (ho : o.op = .call c) (hc : kz G fr c = some (f, xs)) (h : ACalls P G f xs H x H') (hk : wpL P G ops os (put o.dst x fr) H' K) : wpL P G ops (o :: os) fr H K := by
 unfold wpL
 simp only [hg]
 refine .inl ⟨x, H', ?_, hk⟩
 rw [ho]
 unfold qd7
 simp only [hc]
 exact h
theorem qxs {c : Call} {f : FuncId} {xs : List AV} {ch : List PanicEntry} (hg : o.guard = none) (ho : o.op = .call c) (hc : kz G fr c = some (f, xs)) (h : FCalls P G f xs H ch) (hk : K (.panic ch) fr ⟨H.n, []⟩) : wpL P G ops (o :: os) fr H K := by
 unfold wpL
 simp only [hg]
 refine .inr ⟨ch, ?_, hk⟩
 rw [ho]
 unfold qp3
 simp only [hc]
 exact h
theorem qxr {x : Operand} {t : TypeId} {k : IntKind} {i : Int} (hg : o.guard = none) (ho : o.op = .panic x) (hx : ev G fr x = .iface t (.int k i)) (hk : K (.panic [{ v := .iface t (.int k i), recovered := false }]) fr ⟨H.n, []⟩) : wpL P G ops (o :: os) fr H K := by
 unfold wpL
 simp only [hg]
 refine .inr ⟨_, ?_, hk⟩
 rw [ho]
 exact ⟨t, k, i, hx, rfl⟩
theorem qy8 {c : Call} {f : FuncId} {xs : List AV} {x : AV} (hg : o.guard = none) (ho : o.op = .call c) (hc : kz G fr c = some (f, xs)) (h : Fn P G f xs x) (hk : wpL P G ops os (put o.dst x fr) H K) : wpL P G ops (o :: os) fr H K :=
 qos hg ho hc (h.calls H) hk
def Oper.free (o : Oper) : Oper := ⟨o.dst, o.op, o.type, o.pos, o.after, none⟩
theorem qb0 {t j : Nat} {b : Bool} (ht : (ops[j]?).bind (·.dst) = some t) (hb : fr t = .bool b) : Zc ops fr j = some (some b) := by
 unfold Zc
 simp only [ht, hb]
theorem qkz {t j : Nat} (ht : (ops[j]?).bind (·.dst) = some t) (hb : fr t = .tup []) : Zc ops fr j = some none := by
 unfold Zc
 simp only [ht, hb]
theorem qub {t j : Nat} {want : Bool} (hg : o.guard = some (j, want)) (ht : (ops[j]?).bind (·.dst) = some t) (hb : fr t = .tup []) (h : wpL P G ops os (put o.dst (.tup []) fr) H K) : wpL P G ops (o :: os) fr H K := by
 unfold wpL
 simp only [hg]
 exact ⟨none, qkz ht hb, (fun h => by cases h), fun _ => h⟩
theorem qr1 {t j : Nat} {want : Bool} (hg : o.guard = some (j, want)) (ht : (ops[j]?).bind (·.dst) = some t) (hb : fr t = .bool want) (h : wpL P G ops (Oper.free o :: os) fr H K) : wpL P G ops (o :: os) fr H K := by
 unfold wpL at *
 simp only [hg]
 simp only [Oper.free] at h
 exact ⟨some want, qb0 ht hb, fun _ => h, fun h => absurd rfl h⟩
theorem qua {t j : Nat} (hg : o.guard = some (j, true)) (ht : (ops[j]?).bind (·.dst) = some t) (hb : fr t = .bool false) (h : wpL P G ops os (put o.dst (.tup []) fr) H K) : wpL P G ops (o :: os) fr H K := by
 unfold wpL
 simp only [hg]
 exact ⟨some false, qb0 ht hb, (fun h => by cases h), fun _ => h⟩
theorem quc {t j : Nat} (hg : o.guard = some (j, false)) (ht : (ops[j]?).bind (·.dst) = some t) (hb : fr t = .bool true) (h : wpL P G ops os (put o.dst (.tup []) fr) H K) : wpL P G ops (o :: os) fr H K := by
 unfold wpL
 simp only [hg]
 exact ⟨some true, qb0 ht hb, (fun h => by cases h), fun _ => h⟩
theorem qrz {t j : Nat} {b : Bool} (hg : o.guard = some (j, true)) (ht : (ops[j]?).bind (·.dst) = some t) (hb : fr t = .bool b) (hy : b = true → wpL P G ops (Oper.free o :: os) fr H K) (hn : b = false → wpL P G ops os (put o.dst (.tup []) fr) H K) : wpL P G ops (o :: os) fr H K := by
 cases b
 ·exact qua hg ht hb (hn rfl)
 ·exact qr1 hg ht hb (hy rfl)
theorem qr0 {t j : Nat} {b : Bool} (hg : o.guard = some (j, false)) (ht : (ops[j]?).bind (·.dst) = some t) (hb : fr t = .bool b) (hy : b = false → wpL P G ops (Oper.free o :: os) fr H K) (hn : b = true → wpL P G ops os (put o.dst (.tup []) fr) H K) : wpL P G ops (o :: os) fr H K := by
 cases b
 ·exact qr1 hg ht hb (hy rfl)
 ·exact quc hg ht hb (hn rfl)
section
variable {d : Option Tmp} {op : Op} {ty : TypeId} {pos : String} {aft : Array Edge}
end
theorem qrf (x : AV) (xs : List AV) : Kd (x :: xs) 0 = x := rfl
theorem qrg (x : AV) (xs : List AV) (i : Nat) : Kd (x :: xs) (i + 1) = Kd xs i := rfl
theorem qti (i : Nat) : Kd [] i = .undef := rfl
theorem qod (fr : Fr) (H : Hp) (t : Tmp) : Qf P [.tmp t] fr H = some (fr t) := rfl
theorem qoc (fr : Fr) (H : Hp) (t u : Tmp) : Qf P [.tmp t, .tmp u] fr H = some (.tup [fr t, fr u]) := rfl
theorem qj7 (fr : Fr) (H : Hp) (t u v : Tmp) : Qf P [.tmp t, .tmp u, .tmp v] fr H = some (.tup [fr t, fr u, fr v]) := rfl
attribute [go_sem] qod qoc qj7 List.all_cons List.all_nil AV.one Bool.and_true Bool.true_and Bool.and_self Bool.false_eq_true eq_self
attribute [go_sem] List.length_nil List.length_cons List.nil_append List.cons_append List.getElem?_cons_zero List.getElem?_cons_succ Nat.add_zero Nat.zero_add Option.map_some Option.map_none List.set_cons_zero List.set_cons_succ List.head?_cons List.map_cons List.map_nil List.drop_zero List.drop_succ_cons List.take_succ_cons List.take_zero true_and and_true and_self
attribute [go_sem] qqf qbn evalOp ev ofV vi qz4 qrf qrg qti Ze qgc Yv Jo qhz qhl qei eqAV eqTypeAV unAV qsr qqp qss qgp qgd qfj qhm qcd uk qc8 qjq
 Ke Jd Qp Zh qfk qcj Jv we Kg qdh uy Zj kz Zc Hp.push
end Go.Proofs.YtigmilhpeodhbaaGreatDoorW.Ex
