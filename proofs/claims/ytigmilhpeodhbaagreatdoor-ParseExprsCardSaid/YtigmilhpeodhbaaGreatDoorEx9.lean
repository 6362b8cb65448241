/- A symbolic executor for the machine's code, part 9: the rules as a proof applies them, one by one. General over the program; no conditions beside those in each theorem. -/
import Derived.Test.YtigmilhpeodhbaaGreatDoorEx8
namespace Go.Proofs.YtigmilhpeodhbaaGreatDoorW.Ex
set_option linter.all false
open Go
variable {G : Nat → List AV} {P : Program} {N p : Nat} {fr : Fr} {H H' : Hp} {Q : Exit → Fr → Hp → Prop} {ops : Array Oper} {os : List Oper} {o : Oper} {K : Exit → Fr → Hp → Prop}
theorem Qg {next : Fr → Hp → Prop} (h : next fr H) : Jp next Q .normal fr H := h
theorem qq4 {next : Fr → Hp → Prop} (h : Q .ret fr H) : Jp next Q .ret fr H := h
theorem qfm {next : Fr → Hp → Prop} {i : Nat} (h : Q (.exit i) fr H) : Jp next Q (.exit i) fr H := h
theorem qfx {id : Nat} (h : Q .normal fr H) : Kp id Q .normal fr H := h
theorem qsr {id : Nat} (h : Q .ret fr H) : Kp id Q .ret fr H := h
theorem qpx {id : Nat} (h : Q .normal fr H) : Kp id Q (.exit id) fr H := by simpa [Kp] using h
theorem qg7 {id i : Nat} (hne : Nat.beq i id = false) (h : Q (.exit i) fr H) : Kp id Q (.exit i) fr H := by
 have : i ≠ id := by intro e; subst e; simp at hne
 simpa [Kp, this] using h
theorem qpw {c : Operand} {x y : Code} (hc : ev G fr c = .bool true) (h : AWp P G N p x Q fr H) : AWp P G N p (.cond c x y) Q fr H := qet hc (fun _ => h) (fun h => by cases h)
theorem qpe {c : Operand} {x y : Code} (hc : ev G fr c = .bool false) (h : AWp P G N p y Q fr H) : AWp P G N p (.cond c x y) Q fr H := qet hc (fun h => by cases h) (fun _ => h)
theorem qm8 {op : Op} {x : AV} (h : evalOp P G fr H op = some (x, H')) : qfw P G fr H op x H' := by
 unfold qfw
 split
 ·rename_i c
  split
  ·rename_i f xs hc
   exfalso
   unfold wj at hc
   split at hc
   ·rename_i fo hfo
    simp [evalOp, Jv, hfo] at h
   ·cases hc
  ·exact .inl h
 ·exact .inl h
theorem q2q (hg : o.guard = none) {x : AV} (h : qou P G fr H o.op x H') (hk : wpL P G ops os (put o.dst x fr) H' K) : wpL P G ops (o :: os) fr H K := by
 unfold wpL
 simp only [hg]
 refine .inl ⟨x, H', ?_, hk⟩
 unfold qou at h
 split at h
 ·rename_i t len ps hop
  rw [hop]
  exact .inr h
 ·exact h.elim
theorem qyv {c : Call} {x : AV} (h : Jj P G fr c = some x) : qfw P G fr H (.call c) x H := by
 have hc : wj G fr c = none := by
  unfold Jj at h
  unfold wj
  split at h
  ·rename_i hb _ _
   rw [hb]
  ·cases h
 unfold qfw
 simp only [hc]
 exact .inr ⟨h, trivial⟩
theorem qzy {c : Call} {x : AV} (hg : o.guard = none) (ho : o.op = .call c) (h : Jj P G fr c = some x) (hk : wpL P G ops os (put o.dst x fr) H K) : wpL P G ops (o :: os) fr H K := by
 unfold wpL
 simp only [hg]
 exact .inl ⟨x, H, ho ▸ qyv h, hk⟩
theorem q4b {x : AV} (hg : o.guard = none) (h : evalOp P G fr H o.op = some (x, H')) (hk : wpL P G ops os (put o.dst x fr) H' K) : wpL P G ops (o :: os) fr H K := by
 unfold wpL
 simp only [hg]
 exact .inl ⟨x, H', qm8 h, hk⟩
theorem qpz {c : Call} {f : FuncId} {xs : List AV} {x : AV} (hg : o.guard = none) (ho : o.op = .call c) (hc : wj G fr c = some (f, xs)) (h : ACalls P G f xs H x H') (hk : wpL P G ops os (put o.dst x fr) H' K) : wpL P G ops (o :: os) fr H K := by
 unfold wpL
 simp only [hg]
 refine .inl ⟨x, H', ?_, hk⟩
 rw [ho]
 unfold qfw
 simp only [hc]
 exact h
theorem qyi {c : Call} {f : FuncId} {xs : List AV} {ch : List PanicEntry} (hg : o.guard = none) (ho : o.op = .call c) (hc : wj G fr c = some (f, xs)) (h : FCalls P G f xs H ch) (hk : K (.panic ch) fr ⟨H.n, []⟩) : wpL P G ops (o :: os) fr H K := by
 unfold wpL
 simp only [hg]
 refine .inr ⟨ch, ?_, hk⟩
 rw [ho]
 unfold qq2
 simp only [hc]
 exact h
theorem qyh {x : Operand} {t : TypeId} {k : IntKind} {i : Int} (hg : o.guard = none) (ho : o.op = .panic x) (hx : ev G fr x = .iface t (.int k i)) (hk : K (.panic [{ v := .iface t (.int k i), recovered := false }]) fr ⟨H.n, []⟩) : wpL P G ops (o :: os) fr H K := by
 unfold wpL
 simp only [hg]
 refine .inr ⟨_, ?_, hk⟩
 rw [ho]
 exact ⟨t, k, i, hx, rfl⟩
theorem qzz {c : Call} {f : FuncId} {xs : List AV} {x : AV} (hg : o.guard = none) (ho : o.op = .call c) (hc : wj G fr c = some (f, xs)) (h : Fn P G f xs x) (hk : wpL P G ops os (put o.dst x fr) H K) : wpL P G ops (o :: os) fr H K :=
 qpz hg ho hc (h.calls H) hk
def Oper.free (o : Oper) : Oper := ⟨o.dst, o.op, o.type, o.pos, o.after, none⟩
theorem qdv {t j : Nat} {b : Bool} (ht : (ops[j]?).bind (·.dst) = some t) (hb : fr t = .bool b) : Je ops fr j = some (some b) := by
 unfold Je
 simp only [ht, hb]
theorem qms {t j : Nat} (ht : (ops[j]?).bind (·.dst) = some t) (hb : fr t = .tup []) : Je ops fr j = some none := by
 unfold Je
 simp only [ht, hb]
theorem qvc {t j : Nat} {want : Bool} (hg : o.guard = some (j, want)) (ht : (ops[j]?).bind (·.dst) = some t) (hb : fr t = .tup []) (h : wpL P G ops os (put o.dst (.tup []) fr) H K) : wpL P G ops (o :: os) fr H K := by
 unfold wpL
 simp only [hg]
 exact ⟨none, qms ht hb, (fun h => by cases h), fun _ => h⟩
theorem qsv {t j : Nat} {want : Bool} (hg : o.guard = some (j, want)) (ht : (ops[j]?).bind (·.dst) = some t) (hb : fr t = .bool want) (h : wpL P G ops (Oper.free o :: os) fr H K) : wpL P G ops (o :: os) fr H K := by
 unfold wpL at *
 simp only [hg]
 simp only [Oper.free] at h
 exact ⟨some want, qdv ht hb, fun _ => h, fun h => absurd rfl h⟩
theorem qvb {t j : Nat} (hg : o.guard = some (j, true)) (ht : (ops[j]?).bind (·.dst) = some t) (hb : fr t = .bool false) (h : wpL P G ops os (put o.dst (.tup []) fr) H K) : wpL P G ops (o :: os) fr H K := by
 unfold wpL
 simp only [hg]
 exact ⟨some false, qdv ht hb, (fun h => by cases h), fun _ => h⟩
theorem qvd {t j : Nat} (hg : o.guard = some (j, false)) (ht : (ops[j]?).bind (·.dst) = some t) (hb : fr t = .bool true) (h : wpL P G ops os (put o.dst (.tup []) fr) H K) : wpL P G ops (o :: os) fr H K := by
 unfold wpL
 simp only [hg]
 exact ⟨some true, qdv ht hb, (fun h => by cases h), fun _ => h⟩
theorem qst {t j : Nat} {b : Bool} (hg : o.guard = some (j, true)) (ht : (ops[j]?).bind (·.dst) = some t) (hb : fr t = .bool b) (hy : b = true → wpL P G ops (Oper.free o :: os) fr H K) (hn : b = false → wpL P G ops os (put o.dst (.tup []) fr) H K) : wpL P G ops (o :: os) fr H K := by
 cases b
 ·exact qvb hg ht hb (hn rfl)
 ·exact qsv hg ht hb (hy rfl)
theorem qsu {t j : Nat} {b : Bool} (hg : o.guard = some (j, false)) (ht : (ops[j]?).bind (·.dst) = some t) (hb : fr t = .bool b) (hy : b = false → wpL P G ops (Oper.free o :: os) fr H K) (hn : b = true → wpL P G ops os (put o.dst (.tup []) fr) H K) : wpL P G ops (o :: os) fr H K := by
 cases b
 ·exact qsv hg ht hb (hy rfl)
 ·exact qvd hg ht hb (hn rfl)
section
variable {d : Option Tmp} {op : Op} {ty : TypeId} {pos : String} {aft : Array Edge}
end
theorem qr4 (x : AV) (xs : List AV) : Wv (x :: xs) 0 = x := rfl
theorem qr5 (x : AV) (xs : List AV) (i : Nat) : Wv (x :: xs) (i + 1) = Wv xs i := rfl
theorem qt5 (i : Nat) : Wv [] i = .undef := rfl
theorem qpj (fr : Fr) (H : Hp) (t : Tmp) : Ze P [.tmp t] fr H = some (fr t) := rfl
theorem qpi (fr : Fr) (H : Hp) (t u : Tmp) : Ze P [.tmp t, .tmp u] fr H = some (.tup [fr t, fr u]) := rfl
theorem qlx (fr : Fr) (H : Hp) (t u v : Tmp) : Ze P [.tmp t, .tmp u, .tmp v] fr H = some (.tup [fr t, fr u, fr v]) := rfl
attribute [go_sem] qpj qpi qlx List.all_cons List.all_nil AV.one Bool.and_true Bool.true_and Bool.and_self Bool.false_eq_true eq_self
attribute [go_sem] List.length_nil List.length_cons List.nil_append List.cons_append List.getElem?_cons_zero List.getElem?_cons_succ Nat.add_zero Nat.zero_add Option.map_some Option.map_none List.set_cons_zero List.set_cons_succ List.head?_cons List.map_cons List.map_nil List.drop_zero List.drop_succ_cons List.take_succ_cons List.take_zero true_and and_true and_self
attribute [go_sem] qre qdj evalOp ev ofV Qi q0s qr4 qr5 qt5 Jf qh8 Wc Yy qls qjh qi6 eqAV eqTypeAV unAV qtj qrn qtk qil qh9 qhf qji qd3 u5 qew qlk
 Ww Ym Zp Ji qhh qd8 Y6 Qr qa7 qe3 vx Jv wj Je Hp.push
end Go.Proofs.YtigmilhpeodhbaaGreatDoorW.Ex
