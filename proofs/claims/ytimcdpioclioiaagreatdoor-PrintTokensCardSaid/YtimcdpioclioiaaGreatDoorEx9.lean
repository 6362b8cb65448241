/- A symbolic executor for the machine's code, part 9: the rules as a proof applies them, one by one. General over the program; no conditions beside those in each theorem. -/
import Derived.Test.YtimcdpioclioiaaGreatDoorEx8
namespace Go.Proofs.YtimcdpioclioiaaGreatDoorW.Ex
set_option linter.all false
open Go
variable {G : Nat → List AV} {P : Program} {N p : Nat} {fr : Fr} {H H' : Hp} {Q : Exit → Fr → Hp → Prop} {ops : Array Oper} {os : List Oper} {o : Oper} {K : Fr → Hp → Prop}
theorem Zz {next : Fr → Hp → Prop} (h : next fr H) : Z4 next Q .normal fr H := h
theorem AThen_ret {next : Fr → Hp → Prop} (h : Q .ret fr H) : Z4 next Q .ret fr H := h
theorem Z0 {next : Fr → Hp → Prop} {i : Nat} (h : Q (.exit i) fr H) : Z4 next Q (.exit i) fr H := h
theorem Z6 {id : Nat} (h : Q .normal fr H) : wy id Q .normal fr H := h
theorem AInBlock_ret {id : Nat} (h : Q .ret fr H) : wy id Q .ret fr H := h
theorem AInBlock_this {id : Nat} (h : Q .normal fr H) : wy id Q (.exit id) fr H := by simpa [wy] using h
theorem Yg {id i : Nat} (hne : Nat.beq i id = false) (h : Q (.exit i) fr H) : wy id Q (.exit i) fr H := by
 have : i ≠ id := by intro e; subst e; simp at hne
 simpa [wy, this] using h
theorem AWp_cond_true {c : Operand} {x y : Code} (hc : ev G fr c = .bool true) (h : AWp P G N p x Q fr H) : AWp P G N p (.cond c x y) Q fr H := AWp_cond hc (fun _ => h) (fun h => by cases h)
theorem AWp_cond_false {c : Operand} {x y : Code} (hc : ev G fr c = .bool false) (h : AWp P G N p y Q fr H) : AWp P G N p (.cond c x y) Q fr H := AWp_cond hc (fun h => by cases h) (fun _ => h)
theorem step_of_ev {op : Op} {x : AV} (h : evalOp P G fr H op = some (x, H')) : Z5 P G fr H op x H' := by
 unfold Z5
 split
 ·rename_i c
  split
  ·rename_i f xs hc
   exfalso
   unfold j3 at hc
   split at hc
   ·rename_i fo hfo
    simp [evalOp, ku, hfo] at h
   ·cases hc
  ·exact .inl h
 ·exact h
theorem step_copy {c : Call} {x : AV} (h : kt P G fr c = some x) : Z5 P G fr H (.call c) x H := by
 have hc : j3 G fr c = none := by
  unfold kt at h
  unfold j3
  split at h
  ·rename_i hb _ _
   rw [hb]
  ·cases h
 unfold Z5
 simp only [hc]
 exact .inr ⟨h, trivial⟩
theorem wpL_copy {c : Call} {x : AV} (hg : o.guard = none) (ho : o.op = .call c) (h : kt P G fr c = some x) (hk : wpL P G ops os (put o.dst x fr) H K) : wpL P G ops (o :: os) fr H K := by
 unfold wpL
 simp only [hg]
 exact ⟨x, H, ho ▸ step_copy h, hk⟩
theorem wpL_ev {x : AV} (hg : o.guard = none) (h : evalOp P G fr H o.op = some (x, H')) (hk : wpL P G ops os (put o.dst x fr) H' K) : wpL P G ops (o :: os) fr H K := by
 unfold wpL
 simp only [hg]
 exact ⟨x, H', step_of_ev h, hk⟩
theorem wpL_acall {c : Call} {f : FuncId} {xs : List AV} {x : AV} (hg : o.guard = none) (ho : o.op = .call c) (hc : j3 G fr c = some (f, xs)) (h : ACalls P G f xs H x H') (hk : wpL P G ops os (put o.dst x fr) H' K) : wpL P G ops (o :: os) fr H K := by
 unfold wpL
 simp only [hg]
 refine ⟨x, H', ?_, hk⟩
 rw [ho]
 unfold Z5
 simp only [hc]
 exact h
theorem wpL_call {c : Call} {f : FuncId} {xs : List AV} {x : AV} (hg : o.guard = none) (ho : o.op = .call c) (hc : j3 G fr c = some (f, xs)) (h : Fn P G f xs x) (hk : wpL P G ops os (put o.dst x fr) H K) : wpL P G ops (o :: os) fr H K :=
 wpL_acall hg ho hc (h.calls H) hk
def Oper.free (o : Oper) : Oper := ⟨o.dst, o.op, o.type, o.pos, o.after, none⟩
theorem Qq {t j : Nat} {b : Bool} (ht : (ops[j]?).bind (·.dst) = some t) (hb : fr t = .bool b) : km ops fr j = some (some b) := by
 unfold km
 simp only [ht, hb]
theorem yield_none {t j : Nat} (ht : (ops[j]?).bind (·.dst) = some t) (hb : fr t = .tup []) : km ops fr j = some none := by
 unfold km
 simp only [ht, hb]
theorem wpL_skip_n {t j : Nat} {want : Bool} (hg : o.guard = some (j, want)) (ht : (ops[j]?).bind (·.dst) = some t) (hb : fr t = .tup []) (h : wpL P G ops os (put o.dst (.tup []) fr) H K) : wpL P G ops (o :: os) fr H K := by
 unfold wpL
 simp only [hg]
 exact ⟨none, yield_none ht hb, (fun h => by cases h), fun _ => h⟩
theorem wpL_free {t j : Nat} {want : Bool} (hg : o.guard = some (j, want)) (ht : (ops[j]?).bind (·.dst) = some t) (hb : fr t = .bool want) (h : wpL P G ops (Oper.free o :: os) fr H K) : wpL P G ops (o :: os) fr H K := by
 unfold wpL at *
 simp only [hg]
 simp only [Oper.free] at h
 exact ⟨some want, Qq ht hb, fun _ => h, fun h => absurd rfl h⟩
theorem wpL_skip_t {t j : Nat} (hg : o.guard = some (j, true)) (ht : (ops[j]?).bind (·.dst) = some t) (hb : fr t = .bool false) (h : wpL P G ops os (put o.dst (.tup []) fr) H K) : wpL P G ops (o :: os) fr H K := by
 unfold wpL
 simp only [hg]
 exact ⟨some false, Qq ht hb, (fun h => by cases h), fun _ => h⟩
theorem wpL_skip_f {t j : Nat} (hg : o.guard = some (j, false)) (ht : (ops[j]?).bind (·.dst) = some t) (hb : fr t = .bool true) (h : wpL P G ops os (put o.dst (.tup []) fr) H K) : wpL P G ops (o :: os) fr H K := by
 unfold wpL
 simp only [hg]
 exact ⟨some true, Qq ht hb, (fun h => by cases h), fun _ => h⟩
theorem wpL_split_t {t j : Nat} {b : Bool} (hg : o.guard = some (j, true)) (ht : (ops[j]?).bind (·.dst) = some t) (hb : fr t = .bool b) (hy : b = true → wpL P G ops (Oper.free o :: os) fr H K) (hn : b = false → wpL P G ops os (put o.dst (.tup []) fr) H K) : wpL P G ops (o :: os) fr H K := by
 cases b
 ·exact wpL_skip_t hg ht hb (hn rfl)
 ·exact wpL_free hg ht hb (hy rfl)
theorem wpL_split_f {t j : Nat} {b : Bool} (hg : o.guard = some (j, false)) (ht : (ops[j]?).bind (·.dst) = some t) (hb : fr t = .bool b) (hy : b = false → wpL P G ops (Oper.free o :: os) fr H K) (hn : b = true → wpL P G ops os (put o.dst (.tup []) fr) H K) : wpL P G ops (o :: os) fr H K := by
 cases b
 ·exact wpL_free hg ht hb (hy rfl)
 ·exact wpL_skip_f hg ht hb (hn rfl)
section
variable {d : Option Tmp} {op : Op} {ty : TypeId} {pos : String} {aft : Array Edge}
end
theorem enterFr_zero (x : AV) (xs : List AV) : u9 (x :: xs) 0 = x := rfl
theorem enterFr_succ (x : AV) (xs : List AV) (i : Nat) : u9 (x :: xs) (i + 1) = u9 xs i := rfl
theorem enterFr_nil (i : Nat) : u9 [] i = .undef := rfl
theorem resultsAV_one (fr : Fr) (H : Hp) (t : Tmp) : y6 P [.tmp t] fr H = some (fr t) := rfl
theorem resultsAV_two (fr : Fr) (H : Hp) (t u : Tmp) : y6 P [.tmp t, .tmp u] fr H = some (.tup [fr t, fr u]) := rfl
theorem resultsAV_three (fr : Fr) (H : Hp) (t u v : Tmp) : y6 P [.tmp t, .tmp u, .tmp v] fr H = some (.tup [fr t, fr u, fr v]) := rfl
attribute [go_sem] resultsAV_one resultsAV_two resultsAV_three List.all_cons List.all_nil AV.one Bool.and_true Bool.true_and Bool.and_self Bool.false_eq_true eq_self
attribute [go_sem] List.length_nil List.length_cons List.nil_append List.cons_append List.getElem?_cons_zero List.getElem?_cons_succ Nat.add_zero Nat.zero_add Option.map_some Option.map_none List.set_cons_zero List.set_cons_succ List.head?_cons List.map_cons List.map_nil List.drop_zero List.drop_succ_cons List.take_succ_cons List.take_zero true_and and_true and_self
attribute [go_sem] scalEq Qn evalOp ev ofV wa put_none enterFr_zero enterFr_succ enterFr_nil wg Kb ub wo binAV intBinAV Jj eqAV eqTypeAV unAV pickAV_true pickAV_false pickAV_bool Kp Kd Yv indexAV Q4 yd Zi lenAV
 wu yp yv uu Yx Q9 ww jw uv Zn yf ku j3 km Hp.push
end Go.Proofs.YtimcdpioclioiaaGreatDoorW.Ex
