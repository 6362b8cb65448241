/- The reference's test on a tree's nodes and levels. Conditions: those of the trees that come in (Wf). -/
import Derived.Test.YtimdjillcaichaaDoorPb
namespace Go.Proofs.YtimdjillcaichaaDoorW.Ex.Gr
open Go Go.Proofs.YtimdjillcaichaaDoorW.Ex
set_option linter.all false
set_option maxRecDepth 100000
def leftS (o : Option Nat) (k : Int) : Int := match o with
  | some s => if (s : Int) ≤ k then k - s else -1
  | none => -1
theorem leftS_rng (o : Option Nat) (k : Int) : leftS o k ≤ max k (-1) ∧ -1 ≤ leftS o k := by
  unfold leftS; split
  · split <;> omega
  · omega
theorem leftS_cons (m : Node) (l : List Node) (d : Nat) (k : Int) (h0 : 0 ≤ k) : leftS (hsL? (m :: l) d) k = if leftS (hs? m d) k < 0 then -1 else leftS (hsL? l d) (leftS (hs? m d) k) := by
  rw [hsL?]
  cases ha : hs? m d with
  | none => rfl
  | some a =>
    by_cases hl : (a : Int) ≤ k
    · have e : leftS (some a) k = k - a := by simp only [leftS]; rw [if_pos hl]
      rw [e, if_neg (by omega)]
      cases hb : hsL? l d with
      | none => rfl
      | some b =>
        simp only [leftS]
        by_cases h2 : ((a + b : Nat) : Int) ≤ k
        · rw [if_pos h2, if_pos (by omega)]; omega
        · rw [if_neg h2, if_neg (by omega)]
    · have e : leftS (some a) k = -1 := by simp only [leftS]; rw [if_neg hl]
      rw [e, if_pos (by decide)]
      cases hb : hsL? l d with
      | none => rfl
      | some b => simp only [leftS]; rw [if_neg (by omega)]
theorem leftS_step (n : Node) (d : Nat) (k : Int) : leftS (hs? n (d + 1)) k = if k < 1 ∨ k < (n.kids.length : Int) then -1 else leftS (hsL? n.kids d) (k - 1) := by
  have e : hs? n (d + 1) = (hsL? n.kids d).map (· + 1) := by cases n; rfl
  rw [e]
  cases hb : hsL? n.kids d with
  | none => simp only [Option.map_none, leftS]; split <;> rfl
  | some b =>
    have h1 := hsL_size n.kids d b hb
    have h2 := sizeNL_len n.kids
    simp only [Option.map_some, leftS]
    by_cases c : ((b + 1 : Nat) : Int) ≤ k
    · rw [if_pos c, if_neg (by omega), if_pos (by omega)]; omega
    · rw [if_neg c]
      split
      · rfl
      · rw [if_neg (by omega)]
theorem left_turn (l : List Node) (d i : Nat) (k : Int) (o : Int) (hl : l.length ≤ 9223372036854775807) (hJ : i ≤ l.length ∧ 0 ≤ k ∧ k ≤ 9223372036854775807 ∧ o = leftS (hsL? (l.drop i) d) k) :
    (∃ m, l[i]? = some m ∧ m ∈ l ∧ i < l.length ∧ decide ((i : Int) < ((l.map Node.cells).length : Int)) = true ∧ IntKind.i64.wrap ((i : Int) + 1) = ((i + 1 : Nat) : Int) ∧ 0 ≤ k ∧ k ≤ 9223372036854775807 ∧
      ((decide (leftS (hs? m d) k < 0) = true ∧ o = -1) ∨ (decide (leftS (hs? m d) k < 0) = false ∧ (0 ≤ leftS (hs? m d) k ∧ leftS (hs? m d) k ≤ 9223372036854775807 ∧ o = leftS (hsL? (l.drop (i + 1)) d) (leftS (hs? m d) k))))) ∨
    (decide ((i : Int) < ((l.map Node.cells).length : Int)) = false ∧ o = k) := by
  obtain ⟨h1, h2, h3, h4⟩ := hJ
  rcases Nat.lt_or_ge i l.length with h | h
  · rw [List.drop_eq_getElem_cons h, leftS_cons _ _ _ _ h2] at h4
    have hr := leftS_rng (hs? l[i] d) k
    refine .inl ⟨l[i], List.getElem?_eq_getElem h, List.getElem_mem h, h, by simpa using h, wrap_id (by omega) (by omega), h2, h3, ?_⟩
    by_cases c : leftS (hs? l[i] d) k < 0
    · exact .inl ⟨decide_eq_true c, by rw [h4, if_pos c]⟩
    · exact .inr ⟨decide_eq_false c, by omega, by omega, by rw [h4, if_neg c]⟩
  · rw [List.drop_of_length_le h] at h4
    refine .inr ⟨by simpa using h, ?_⟩
    rw [h4]
    simp only [hsL?, leftS]
    rw [if_pos (by omega)]; omega
set_option maxHeartbeats 4000000 in
/-- R6.left -/
theorem R6_left : ∀ n : Node, Wf n → ∀ (d : Nat) (k : Int), (d : Int) ≤ 9223372036854775807 → -9223372036854775808 ≤ k → k ≤ 9223372036854775807 →
    Fn Tryd.prog G 78 [.agg (cellsN n), .int .i64 k, .int .i64 (d : Int)] (.int .i64 (leftS (hs? n d) k)) := by
  intro n hwf
  induction hwf with | mk n hk hg ht hs _ ih => ?_
  intro d k hd hk0 hk1
  by_cases c1 : k < 1
  case pos =>
    have e1 : decide (k < 1) = true := decide_eq_true c1
    have hz : leftS (hs? n d) k = -1 := by
      cases d with
      | zero => cases n; rfl
      | succ d => rw [leftS_step, if_pos (.inl c1)]
    rw [hz]
    refine Fn_run (T := tt) (N := 43) (rs := [.tmp 6]) (fun vs w => by simp) Tryd.func78 rfl rfl rfl rfl (by kernel_rfl) (all_pure rfl) (closed2_pure _ rfl) ?_
    repeat' first
      | refine Ok_run env rfl ?_
      | (refine Ok_guard_t1 ?_ ?_; (· simp only [e1, Bool.not_true, Bool.not_false]))
      | (refine Ok_guard_t0 ?_ ?_; (· simp only [e1, Bool.not_true, Bool.not_false]))
      | (refine Ok_guard_f0 ?_ ?_; (· simp only [e1, Bool.not_true, Bool.not_false]))
      | (refine Ok_guard_f1 ?_ ?_; (· simp only [e1, Bool.not_true, Bool.not_false]))
      | (refine Ok_cond_t ?_ ?_; (· simp only [e1, Bool.not_true, Bool.not_false]))
      | (refine Ok_cond_f ?_ ?_; (· simp only [e1, Bool.not_true, Bool.not_false]))
      | refine Ok_guard_t (fun h => ?_) (fun h => ?_)
      | refine Ok_guard_f (fun h => ?_) (fun h => ?_)
      | refine Ok_cond (fun h => ?_) (fun h => ?_)
      | refine Ok_fin env rfl rfl (told_eq ?_)
      | refine Ok_fin_n env rfl (told_eq ?_)
    all_goals rfl
  have e1 : decide (k < 1) = false := decide_eq_false c1
  cases d with
  | zero =>
    have e2 : decide (((0 : Nat) : Int) < 1) = true := by decide
    have hz : leftS (hs? n 0) k = -1 := by cases n; rfl
    rw [hz]
    refine Fn_run (T := tt) (N := 43) (rs := [.tmp 6]) (fun vs w => by simp) Tryd.func78 rfl rfl rfl rfl (by kernel_rfl) (all_pure rfl) (closed2_pure _ rfl) ?_
    repeat' first
      | refine Ok_run env rfl ?_
      | (refine Ok_guard_t1 ?_ ?_; (· simp only [e1, Bool.not_true, Bool.not_false]))
      | (refine Ok_guard_t0 ?_ ?_; (· simp only [e1, Bool.not_true, Bool.not_false]))
      | (refine Ok_guard_f0 ?_ ?_; (· simp only [e1, Bool.not_true, Bool.not_false]))
      | (refine Ok_guard_f1 ?_ ?_; (· simp only [e1, Bool.not_true, Bool.not_false]))
      | (refine Ok_cond_t ?_ ?_; (· simp only [e1, Bool.not_true, Bool.not_false]))
      | (refine Ok_cond_f ?_ ?_; (· simp only [e1, Bool.not_true, Bool.not_false]))
      | (refine Ok_guard_t1 ?_ ?_; (· simp only [e2, Bool.not_true, Bool.not_false]))
      | (refine Ok_guard_t0 ?_ ?_; (· simp only [e2, Bool.not_true, Bool.not_false]))
      | (refine Ok_guard_f0 ?_ ?_; (· simp only [e2, Bool.not_true, Bool.not_false]))
      | (refine Ok_guard_f1 ?_ ?_; (· simp only [e2, Bool.not_true, Bool.not_false]))
      | (refine Ok_cond_t ?_ ?_; (· simp only [e2, Bool.not_true, Bool.not_false]))
      | (refine Ok_cond_f ?_ ?_; (· simp only [e2, Bool.not_true, Bool.not_false]))
      | refine Ok_guard_t (fun h => ?_) (fun h => ?_)
      | refine Ok_guard_f (fun h => ?_) (fun h => ?_)
      | refine Ok_cond (fun h => ?_) (fun h => ?_)
      | refine Ok_fin env rfl rfl (told_eq ?_)
      | refine Ok_fin_n env rfl (told_eq ?_)
    all_goals rfl
  | succ d =>
    have e2 : decide (((d + 1 : Nat) : Int) < 1) = false := decide_eq_false (by omega)
    rw [leftS_step]
    by_cases c3 : k < (n.kids.length : Int)
    case pos =>
      have e3 : decide (k < ((n.kids.map Node.cells).length : Int)) = true := by simpa using c3
      rw [if_pos (.inr c3)]
      refine Fn_run (T := tt) (N := 43) (rs := [.tmp 6]) (fun vs w => by simp) Tryd.func78 rfl rfl rfl rfl (by kernel_rfl) (all_pure rfl) (closed2_pure _ rfl) ?_
      repeat' first
        | refine Ok_run env rfl ?_
        | (refine Ok_guard_t1 ?_ ?_; (· simp only [e1, Bool.not_true, Bool.not_false]))
        | (refine Ok_guard_t0 ?_ ?_; (· simp only [e1, Bool.not_true, Bool.not_false]))
        | (refine Ok_guard_f0 ?_ ?_; (· simp only [e1, Bool.not_true, Bool.not_false]))
        | (refine Ok_guard_f1 ?_ ?_; (· simp only [e1, Bool.not_true, Bool.not_false]))
        | (refine Ok_cond_t ?_ ?_; (· simp only [e1, Bool.not_true, Bool.not_false]))
        | (refine Ok_cond_f ?_ ?_; (· simp only [e1, Bool.not_true, Bool.not_false]))
        | (refine Ok_guard_t1 ?_ ?_; (· simp only [e2, Bool.not_true, Bool.not_false]))
        | (refine Ok_guard_t0 ?_ ?_; (· simp only [e2, Bool.not_true, Bool.not_false]))
        | (refine Ok_guard_f0 ?_ ?_; (· simp only [e2, Bool.not_true, Bool.not_false]))
        | (refine Ok_guard_f1 ?_ ?_; (· simp only [e2, Bool.not_true, Bool.not_false]))
        | (refine Ok_cond_t ?_ ?_; (· simp only [e2, Bool.not_true, Bool.not_false]))
        | (refine Ok_cond_f ?_ ?_; (· simp only [e2, Bool.not_true, Bool.not_false]))
        | (refine Ok_guard_t1 ?_ ?_; (· simp only [e3, Bool.not_true, Bool.not_false]))
        | (refine Ok_guard_t0 ?_ ?_; (· simp only [e3, Bool.not_true, Bool.not_false]))
        | (refine Ok_guard_f0 ?_ ?_; (· simp only [e3, Bool.not_true, Bool.not_false]))
        | (refine Ok_guard_f1 ?_ ?_; (· simp only [e3, Bool.not_true, Bool.not_false]))
        | (refine Ok_cond_t ?_ ?_; (· simp only [e3, Bool.not_true, Bool.not_false]))
        | (refine Ok_cond_f ?_ ?_; (· simp only [e3, Bool.not_true, Bool.not_false]))
        | refine Ok_guard_t (fun h => ?_) (fun h => ?_)
        | refine Ok_guard_f (fun h => ?_) (fun h => ?_)
        | refine Ok_cond (fun h => ?_) (fun h => ?_)
        | refine Ok_fin env rfl rfl (told_eq ?_)
        | refine Ok_fin_n env rfl (told_eq ?_)
      all_goals rfl
    have e3 : decide (k < ((n.kids.map Node.cells).length : Int)) = false := by simpa using c3
    rw [if_neg (by omega)]
    have w1 : IntKind.i64.wrap (k - 1) = k - 1 := wrap_id (by omega) (by omega)
    have w2 : IntKind.i64.wrap (((d + 1 : Nat) : Int) - 1) = (d : Int) := by rw [show ((d + 1 : Nat) : Int) - 1 = d by omega]; exact wrap_id (by omega) (by omega)
    refine Fn_run (T := tt) (N := 43) (rs := [.tmp 6]) (fun vs w => by simp) Tryd.func78 rfl rfl rfl rfl (by kernel_rfl) (all_pure rfl) (closed2_pure _ rfl) ?_
    repeat' first
      | refine Ok_run env rfl ?_
      | (refine Ok_loop (α := Nat × Int) (fun a => a.1 ≤ n.kids.length ∧ 0 ≤ a.2 ∧ a.2 ≤ 9223372036854775807 ∧ leftS (hsL? n.kids d) (k - 1) = leftS (hsL? (n.kids.drop a.1) d) a.2) (fun a => n.kids.length - a.1) (fun a => [(8, .int .i64 a.1), (7, .int .i64 a.2)]) (fun _ => []) ((0, k - 1)) (fun _ => rfl) (fun _ => rfl) (⟨Nat.zero_le _, by show 0 ≤ k - 1; omega, by show k - 1 ≤ _; omega, rfl⟩) ?_ ?_ (fun ⟨i, r⟩ hJ => ?_); (· simp only [w1]; simp [leFT, leV, leOs, leO, leC, rho, AV.ren, AV.ren1, AV.un, AV.un1, AV.closed]); (· simp [leFT, leV, leOs, leO, leC, rho, AV.ren, AV.ren1, AV.un, AV.un1, AV.closed]); rcases left_turn n.kids d i r _ hk hJ with ⟨m, hm, hmem, hlt, hb, hw, p1, p2, (⟨g1, he⟩ | ⟨g1, hn⟩)⟩ | ⟨hb, he⟩)
      | refine Ok_lret rfl ?_
      | refine Ok_lexit rfl rfl ?_
      | refine Ok_ix env rfl rfl rfl rfl rfl (kid_at hm) ?_
      | (refine Ok_back ((i + 1, leftS (hs? m d) r)) ?_ ?_ ?_ ?_; (· exact ⟨by show i + 1 ≤ n.kids.length; omega, hn⟩); (· (show n.kids.length - (i + 1) < n.kids.length - i; omega)); (· (simp only [hw]; simp [leFT, leV, leOs, leO, leC, rho, AV.ren, AV.ren1, AV.un, AV.un1, AV.closed])); (· simp [leFT, leV, leOs, leO, leC, rho, AV.ren, AV.ren1, AV.un, AV.un1, AV.closed]))
      | refine Ok_call (x := .int .i64 (leftS (hs? m d) r)) (by rw [w2]; exact ih m hmem d r (by omega) (by omega) p2) ?_
      | (refine Ok_guard_t1 ?_ ?_; (· simp only [e1, Bool.not_true, Bool.not_false]))
      | (refine Ok_guard_t0 ?_ ?_; (· simp only [e1, Bool.not_true, Bool.not_false]))
      | (refine Ok_guard_f0 ?_ ?_; (· simp only [e1, Bool.not_true, Bool.not_false]))
      | (refine Ok_guard_f1 ?_ ?_; (· simp only [e1, Bool.not_true, Bool.not_false]))
      | (refine Ok_cond_t ?_ ?_; (· simp only [e1, Bool.not_true, Bool.not_false]))
      | (refine Ok_cond_f ?_ ?_; (· simp only [e1, Bool.not_true, Bool.not_false]))
      | (refine Ok_guard_t1 ?_ ?_; (· simp only [e2, Bool.not_true, Bool.not_false]))
      | (refine Ok_guard_t0 ?_ ?_; (· simp only [e2, Bool.not_true, Bool.not_false]))
      | (refine Ok_guard_f0 ?_ ?_; (· simp only [e2, Bool.not_true, Bool.not_false]))
      | (refine Ok_guard_f1 ?_ ?_; (· simp only [e2, Bool.not_true, Bool.not_false]))
      | (refine Ok_cond_t ?_ ?_; (· simp only [e2, Bool.not_true, Bool.not_false]))
      | (refine Ok_cond_f ?_ ?_; (· simp only [e2, Bool.not_true, Bool.not_false]))
      | (refine Ok_guard_t1 ?_ ?_; (· simp only [e3, Bool.not_true, Bool.not_false]))
      | (refine Ok_guard_t0 ?_ ?_; (· simp only [e3, Bool.not_true, Bool.not_false]))
      | (refine Ok_guard_f0 ?_ ?_; (· simp only [e3, Bool.not_true, Bool.not_false]))
      | (refine Ok_guard_f1 ?_ ?_; (· simp only [e3, Bool.not_true, Bool.not_false]))
      | (refine Ok_cond_t ?_ ?_; (· simp only [e3, Bool.not_true, Bool.not_false]))
      | (refine Ok_cond_f ?_ ?_; (· simp only [e3, Bool.not_true, Bool.not_false]))
      | (refine Ok_guard_t1 ?_ ?_; (· simp only [hb, Bool.not_true, Bool.not_false]))
      | (refine Ok_guard_t0 ?_ ?_; (· simp only [hb, Bool.not_true, Bool.not_false]))
      | (refine Ok_guard_f0 ?_ ?_; (· simp only [hb, Bool.not_true, Bool.not_false]))
      | (refine Ok_guard_f1 ?_ ?_; (· simp only [hb, Bool.not_true, Bool.not_false]))
      | (refine Ok_cond_t ?_ ?_; (· simp only [hb, Bool.not_true, Bool.not_false]))
      | (refine Ok_cond_f ?_ ?_; (· simp only [hb, Bool.not_true, Bool.not_false]))
      | (refine Ok_guard_t1 ?_ ?_; (· simp only [g1, Bool.not_true, Bool.not_false]))
      | (refine Ok_guard_t0 ?_ ?_; (· simp only [g1, Bool.not_true, Bool.not_false]))
      | (refine Ok_guard_f0 ?_ ?_; (· simp only [g1, Bool.not_true, Bool.not_false]))
      | (refine Ok_guard_f1 ?_ ?_; (· simp only [g1, Bool.not_true, Bool.not_false]))
      | (refine Ok_cond_t ?_ ?_; (· simp only [g1, Bool.not_true, Bool.not_false]))
      | (refine Ok_cond_f ?_ ?_; (· simp only [g1, Bool.not_true, Bool.not_false]))
      | refine Ok_guard_t (fun h => ?_) (fun h => ?_)
      | refine Ok_guard_f (fun h => ?_) (fun h => ?_)
      | refine Ok_cond (fun h => ?_) (fun h => ?_)
      | refine Ok_fin env rfl rfl (told_eq ?_)
      | refine Ok_fin_n env rfl (told_eq ?_)
    all_goals refine int_eq ?_
    all_goals (first | exact he | exact he.symm | rw [he])
end Go.Proofs.YtimdjillcaichaaDoorW.Ex.Gr
