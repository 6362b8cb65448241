/- The reference's limits on trees, and its equality of lists of strings. Conditions: those of the trees that come in (Wf). -/
import Derived.Test.YtimdjillcaichaaDoorPd
namespace Go.Proofs.YtimdjillcaichaaDoorW.Ex.Gr
open Go Go.Proofs.YtimdjillcaichaaDoorW.Ex
set_option linter.all false
set_option maxRecDepth 100000
set_option maxHeartbeats 4000000 in
/-- R6.Fits -/
theorem R6_Fits (n : Node) (hwf : Wf n) (d : Nat) (k : Int) (hd : (d : Int) ≤ 9223372036854775807) (h0 : -9223372036854775808 ≤ k) (h1 : k ≤ 9223372036854775807) : Fn Tryd.prog G 49 [.agg (cellsN n), .int .i64 k, .int .i64 (d : Int)] (.bool (decide (0 ≤ leftS (hs? n d) k))) := by
  refine Fn_run (T := tt) (N := 12) (rs := [.tmp 6]) (fun vs w => by simp) Tryd.func49 rfl rfl rfl rfl (by kernel_rfl) (all_pure rfl) (closed2_pure _ rfl) ?_
  repeat' first
    | refine Ok_run env rfl ?_
    | refine Ok_call (R6_left n hwf d k hd h0 h1) ?_
    | refine Ok_guard_t (fun h => ?_) (fun h => ?_)
    | refine Ok_guard_f (fun h => ?_) (fun h => ?_)
    | refine Ok_cond (fun h => ?_) (fun h => ?_)
    | refine Ok_fin env rfl rfl (told_eq ?_)
    | refine Ok_fin_n env rfl (told_eq ?_)
  all_goals rfl
set_option maxHeartbeats 4000000 in
/-- small -/
theorem L10_small (n : Node) (hwf : Wf n) : Fn Tryd.prog G 16 [.agg (cellsN n)] (.bool (decide (0 ≤ leftS (hs? n 60) 300))) := by
  have hc : Fn Tryd.prog G 49 [.agg (cellsN n), .int .i64 300, .int .i64 60] (.bool (decide (0 ≤ leftS (hs? n 60) 300))) := R6_Fits n hwf 60 300 (by decide) (by decide) (by decide)
  refine Fn_run (T := tt) (N := 5) (rs := [.tmp 2]) (fun vs w => by simp) Tryd.func16 rfl rfl rfl rfl (by kernel_rfl) (all_pure rfl) (closed2_pure _ rfl) ?_
  repeat' first
    | refine Ok_run env rfl ?_
    | refine Ok_call (hc) ?_
    | refine Ok_guard_t (fun h => ?_) (fun h => ?_)
    | refine Ok_guard_f (fun h => ?_) (fun h => ?_)
    | refine Ok_cond (fun h => ?_) (fun h => ?_)
    | refine Ok_fin env rfl rfl (told_eq ?_)
    | refine Ok_fin_n env rfl (told_eq ?_)
  all_goals rfl
theorem small_of {n : Node} (h : decide (0 ≤ leftS (hs? n 60) 300) = true) : sizeN n ≤ 300 := by
  have h := of_decide_eq_true h
  unfold leftS at h
  split at h
  · rename_i s hs
    have := hs_size n 60 s hs
    split at h
    · omega
    · omega
  · omega
theorem Strings_at {l : List ByteArray} {i : Nat} {x : ByteArray} (h : l[i]? = some x) : (l.map sc)[i]? = some [.str x] := by rw [List.getElem?_map, h]; rfl
theorem Strings_turn (a b : List ByteArray) (i : Nat) (ha : a.length ≤ 9223372036854775807) (hab : a.length = b.length) (hJ : i ≤ a.length ∧ decide (a = b) = decide (a.drop i = b.drop i)) :
    (∃ x y, a[i]? = some x ∧ b[i]? = some y ∧ i < a.length ∧ decide ((i : Int) < ((a.map sc).length : Int)) = true ∧ IntKind.i64.wrap ((i : Int) + 1) = ((i + 1 : Nat) : Int) ∧
      ((decide (x = y) = true ∧ decide (a = b) = decide (a.drop (i + 1) = b.drop (i + 1))) ∨ (decide (x = y) = false ∧ decide (a = b) = false))) ∨
    (decide ((i : Int) < ((a.map sc).length : Int)) = false ∧ decide (a = b) = true) := by
  obtain ⟨h1, h2⟩ := hJ
  rcases Nat.lt_or_ge i a.length with h | h
  · have hb : i < b.length := by omega
    refine .inl ⟨a[i], b[i], List.getElem?_eq_getElem h, List.getElem?_eq_getElem hb, h, by simpa using h, wrap_id (by omega) (by omega), ?_⟩
    rw [List.drop_eq_getElem_cons h, List.drop_eq_getElem_cons hb] at h2
    by_cases e : a[i] = b[i]
    · refine .inl ⟨decide_eq_true e, ?_⟩
      rw [h2, e]
      exact decide_eq_decide.2 ⟨fun h => (List.cons.inj h).2, fun h => by rw [h]⟩
    · refine .inr ⟨decide_eq_false e, ?_⟩
      rw [h2]
      exact decide_eq_false (fun h => e (List.cons.inj h).1)
  · refine .inr ⟨by simpa using h, ?_⟩
    rw [h2, List.drop_of_length_le h, List.drop_of_length_le (by omega)]
    exact decide_eq_true rfl
set_option maxHeartbeats 4000000 in
/-- R3_Strings -/
theorem R3_Strings (a b : List ByteArray) (ha : a.length ≤ 9223372036854775807) : Fn Tryd.prog G 56 [.sl 1 false (a.map sc), .sl 1 false (b.map sc)] (.bool (decide (a = b))) := by
  by_cases hab : a.length = b.length
  case neg =>
    have l0 : decide (((a.map sc).length : Int) = ((b.map sc).length : Int)) = false := by simp; omega
    have he : decide (a = b) = false := decide_eq_false (fun e => hab (by rw [e]))
    rw [he]
    refine Fn_run (T := tt) (N := 26) (rs := [.tmp 4]) (fun vs w => by simp) Tryd.func56 rfl rfl rfl rfl (by kernel_rfl) (all_pure rfl) (closed2_pure _ rfl) ?_
    repeat' first
      | refine Ok_run env rfl ?_
      | (refine Ok_guard_t1 ?_ ?_; (· simp only [l0, Bool.not_true, Bool.not_false]))
      | (refine Ok_guard_t0 ?_ ?_; (· simp only [l0, Bool.not_true, Bool.not_false]))
      | (refine Ok_guard_f0 ?_ ?_; (· simp only [l0, Bool.not_true, Bool.not_false]))
      | (refine Ok_guard_f1 ?_ ?_; (· simp only [l0, Bool.not_true, Bool.not_false]))
      | (refine Ok_cond_t ?_ ?_; (· simp only [l0, Bool.not_true, Bool.not_false]))
      | (refine Ok_cond_f ?_ ?_; (· simp only [l0, Bool.not_true, Bool.not_false]))
      | refine Ok_guard_t (fun h => ?_) (fun h => ?_)
      | refine Ok_guard_f (fun h => ?_) (fun h => ?_)
      | refine Ok_cond (fun h => ?_) (fun h => ?_)
      | refine Ok_fin env rfl rfl (told_eq ?_)
      | refine Ok_fin_n env rfl (told_eq ?_)
    all_goals rfl
  have l0 : decide (((a.map sc).length : Int) = ((b.map sc).length : Int)) = true := by simp; omega
  refine Fn_run (T := tt) (N := 26) (rs := [.tmp 4]) (fun vs w => by simp) Tryd.func56 rfl rfl rfl rfl (by kernel_rfl) (all_pure rfl) (closed2_pure _ rfl) ?_
  repeat' first
    | refine Ok_run env rfl ?_
    | (refine Ok_loop (α := Nat) (fun i => i ≤ a.length ∧ decide (a = b) = decide (a.drop i = b.drop i)) (fun i => a.length - i) (fun i => [(5, .int .i64 i)]) (fun _ => []) (0) (fun _ => rfl) (fun _ => rfl) (⟨Nat.zero_le _, rfl⟩) ?_ ?_ (fun i hJ => ?_); (· simp [leFT, leV, leOs, leO, leC, rho, AV.ren, AV.ren1, AV.un, AV.un1, AV.closed]); (· simp [leFT, leV, leOs, leO, leC, rho, AV.ren, AV.ren1, AV.un, AV.un1, AV.closed]); rcases Strings_turn a b i ha hab hJ with ⟨x, y, hx, hy, hlt, hb, hw, (⟨g, he⟩ | ⟨g, he⟩)⟩ | ⟨hb, he⟩)
    | refine Ok_lret rfl ?_
    | refine Ok_lexit rfl rfl ?_
    | refine Ok_ix env rfl rfl rfl rfl rfl (Strings_at hx) ?_
    | refine Ok_ix env rfl rfl rfl rfl rfl (Strings_at hy) ?_
    | (refine Ok_back (i + 1) ?_ ?_ ?_ ?_; (· exact ⟨by omega, he⟩); (· omega); (· (simp only [hw]; simp [leFT, leV, leOs, leO, leC, rho, AV.ren, AV.ren1, AV.un, AV.un1, AV.closed])); (· simp [leFT, leV, leOs, leO, leC, rho, AV.ren, AV.ren1, AV.un, AV.un1, AV.closed]))
    | (refine Ok_guard_t1 ?_ ?_; (· simp only [l0, Bool.not_true, Bool.not_false]))
    | (refine Ok_guard_t0 ?_ ?_; (· simp only [l0, Bool.not_true, Bool.not_false]))
    | (refine Ok_guard_f0 ?_ ?_; (· simp only [l0, Bool.not_true, Bool.not_false]))
    | (refine Ok_guard_f1 ?_ ?_; (· simp only [l0, Bool.not_true, Bool.not_false]))
    | (refine Ok_cond_t ?_ ?_; (· simp only [l0, Bool.not_true, Bool.not_false]))
    | (refine Ok_cond_f ?_ ?_; (· simp only [l0, Bool.not_true, Bool.not_false]))
    | (refine Ok_guard_t1 ?_ ?_; (· simp only [hb, Bool.not_true, Bool.not_false]))
    | (refine Ok_guard_t0 ?_ ?_; (· simp only [hb, Bool.not_true, Bool.not_false]))
    | (refine Ok_guard_f0 ?_ ?_; (· simp only [hb, Bool.not_true, Bool.not_false]))
    | (refine Ok_guard_f1 ?_ ?_; (· simp only [hb, Bool.not_true, Bool.not_false]))
    | (refine Ok_cond_t ?_ ?_; (· simp only [hb, Bool.not_true, Bool.not_false]))
    | (refine Ok_cond_f ?_ ?_; (· simp only [hb, Bool.not_true, Bool.not_false]))
    | (refine Ok_guard_t1 ?_ ?_; (· simp only [g, Bool.not_true, Bool.not_false]))
    | (refine Ok_guard_t0 ?_ ?_; (· simp only [g, Bool.not_true, Bool.not_false]))
    | (refine Ok_guard_f0 ?_ ?_; (· simp only [g, Bool.not_true, Bool.not_false]))
    | (refine Ok_guard_f1 ?_ ?_; (· simp only [g, Bool.not_true, Bool.not_false]))
    | (refine Ok_cond_t ?_ ?_; (· simp only [g, Bool.not_true, Bool.not_false]))
    | (refine Ok_cond_f ?_ ?_; (· simp only [g, Bool.not_true, Bool.not_false]))
    | refine Ok_guard_t (fun h => ?_) (fun h => ?_)
    | refine Ok_guard_f (fun h => ?_) (fun h => ?_)
    | refine Ok_cond (fun h => ?_) (fun h => ?_)
    | refine Ok_fin env rfl rfl (told_eq ?_)
    | refine Ok_fin_n env rfl (told_eq ?_)
  all_goals (rw [he])
theorem Ints_at {l : List Int} {i : Nat} {x : Int} (h : l[i]? = some x) : (l.map ic)[i]? = some [.int .i64 x] := by rw [List.getElem?_map, h]; rfl
theorem Ints_turn (a b : List Int) (i : Nat) (ha : a.length ≤ 9223372036854775807) (hab : a.length = b.length) (hJ : i ≤ a.length ∧ decide (a = b) = decide (a.drop i = b.drop i)) :
    (∃ x y, a[i]? = some x ∧ b[i]? = some y ∧ i < a.length ∧ decide ((i : Int) < ((a.map ic).length : Int)) = true ∧ IntKind.i64.wrap ((i : Int) + 1) = ((i + 1 : Nat) : Int) ∧
      ((decide (x = y) = true ∧ decide (a = b) = decide (a.drop (i + 1) = b.drop (i + 1))) ∨ (decide (x = y) = false ∧ decide (a = b) = false))) ∨
    (decide ((i : Int) < ((a.map ic).length : Int)) = false ∧ decide (a = b) = true) := by
  obtain ⟨h1, h2⟩ := hJ
  rcases Nat.lt_or_ge i a.length with h | h
  · have hb : i < b.length := by omega
    refine .inl ⟨a[i], b[i], List.getElem?_eq_getElem h, List.getElem?_eq_getElem hb, h, by simpa using h, wrap_id (by omega) (by omega), ?_⟩
    rw [List.drop_eq_getElem_cons h, List.drop_eq_getElem_cons hb] at h2
    by_cases e : a[i] = b[i]
    · refine .inl ⟨decide_eq_true e, ?_⟩
      rw [h2, e]
      exact decide_eq_decide.2 ⟨fun h => (List.cons.inj h).2, fun h => by rw [h]⟩
    · refine .inr ⟨decide_eq_false e, ?_⟩
      rw [h2]
      exact decide_eq_false (fun h => e (List.cons.inj h).1)
  · refine .inr ⟨by simpa using h, ?_⟩
    rw [h2, List.drop_of_length_le h, List.drop_of_length_le (by omega)]
    exact decide_eq_true rfl
set_option maxHeartbeats 4000000 in
/-- R3_Ints -/
theorem R3_Ints (a b : List Int) (ha : a.length ≤ 9223372036854775807) : Fn Tryd.prog G 24 [.sl 1 false (a.map ic), .sl 1 false (b.map ic)] (.bool (decide (a = b))) := by
  by_cases hab : a.length = b.length
  case neg =>
    have l0 : decide (((a.map ic).length : Int) = ((b.map ic).length : Int)) = false := by simp; omega
    have he : decide (a = b) = false := decide_eq_false (fun e => hab (by rw [e]))
    rw [he]
    refine Fn_run (T := tt) (N := 26) (rs := [.tmp 4]) (fun vs w => by simp) Tryd.func24 rfl rfl rfl rfl (by kernel_rfl) (all_pure rfl) (closed2_pure _ rfl) ?_
    repeat' first
      | refine Ok_run env rfl ?_
      | (refine Ok_guard_t1 ?_ ?_; (· simp only [l0, Bool.not_true, Bool.not_false]))
      | (refine Ok_guard_t0 ?_ ?_; (· simp only [l0, Bool.not_true, Bool.not_false]))
      | (refine Ok_guard_f0 ?_ ?_; (· simp only [l0, Bool.not_true, Bool.not_false]))
      | (refine Ok_guard_f1 ?_ ?_; (· simp only [l0, Bool.not_true, Bool.not_false]))
      | (refine Ok_cond_t ?_ ?_; (· simp only [l0, Bool.not_true, Bool.not_false]))
      | (refine Ok_cond_f ?_ ?_; (· simp only [l0, Bool.not_true, Bool.not_false]))
      | refine Ok_guard_t (fun h => ?_) (fun h => ?_)
      | refine Ok_guard_f (fun h => ?_) (fun h => ?_)
      | refine Ok_cond (fun h => ?_) (fun h => ?_)
      | refine Ok_fin env rfl rfl (told_eq ?_)
      | refine Ok_fin_n env rfl (told_eq ?_)
    all_goals rfl
  have l0 : decide (((a.map ic).length : Int) = ((b.map ic).length : Int)) = true := by simp; omega
  refine Fn_run (T := tt) (N := 26) (rs := [.tmp 4]) (fun vs w => by simp) Tryd.func24 rfl rfl rfl rfl (by kernel_rfl) (all_pure rfl) (closed2_pure _ rfl) ?_
  repeat' first
    | refine Ok_run env rfl ?_
    | (refine Ok_loop (α := Nat) (fun i => i ≤ a.length ∧ decide (a = b) = decide (a.drop i = b.drop i)) (fun i => a.length - i) (fun i => [(5, .int .i64 i)]) (fun _ => []) (0) (fun _ => rfl) (fun _ => rfl) (⟨Nat.zero_le _, rfl⟩) ?_ ?_ (fun i hJ => ?_); (· simp [leFT, leV, leOs, leO, leC, rho, AV.ren, AV.ren1, AV.un, AV.un1, AV.closed]); (· simp [leFT, leV, leOs, leO, leC, rho, AV.ren, AV.ren1, AV.un, AV.un1, AV.closed]); rcases Ints_turn a b i ha hab hJ with ⟨x, y, hx, hy, hlt, hb, hw, (⟨g, he⟩ | ⟨g, he⟩)⟩ | ⟨hb, he⟩)
    | refine Ok_lret rfl ?_
    | refine Ok_lexit rfl rfl ?_
    | refine Ok_ix env rfl rfl rfl rfl rfl (Ints_at hx) ?_
    | refine Ok_ix env rfl rfl rfl rfl rfl (Ints_at hy) ?_
    | (refine Ok_back (i + 1) ?_ ?_ ?_ ?_; (· exact ⟨by omega, he⟩); (· omega); (· (simp only [hw]; simp [leFT, leV, leOs, leO, leC, rho, AV.ren, AV.ren1, AV.un, AV.un1, AV.closed])); (· simp [leFT, leV, leOs, leO, leC, rho, AV.ren, AV.ren1, AV.un, AV.un1, AV.closed]))
    | (refine Ok_guard_t1 ?_ ?_; (· simp only [l0, Bool.not_true, Bool.not_false]))
    | (refine Ok_guard_t0 ?_ ?_; (· simp only [l0, Bool.not_true, Bool.not_false]))
    | (refine Ok_guard_f0 ?_ ?_; (· simp only [l0, Bool.not_true, Bool.not_false]))
    | (refine Ok_guard_f1 ?_ ?_; (· simp only [l0, Bool.not_true, Bool.not_false]))
    | (refine Ok_cond_t ?_ ?_; (· simp only [l0, Bool.not_true, Bool.not_false]))
    | (refine Ok_cond_f ?_ ?_; (· simp only [l0, Bool.not_true, Bool.not_false]))
    | (refine Ok_guard_t1 ?_ ?_; (· simp only [hb, Bool.not_true, Bool.not_false]))
    | (refine Ok_guard_t0 ?_ ?_; (· simp only [hb, Bool.not_true, Bool.not_false]))
    | (refine Ok_guard_f0 ?_ ?_; (· simp only [hb, Bool.not_true, Bool.not_false]))
    | (refine Ok_guard_f1 ?_ ?_; (· simp only [hb, Bool.not_true, Bool.not_false]))
    | (refine Ok_cond_t ?_ ?_; (· simp only [hb, Bool.not_true, Bool.not_false]))
    | (refine Ok_cond_f ?_ ?_; (· simp only [hb, Bool.not_true, Bool.not_false]))
    | (refine Ok_guard_t1 ?_ ?_; (· simp only [g, Bool.not_true, Bool.not_false]))
    | (refine Ok_guard_t0 ?_ ?_; (· simp only [g, Bool.not_true, Bool.not_false]))
    | (refine Ok_guard_f0 ?_ ?_; (· simp only [g, Bool.not_true, Bool.not_false]))
    | (refine Ok_guard_f1 ?_ ?_; (· simp only [g, Bool.not_true, Bool.not_false]))
    | (refine Ok_cond_t ?_ ?_; (· simp only [g, Bool.not_true, Bool.not_false]))
    | (refine Ok_cond_f ?_ ?_; (· simp only [g, Bool.not_true, Bool.not_false]))
    | refine Ok_guard_t (fun h => ?_) (fun h => ?_)
    | refine Ok_guard_f (fun h => ?_) (fun h => ?_)
    | refine Ok_cond (fun h => ?_) (fun h => ?_)
    | refine Ok_fin env rfl rfl (told_eq ?_)
    | refine Ok_fin_n env rfl (told_eq ?_)
  all_goals (rw [he])
end Go.Proofs.YtimdjillcaichaaDoorW.Ex.Gr
