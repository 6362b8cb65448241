/- The statements about the free text and about parentheses return true. Conditions: those of the trees that come in (Wf). -/
import Derived.Test.YtihlipmnhgnpoaaDoorGn
import Derived.KernelRfl
namespace Go.Proofs.YtihlipmnhgnpoaaDoorW.Ex.Gr
open Go Go.Proofs.YtihlipmnhgnpoaaDoorW.Ex
set_option linter.all false
set_option maxRecDepth 100000
def rowX (i : Nat) : List AV := List.replicate i (.str ⟨#[120]⟩)
theorem rowX_one : List.flatten [[AV.str ⟨#[120]⟩]] = rowX 1 := rfl
theorem rowX_step (i : Nat) : rowX i ++ List.flatten [[AV.str ⟨#[120]⟩]] = rowX (i + 1) := by simp [rowX, List.replicate_succ']
theorem rowX_len (i : Nat) : (rowX i).length = i * 1 := by simp [rowX]
theorem rowX_closed (i : Nat) : ∀ x ∈ rowX i, x.closed = true := by
  intro x hx
  rw [List.eq_of_mem_replicate hx]; rfl
theorem rowX_view {objs : Objs} {id s : Nat} {e : TypeId} (k : Nat) (h : objs[id]? = some (s, .row e (rowX k))) : view1 objs (.bs 1 id s 0 k) (.sl 1 false ((xs k).map sc)) := by
  refine ⟨rfl, rfl, e, _, h, by simp [xs], ?_, ?_, ?_⟩
  · intro c hc
    obtain ⟨m, _, rfl⟩ := List.mem_map.1 hc
    rfl
  · rw [List.drop_zero, List.take_of_length_le (by rw [rowX_len]; exact Nat.le_refl _)]
    simp only [rowX, xs, List.map_replicate, sc]
    clear h
    induction k with
    | zero => rfl
    | succ k ih => rw [List.replicate_succ, List.replicate_succ, List.flatten_cons, ← ih]; rfl
  · intro c hc z hz
    obtain ⟨m, _, rfl⟩ := List.mem_map.1 hc
    simp only [sc, List.mem_singleton] at hz
    subst hz
    exact ⟨rfl, rfl⟩
theorem xs_turn (n : Node) (hc : checkErr n = 0) (hl : n.kids.length ≤ 200) (i : Nat) (hJ : 1 ≤ i ∧ (i : Int) ≤ own n) :
    (decide ((i : Int) < own n) = true ∧ IntKind.i64.wrap ((i : Int) + 1) = ((i + 1 : Nat) : Int) ∧ ((i + 1 : Nat) : Int) ≤ own n ∧ i ≤ 300 ∧ (i : Int) < own n) ∨ (decide ((i : Int) < own n) = false ∧ decide (checkErr (barG n (xs i)) = 7) = true ∧ i ≤ 300) := by
  have hr := own_rng n hl
  rcases Int.lt_or_le (i : Int) (own n) with h | h
  · exact .inl ⟨decide_eq_true h, wrap_id (by omega) (by omega), by omega, by omega, h⟩
  · exact .inr ⟨decide_eq_false (by omega), decide_eq_true (xs_check n hc i (by omega)), by omega⟩
theorem bareC_wk2 (n : Node) : wkLs [.agg (bareC n)] [.agg (cellsN (bareN n))] := by
  rw [bare_eq]
  simp [wkLs, wk, wkL, wk1, bareC, cellsN, Node.kind, Node.text, Node.gaps, Node.kids]
set_option maxHeartbeats 8000000 in
/-- GrammarBares -/
theorem L7_GrammarBares (n : Node) (hwf : Wf n) : Fn Tryd.prog G 7 [.agg (cellsN n)] (.bool true) := by
  have hsub : n.kids.length ≤ 9223372036854775807 := by cases hwf; assumption
  by_cases hc : checkErr n = 0
  case neg =>
    have e : decide (checkErr n = 0) = false := decide_eq_false hc
    refine Fn_run (T := tt) (N := 45) (rs := [.tmp 2]) (fun vs w => by simp) Tryd.func7 rfl rfl rfl rfl (by kernel_rfl) (all_pure rfl) (closed2_pure _ rfl) ?_
    repeat' first
      | refine Ok_run env rfl ?_
      | (refine Ok_guard_t1 ?_ ?_; (· simp only [e, Bool.not_true, Bool.not_false]))
      | (refine Ok_guard_t0 ?_ ?_; (· simp only [e, Bool.not_true, Bool.not_false]))
      | (refine Ok_guard_f0 ?_ ?_; (· simp only [e, Bool.not_true, Bool.not_false]))
      | (refine Ok_guard_f1 ?_ ?_; (· simp only [e, Bool.not_true, Bool.not_false]))
      | (refine Ok_cond_t ?_ ?_; (· simp only [e, Bool.not_true, Bool.not_false]))
      | (refine Ok_cond_f ?_ ?_; (· simp only [e, Bool.not_true, Bool.not_false]))
      | refine Ok_call (grammar_Check n hwf) ?_
      | refine Ok_call (L7_bare n hwf 60 s h1 h2) ?_
      | refine Ok_call ((grammar_Check (bareN n) (wf_bare n hwf)).wk (bareC_wk2 n)) ?_
      | refine Ok_call (grammar_Own n hsub) ?_
      | refine Ok_call (L7_awake) ?_
      | refine Ok_guard_t (fun h => ?_) (fun h => ?_)
      | refine Ok_guard_f (fun h => ?_) (fun h => ?_)
      | refine Ok_cond (fun h => ?_) (fun h => ?_)
      | refine Ok_fin env rfl rfl (told_eq ?_)
      | refine Ok_fin_n env rfl (told_eq ?_)
    all_goals rfl
  have e : decide (checkErr n = 0) = true := decide_eq_true hc
  obtain ⟨hlen, _, _⟩ := parts n hc
  obtain ⟨s, h1, h2, _⟩ := check_ok hc
  have a1 : decide (4000 < (s : Int)) = false := decide_eq_false (by omega)
  have a2 : decide (checkErr (bareN n) = 0) = true := decide_eq_true (bare_check n hc)
  have hr := own_rng n hlen
  by_cases ho : own n = 0
  case pos =>
    have b1 : decide (0 < own n) = false := decide_eq_false (by omega)
    have b2 : decide (own n = 0) = true := decide_eq_true ho
    refine Fn_run (T := tt) (N := 45) (rs := [.tmp 2]) (fun vs w => by simp) Tryd.func7 rfl rfl rfl rfl (by kernel_rfl) (all_pure rfl) (closed2_pure _ rfl) ?_
    repeat' first
      | refine Ok_run env rfl ?_
      | refine Ok_loop1 (α := Nat) (fun i => False) (fun i => 0) (fun i => [(6, .int .i64 i), (11, .undef), (13, .undef)]) (3) (fun i => [(0, .var 25 (cellsN n)), (1, .var 25 [.int .i64 n.kind, .str n.text, .bs 1 2 2 0 i, .sl 4 false ((n.kids.map bareN).map Node.cells)]), (2, .row 9 (rowX i))]) (fun _ => rfl) ?_ (fun i hJ => ?_)
      | exact hJ.elim
      | refine Ok_lret1 rfl ?_
      | refine Ok_lexit1 rfl rfl ?_
      | (refine Ok_guard_t1 ?_ ?_; (· simp only [e, Bool.not_true, Bool.not_false]))
      | (refine Ok_guard_t0 ?_ ?_; (· simp only [e, Bool.not_true, Bool.not_false]))
      | (refine Ok_guard_f0 ?_ ?_; (· simp only [e, Bool.not_true, Bool.not_false]))
      | (refine Ok_guard_f1 ?_ ?_; (· simp only [e, Bool.not_true, Bool.not_false]))
      | (refine Ok_cond_t ?_ ?_; (· simp only [e, Bool.not_true, Bool.not_false]))
      | (refine Ok_cond_f ?_ ?_; (· simp only [e, Bool.not_true, Bool.not_false]))
      | (refine Ok_guard_t1 ?_ ?_; (· simp only [a1, Bool.not_true, Bool.not_false]))
      | (refine Ok_guard_t0 ?_ ?_; (· simp only [a1, Bool.not_true, Bool.not_false]))
      | (refine Ok_guard_f0 ?_ ?_; (· simp only [a1, Bool.not_true, Bool.not_false]))
      | (refine Ok_guard_f1 ?_ ?_; (· simp only [a1, Bool.not_true, Bool.not_false]))
      | (refine Ok_cond_t ?_ ?_; (· simp only [a1, Bool.not_true, Bool.not_false]))
      | (refine Ok_cond_f ?_ ?_; (· simp only [a1, Bool.not_true, Bool.not_false]))
      | (refine Ok_guard_t1 ?_ ?_; (· simp only [a2, Bool.not_true, Bool.not_false]))
      | (refine Ok_guard_t0 ?_ ?_; (· simp only [a2, Bool.not_true, Bool.not_false]))
      | (refine Ok_guard_f0 ?_ ?_; (· simp only [a2, Bool.not_true, Bool.not_false]))
      | (refine Ok_guard_f1 ?_ ?_; (· simp only [a2, Bool.not_true, Bool.not_false]))
      | (refine Ok_cond_t ?_ ?_; (· simp only [a2, Bool.not_true, Bool.not_false]))
      | (refine Ok_cond_f ?_ ?_; (· simp only [a2, Bool.not_true, Bool.not_false]))
      | (refine Ok_guard_t1 ?_ ?_; (· simp only [b1, Bool.not_true, Bool.not_false]))
      | (refine Ok_guard_t0 ?_ ?_; (· simp only [b1, Bool.not_true, Bool.not_false]))
      | (refine Ok_guard_f0 ?_ ?_; (· simp only [b1, Bool.not_true, Bool.not_false]))
      | (refine Ok_guard_f1 ?_ ?_; (· simp only [b1, Bool.not_true, Bool.not_false]))
      | (refine Ok_cond_t ?_ ?_; (· simp only [b1, Bool.not_true, Bool.not_false]))
      | (refine Ok_cond_f ?_ ?_; (· simp only [b1, Bool.not_true, Bool.not_false]))
      | (refine Ok_guard_t1 ?_ ?_; (· simp only [b2, Bool.not_true, Bool.not_false]))
      | (refine Ok_guard_t0 ?_ ?_; (· simp only [b2, Bool.not_true, Bool.not_false]))
      | (refine Ok_guard_f0 ?_ ?_; (· simp only [b2, Bool.not_true, Bool.not_false]))
      | (refine Ok_guard_f1 ?_ ?_; (· simp only [b2, Bool.not_true, Bool.not_false]))
      | (refine Ok_cond_t ?_ ?_; (· simp only [b2, Bool.not_true, Bool.not_false]))
      | (refine Ok_cond_f ?_ ?_; (· simp only [b2, Bool.not_true, Bool.not_false]))
      | refine Ok_call (grammar_Check n hwf) ?_
      | refine Ok_call (L7_bare n hwf 60 s h1 h2) ?_
      | refine Ok_call ((grammar_Check (bareN n) (wf_bare n hwf)).wk (bareC_wk2 n)) ?_
      | refine Ok_call (grammar_Own n hsub) ?_
      | refine Ok_call (L7_awake) ?_
      | refine Ok_guard_t (fun h => ?_) (fun h => ?_)
      | refine Ok_guard_f (fun h => ?_) (fun h => ?_)
      | refine Ok_cond (fun h => ?_) (fun h => ?_)
      | refine Ok_fin env rfl rfl (told_eq ?_)
      | refine Ok_fin_n env rfl (told_eq ?_)
    all_goals rfl
  have b1 : decide (0 < own n) = true := decide_eq_true (by omega)
  have b2 : decide (own n = 0) = false := decide_eq_false ho
  have b3 : (1 : Int) ≤ own n := by omega
  have hw0 : IntKind.i64.wrap (0 + 1) = ((1 : Nat) : Int) := by decide
  refine Fn_run (T := tt) (N := 45) (rs := [.tmp 2]) (fun vs w => by simp) Tryd.func7 rfl rfl rfl rfl (by kernel_rfl) (all_pure rfl) (closed2_pure _ rfl) ?_
  repeat' first
    | refine Ok_run env rfl ?_
    | refine Ok_loop1 (α := Nat) (fun i => 1 ≤ i ∧ (i : Int) ≤ own n) (fun i => (own n - i).toNat) (fun i => [(6, .int .i64 i), (11, .undef), (13, .undef)]) (3) (fun i => [(0, .var 25 (cellsN n)), (1, .var 25 [.int .i64 n.kind, .str n.text, .bs 1 2 2 0 i, .sl 4 false ((n.kids.map bareN).map Node.cells)]), (2, .row 9 (rowX i))]) (fun _ => rfl) ?_ (fun i hJ => ?_)
    | ((rcases xs_turn n hc hlen i hJ with ⟨hb, hw, hn, hi3, hlt⟩ | ⟨hb, hx, hi3⟩) <;> clear hJ)
    | refine Ok_lret1 rfl ?_
    | refine Ok_lret rfl ?_
    | refine Ok_lexit rfl rfl ?_
    | (refine Ok_append_new (by_ := 16) env rfl rfl rfl rfl rfl rfl rfl rfl (by decide) rfl rfl (by simp) (by simp) (by simp) ?_)
    | (refine Ok_append_bs (by_ := 16) env rfl rfl rfl rfl rfl rfl rfl (by decide) rfl rfl rfl ?_ ?_ ?_ ?_; (· exact rowX_len _); (· simp only [List.length_cons, List.length_nil]; omega); (· simp only [List.length_cons, List.length_nil]; omega))
    | (refine Ok_peek (grammar_Check (barG n (xs i)) (wf_xs n hwf i (by omega))) rfl ?_ ?_; (· refine ⟨⟨rfl, rfl, rowX_view i rfl, ⟨rfl, .inl rfl, id⟩, trivial⟩, trivial⟩))
    | (refine Ok_back1 (1) ?_ ?_ ?_; (· exact ⟨Nat.le_refl _, b3⟩); (· (try simp only [hw0, rowX_one]); simp [leFT, leV, leOs, leO, leC, rho, AV.ren, AV.ren1, AV.un, AV.un1, AV.closed]; (try exact rowX_closed _)); (· (try simp only [hw0, rowX_one]); simp [leFT, leV, leOs, leO, leC, rho, AV.ren, AV.ren1, AV.un, AV.un1, AV.closed]; (try exact rowX_closed _)))
    | (refine Ok_back (i + 1) ?_ ?_ ?_ ?_; (· exact ⟨by omega, hn⟩); (· omega); (· (try simp only [hw, rowX_step]); simp [leFT, leV, leOs, leO, leC, rho, AV.ren, AV.ren1, AV.un, AV.un1, AV.closed]; (try exact rowX_closed _)); (· (try simp only [hw, rowX_step]); simp [leFT, leV, leOs, leO, leC, rho, AV.ren, AV.ren1, AV.un, AV.un1, AV.closed]; (try exact rowX_closed _)))
    | (refine Ok_guard_t1 ?_ ?_; (· simp only [e, Bool.not_true, Bool.not_false]))
    | (refine Ok_guard_t0 ?_ ?_; (· simp only [e, Bool.not_true, Bool.not_false]))
    | (refine Ok_guard_f0 ?_ ?_; (· simp only [e, Bool.not_true, Bool.not_false]))
    | (refine Ok_guard_f1 ?_ ?_; (· simp only [e, Bool.not_true, Bool.not_false]))
    | (refine Ok_cond_t ?_ ?_; (· simp only [e, Bool.not_true, Bool.not_false]))
    | (refine Ok_cond_f ?_ ?_; (· simp only [e, Bool.not_true, Bool.not_false]))
    | (refine Ok_guard_t1 ?_ ?_; (· simp only [a1, Bool.not_true, Bool.not_false]))
    | (refine Ok_guard_t0 ?_ ?_; (· simp only [a1, Bool.not_true, Bool.not_false]))
    | (refine Ok_guard_f0 ?_ ?_; (· simp only [a1, Bool.not_true, Bool.not_false]))
    | (refine Ok_guard_f1 ?_ ?_; (· simp only [a1, Bool.not_true, Bool.not_false]))
    | (refine Ok_cond_t ?_ ?_; (· simp only [a1, Bool.not_true, Bool.not_false]))
    | (refine Ok_cond_f ?_ ?_; (· simp only [a1, Bool.not_true, Bool.not_false]))
    | (refine Ok_guard_t1 ?_ ?_; (· simp only [a2, Bool.not_true, Bool.not_false]))
    | (refine Ok_guard_t0 ?_ ?_; (· simp only [a2, Bool.not_true, Bool.not_false]))
    | (refine Ok_guard_f0 ?_ ?_; (· simp only [a2, Bool.not_true, Bool.not_false]))
    | (refine Ok_guard_f1 ?_ ?_; (· simp only [a2, Bool.not_true, Bool.not_false]))
    | (refine Ok_cond_t ?_ ?_; (· simp only [a2, Bool.not_true, Bool.not_false]))
    | (refine Ok_cond_f ?_ ?_; (· simp only [a2, Bool.not_true, Bool.not_false]))
    | (refine Ok_guard_t1 ?_ ?_; (· simp only [b1, Bool.not_true, Bool.not_false]))
    | (refine Ok_guard_t0 ?_ ?_; (· simp only [b1, Bool.not_true, Bool.not_false]))
    | (refine Ok_guard_f0 ?_ ?_; (· simp only [b1, Bool.not_true, Bool.not_false]))
    | (refine Ok_guard_f1 ?_ ?_; (· simp only [b1, Bool.not_true, Bool.not_false]))
    | (refine Ok_cond_t ?_ ?_; (· simp only [b1, Bool.not_true, Bool.not_false]))
    | (refine Ok_cond_f ?_ ?_; (· simp only [b1, Bool.not_true, Bool.not_false]))
    | (refine Ok_guard_t1 ?_ ?_; (· simp only [b2, Bool.not_true, Bool.not_false]))
    | (refine Ok_guard_t0 ?_ ?_; (· simp only [b2, Bool.not_true, Bool.not_false]))
    | (refine Ok_guard_f0 ?_ ?_; (· simp only [b2, Bool.not_true, Bool.not_false]))
    | (refine Ok_guard_f1 ?_ ?_; (· simp only [b2, Bool.not_true, Bool.not_false]))
    | (refine Ok_cond_t ?_ ?_; (· simp only [b2, Bool.not_true, Bool.not_false]))
    | (refine Ok_cond_f ?_ ?_; (· simp only [b2, Bool.not_true, Bool.not_false]))
    | (refine Ok_guard_t1 ?_ ?_; (· simp only [hb, Bool.not_true, Bool.not_false]))
    | (refine Ok_guard_t0 ?_ ?_; (· simp only [hb, Bool.not_true, Bool.not_false]))
    | (refine Ok_guard_f0 ?_ ?_; (· simp only [hb, Bool.not_true, Bool.not_false]))
    | (refine Ok_guard_f1 ?_ ?_; (· simp only [hb, Bool.not_true, Bool.not_false]))
    | (refine Ok_cond_t ?_ ?_; (· simp only [hb, Bool.not_true, Bool.not_false]))
    | (refine Ok_cond_f ?_ ?_; (· simp only [hb, Bool.not_true, Bool.not_false]))
    | (refine Ok_guard_t1 ?_ ?_; (· simp only [hx, Bool.not_true, Bool.not_false]))
    | (refine Ok_guard_t0 ?_ ?_; (· simp only [hx, Bool.not_true, Bool.not_false]))
    | (refine Ok_guard_f0 ?_ ?_; (· simp only [hx, Bool.not_true, Bool.not_false]))
    | (refine Ok_guard_f1 ?_ ?_; (· simp only [hx, Bool.not_true, Bool.not_false]))
    | (refine Ok_cond_t ?_ ?_; (· simp only [hx, Bool.not_true, Bool.not_false]))
    | (refine Ok_cond_f ?_ ?_; (· simp only [hx, Bool.not_true, Bool.not_false]))
    | refine Ok_call (grammar_Check n hwf) ?_
    | refine Ok_call (L7_bare n hwf 60 s h1 h2) ?_
    | refine Ok_call ((grammar_Check (bareN n) (wf_bare n hwf)).wk (bareC_wk2 n)) ?_
    | refine Ok_call (grammar_Own n hsub) ?_
    | refine Ok_call (L7_awake) ?_
    | refine Ok_guard_t (fun h => ?_) (fun h => ?_)
    | refine Ok_guard_f (fun h => ?_) (fun h => ?_)
    | refine Ok_cond (fun h => ?_) (fun h => ?_)
    | refine Ok_fin env rfl rfl (told_eq ?_)
    | refine Ok_fin_n env rfl (told_eq ?_)
  all_goals (first | rfl | skip)
end Go.Proofs.YtihlipmnhgnpoaaDoorW.Ex.Gr
