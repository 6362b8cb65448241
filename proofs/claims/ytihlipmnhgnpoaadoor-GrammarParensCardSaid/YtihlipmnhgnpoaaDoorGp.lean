/- The statement about one part in parentheses returns true. Conditions: those of the trees that come in (Wf). -/
import Derived.Test.YtihlipmnhgnpoaaDoorGo
import Derived.KernelRfl
namespace Go.Proofs.YtihlipmnhgnpoaaDoorW.Ex.Gr
open Go Go.Proofs.YtihlipmnhgnpoaaDoorW.Ex
set_option linter.all false
set_option maxRecDepth 100000
theorem par_turn (n m : Node) (i k : Nat) (hm : n.kids[i]? = some m) (hl : n.kids.length ≤ 200) (hk : k ≤ n.kids.length) :
    (∃ q, n.kids[k]? = some q ∧ decide ((k : Int) < ((n.kids.map Node.cells).length : Int)) = true ∧ IntKind.i64.wrap ((k : Int) + 1) = ((k + 1 : Nat) : Int) ∧ k < n.kids.length ∧ decide ((k : Int) = (i : Int)) = false ∧ (parG n i m).kids[k]? = some q) ∨
    (n.kids[k]? = some m ∧ decide ((k : Int) < ((n.kids.map Node.cells).length : Int)) = true ∧ IntKind.i64.wrap ((k : Int) + 1) = ((k + 1 : Nat) : Int) ∧ k < n.kids.length ∧ decide ((k : Int) = (i : Int)) = true ∧ (parG n i m).kids[k]? = some (parenN m)) ∨
    (decide ((k : Int) < ((n.kids.map Node.cells).length : Int)) = false ∧ k = n.kids.length) := by
  have hi := (List.getElem?_eq_some_iff.1 hm).1
  rcases Nat.lt_or_ge k n.kids.length with h | h
  · have hd : decide ((k : Int) < ((n.kids.map Node.cells).length : Int)) = true := by simpa using h
    have hw : IntKind.i64.wrap ((k : Int) + 1) = ((k + 1 : Nat) : Int) := wrap_id (by omega) (by omega)
    by_cases hki : k = i
    · subst hki
      refine .inr (.inl ⟨hm, hd, hw, h, decide_eq_true rfl, ?_⟩)
      rw [parG_kids, List.getElem?_set, if_pos rfl]
      simp [hi]
    · refine .inl ⟨n.kids[k], List.getElem?_eq_getElem h, hd, hw, h, decide_eq_false (by omega), ?_⟩
      rw [parG_kids, List.getElem?_set, if_neg (fun e => hki e.symm), List.getElem?_eq_getElem h]
  · exact .inr (.inr ⟨by simpa using h, by omega⟩)
set_option maxHeartbeats 8000000 in
/-- GrammarParens -/
theorem L7_GrammarParens (n : Node) (hwf : Wf n) (a : Int) : Fn Tryd.prog G 8 [.agg (cellsN n), .int .i64 a] (.bool true) := by
  have hsub : n.kids.length ≤ 9223372036854775807 := by cases hwf; assumption
  by_cases hc : checkErr n = 0
  case neg =>
    have e : decide (checkErr n = 0) = false := decide_eq_false hc
    refine Fn_run (T := tt) (N := 82) (rs := [.tmp 4]) (fun vs w => by simp) Tryd.func8 rfl rfl rfl rfl (by kernel_rfl) (all_pure rfl) (closed2_pure _ rfl) ?_
    repeat' first
      | refine Ok_run env rfl ?_
      | (refine Ok_guard_t1 ?_ ?_; (· simp only [e, Bool.not_true, Bool.not_false]))
      | (refine Ok_guard_t0 ?_ ?_; (· simp only [e, Bool.not_true, Bool.not_false]))
      | (refine Ok_guard_f0 ?_ ?_; (· simp only [e, Bool.not_true, Bool.not_false]))
      | (refine Ok_guard_f1 ?_ ?_; (· simp only [e, Bool.not_true, Bool.not_false]))
      | (refine Ok_cond_t ?_ ?_; (· simp only [e, Bool.not_true, Bool.not_false]))
      | (refine Ok_cond_f ?_ ?_; (· simp only [e, Bool.not_true, Bool.not_false]))
      | refine Ok_call (grammar_Check n hwf) ?_
      | refine Ok_call (grammar_Group _) ?_
      | refine Ok_call (L7_paren _) ?_
      | refine Ok_call (L7_awake) ?_
      | refine Ok_guard_t (fun h => ?_) (fun h => ?_)
      | refine Ok_guard_f (fun h => ?_) (fun h => ?_)
      | refine Ok_cond (fun h => ?_) (fun h => ?_)
      | refine Ok_fin env rfl rfl (told_eq ?_)
      | refine Ok_fin_n env rfl (told_eq ?_)
    all_goals rfl
  have e : decide (checkErr n = 0) = true := decide_eq_true hc
  obtain ⟨hlen, _, _⟩ := parts n hc
  by_cases h0 : a < 0
  case pos =>
    have e0 : decide (a < 0) = true := decide_eq_true h0
    refine Fn_run (T := tt) (N := 82) (rs := [.tmp 4]) (fun vs w => by simp) Tryd.func8 rfl rfl rfl rfl (by kernel_rfl) (all_pure rfl) (closed2_pure _ rfl) ?_
    repeat' first
      | refine Ok_run env rfl ?_
      | (refine Ok_guard_t1 ?_ ?_; (· simp only [e, Bool.not_true, Bool.not_false]))
      | (refine Ok_guard_t0 ?_ ?_; (· simp only [e, Bool.not_true, Bool.not_false]))
      | (refine Ok_guard_f0 ?_ ?_; (· simp only [e, Bool.not_true, Bool.not_false]))
      | (refine Ok_guard_f1 ?_ ?_; (· simp only [e, Bool.not_true, Bool.not_false]))
      | (refine Ok_cond_t ?_ ?_; (· simp only [e, Bool.not_true, Bool.not_false]))
      | (refine Ok_cond_f ?_ ?_; (· simp only [e, Bool.not_true, Bool.not_false]))
      | (refine Ok_guard_t1 ?_ ?_; (· simp only [e0, Bool.not_true, Bool.not_false]))
      | (refine Ok_guard_t0 ?_ ?_; (· simp only [e0, Bool.not_true, Bool.not_false]))
      | (refine Ok_guard_f0 ?_ ?_; (· simp only [e0, Bool.not_true, Bool.not_false]))
      | (refine Ok_guard_f1 ?_ ?_; (· simp only [e0, Bool.not_true, Bool.not_false]))
      | (refine Ok_cond_t ?_ ?_; (· simp only [e0, Bool.not_true, Bool.not_false]))
      | (refine Ok_cond_f ?_ ?_; (· simp only [e0, Bool.not_true, Bool.not_false]))
      | refine Ok_call (grammar_Check n hwf) ?_
      | refine Ok_call (grammar_Group _) ?_
      | refine Ok_call (L7_paren _) ?_
      | refine Ok_call (L7_awake) ?_
      | refine Ok_guard_t (fun h => ?_) (fun h => ?_)
      | refine Ok_guard_f (fun h => ?_) (fun h => ?_)
      | refine Ok_cond (fun h => ?_) (fun h => ?_)
      | refine Ok_fin env rfl rfl (told_eq ?_)
      | refine Ok_fin_n env rfl (told_eq ?_)
    all_goals rfl
  have e0 : decide (a < 0) = false := decide_eq_false h0
  obtain ⟨i, rfl⟩ := Int.eq_ofNat_of_zero_le (show 0 ≤ a by omega)
  by_cases h1 : n.kids.length ≤ i
  case pos =>
    have e1 : decide (((n.kids.map Node.cells).length : Int) ≤ (i : Int)) = true := by simpa using h1
    refine Fn_run (T := tt) (N := 82) (rs := [.tmp 4]) (fun vs w => by simp) Tryd.func8 rfl rfl rfl rfl (by kernel_rfl) (all_pure rfl) (closed2_pure _ rfl) ?_
    repeat' first
      | refine Ok_run env rfl ?_
      | (refine Ok_guard_t1 ?_ ?_; (· simp only [e, Bool.not_true, Bool.not_false]))
      | (refine Ok_guard_t0 ?_ ?_; (· simp only [e, Bool.not_true, Bool.not_false]))
      | (refine Ok_guard_f0 ?_ ?_; (· simp only [e, Bool.not_true, Bool.not_false]))
      | (refine Ok_guard_f1 ?_ ?_; (· simp only [e, Bool.not_true, Bool.not_false]))
      | (refine Ok_cond_t ?_ ?_; (· simp only [e, Bool.not_true, Bool.not_false]))
      | (refine Ok_cond_f ?_ ?_; (· simp only [e, Bool.not_true, Bool.not_false]))
      | (refine Ok_guard_t1 ?_ ?_; (· simp only [e0, Bool.not_true, Bool.not_false]))
      | (refine Ok_guard_t0 ?_ ?_; (· simp only [e0, Bool.not_true, Bool.not_false]))
      | (refine Ok_guard_f0 ?_ ?_; (· simp only [e0, Bool.not_true, Bool.not_false]))
      | (refine Ok_guard_f1 ?_ ?_; (· simp only [e0, Bool.not_true, Bool.not_false]))
      | (refine Ok_cond_t ?_ ?_; (· simp only [e0, Bool.not_true, Bool.not_false]))
      | (refine Ok_cond_f ?_ ?_; (· simp only [e0, Bool.not_true, Bool.not_false]))
      | (refine Ok_guard_t1 ?_ ?_; (· simp only [e1, Bool.not_true, Bool.not_false]))
      | (refine Ok_guard_t0 ?_ ?_; (· simp only [e1, Bool.not_true, Bool.not_false]))
      | (refine Ok_guard_f0 ?_ ?_; (· simp only [e1, Bool.not_true, Bool.not_false]))
      | (refine Ok_guard_f1 ?_ ?_; (· simp only [e1, Bool.not_true, Bool.not_false]))
      | (refine Ok_cond_t ?_ ?_; (· simp only [e1, Bool.not_true, Bool.not_false]))
      | (refine Ok_cond_f ?_ ?_; (· simp only [e1, Bool.not_true, Bool.not_false]))
      | refine Ok_call (grammar_Check n hwf) ?_
      | refine Ok_call (grammar_Group _) ?_
      | refine Ok_call (L7_paren _) ?_
      | refine Ok_call (L7_awake) ?_
      | refine Ok_guard_t (fun h => ?_) (fun h => ?_)
      | refine Ok_guard_f (fun h => ?_) (fun h => ?_)
      | refine Ok_cond (fun h => ?_) (fun h => ?_)
      | refine Ok_fin env rfl rfl (told_eq ?_)
      | refine Ok_fin_n env rfl (told_eq ?_)
    all_goals rfl
  have e1 : decide (((n.kids.map Node.cells).length : Int) ≤ (i : Int)) = false := by simpa using h1
  have hi : i < n.kids.length := by omega
  obtain ⟨m, hm⟩ : ∃ m, n.kids[i]? = some m := ⟨_, List.getElem?_eq_getElem hi⟩
  by_cases h2 : group m.kind = 3
  case neg =>
    have e2 : decide (group m.kind = 3) = false := decide_eq_false h2
    refine Fn_run (T := tt) (N := 82) (rs := [.tmp 4]) (fun vs w => by simp) Tryd.func8 rfl rfl rfl rfl (by kernel_rfl) (all_pure rfl) (closed2_pure _ rfl) ?_
    repeat' first
      | refine Ok_run env rfl ?_
      | refine Ok_ix env rfl rfl rfl rfl rfl (kid_at hm) ?_
      | (refine Ok_guard_t1 ?_ ?_; (· simp only [e, Bool.not_true, Bool.not_false]))
      | (refine Ok_guard_t0 ?_ ?_; (· simp only [e, Bool.not_true, Bool.not_false]))
      | (refine Ok_guard_f0 ?_ ?_; (· simp only [e, Bool.not_true, Bool.not_false]))
      | (refine Ok_guard_f1 ?_ ?_; (· simp only [e, Bool.not_true, Bool.not_false]))
      | (refine Ok_cond_t ?_ ?_; (· simp only [e, Bool.not_true, Bool.not_false]))
      | (refine Ok_cond_f ?_ ?_; (· simp only [e, Bool.not_true, Bool.not_false]))
      | (refine Ok_guard_t1 ?_ ?_; (· simp only [e0, Bool.not_true, Bool.not_false]))
      | (refine Ok_guard_t0 ?_ ?_; (· simp only [e0, Bool.not_true, Bool.not_false]))
      | (refine Ok_guard_f0 ?_ ?_; (· simp only [e0, Bool.not_true, Bool.not_false]))
      | (refine Ok_guard_f1 ?_ ?_; (· simp only [e0, Bool.not_true, Bool.not_false]))
      | (refine Ok_cond_t ?_ ?_; (· simp only [e0, Bool.not_true, Bool.not_false]))
      | (refine Ok_cond_f ?_ ?_; (· simp only [e0, Bool.not_true, Bool.not_false]))
      | (refine Ok_guard_t1 ?_ ?_; (· simp only [e1, Bool.not_true, Bool.not_false]))
      | (refine Ok_guard_t0 ?_ ?_; (· simp only [e1, Bool.not_true, Bool.not_false]))
      | (refine Ok_guard_f0 ?_ ?_; (· simp only [e1, Bool.not_true, Bool.not_false]))
      | (refine Ok_guard_f1 ?_ ?_; (· simp only [e1, Bool.not_true, Bool.not_false]))
      | (refine Ok_cond_t ?_ ?_; (· simp only [e1, Bool.not_true, Bool.not_false]))
      | (refine Ok_cond_f ?_ ?_; (· simp only [e1, Bool.not_true, Bool.not_false]))
      | (refine Ok_guard_t1 ?_ ?_; (· simp only [e2, Bool.not_true, Bool.not_false]))
      | (refine Ok_guard_t0 ?_ ?_; (· simp only [e2, Bool.not_true, Bool.not_false]))
      | (refine Ok_guard_f0 ?_ ?_; (· simp only [e2, Bool.not_true, Bool.not_false]))
      | (refine Ok_guard_f1 ?_ ?_; (· simp only [e2, Bool.not_true, Bool.not_false]))
      | (refine Ok_cond_t ?_ ?_; (· simp only [e2, Bool.not_true, Bool.not_false]))
      | (refine Ok_cond_f ?_ ?_; (· simp only [e2, Bool.not_true, Bool.not_false]))
      | refine Ok_call (grammar_Check n hwf) ?_
      | refine Ok_call (grammar_Group _) ?_
      | refine Ok_call (L7_paren _) ?_
      | refine Ok_call (L7_awake) ?_
      | refine Ok_guard_t (fun h => ?_) (fun h => ?_)
      | refine Ok_guard_f (fun h => ?_) (fun h => ?_)
      | refine Ok_cond (fun h => ?_) (fun h => ?_)
      | refine Ok_fin env rfl rfl (told_eq ?_)
      | refine Ok_fin_n env rfl (told_eq ?_)
    all_goals rfl
  have e2 : decide (group m.kind = 3) = true := decide_eq_true h2
  have hx := paren_check n hc i m hm h2
  have d1 : ∃ b, decide (checkErr (parG n i m) = 0) = b := ⟨_, rfl⟩
  have hz : (decide (checkErr (parG n i m) = 0) = true) ∨ (decide (checkErr (parG n i m) = 0) = false ∧ decide (checkErr (parG n i m) = 3) = true) := by
    rcases hx with h | h
    · exact .inl (decide_eq_true h)
    · exact .inr ⟨by rw [h]; rfl, decide_eq_true h⟩
  rcases par_turn n m i 0 hm hlen (Nat.zero_le _) with ⟨q0, hq0, hb0, hw0, hlt0, hki0, hset0⟩ | ⟨hq0, hb0, hw0, hlt0, hki0, hset0⟩ | ⟨_, h00⟩
  case inr.inr => omega
  all_goals rw [show ((0 : Nat) : Int) = 0 from rfl] at hb0 hw0 hki0
  all_goals rcases hz with z1 | ⟨z1, z2⟩
  all_goals
    refine Fn_run (T := tt) (N := 82) (rs := [.tmp 4]) (fun vs w => by simp) Tryd.func8 rfl rfl rfl rfl (by kernel_rfl) (all_pure rfl) (closed2_pure _ rfl) ?_
    repeat' first
      | refine Ok_run env rfl ?_
      | refine Ok_loop1 (α := Nat) (fun k => 1 ≤ k ∧ k ≤ n.kids.length) (fun k => n.kids.length - k) (fun k => [(6, .int .i64 k)]) (3) (fun k => [(0, .var 25 (cellsN n)), (1, .var 25 [.int .i64 n.kind, .str n.text, .sl 1 false (n.gaps.map sc), .bs 4 2 2 0 k]), (2, .row 25 (rowOf (parG n i m).kids k))]) (fun _ => rfl) ?_ (fun k hJ => ?_)
      | ((obtain ⟨hk1, hk2⟩ := hJ; rcases par_turn n m i k hm hlen hk2 with ⟨q, hq, hb, hw, hlt, hki, hset⟩ | ⟨hq, hb, hw, hlt, hki, hset⟩ | ⟨hb, rfl⟩) <;> clear hk1)
      | refine Ok_lret1 rfl ?_
      | refine Ok_lret rfl ?_
      | refine Ok_lexit rfl rfl ?_
      | refine Ok_ix env rfl rfl rfl rfl rfl (kid_at hq) ?_
      | refine Ok_ix (m := 0) env rfl rfl rfl rfl rfl (kid_at hq0) ?_
      | refine Ok_ix env rfl rfl rfl rfl rfl (kid_at hm) ?_
      | (refine Ok_append_new (by_ := 72) env rfl rfl rfl rfl rfl rfl rfl rfl (by decide) rfl rfl (by simp) (by simp) (by simp) ?_)
      | (refine Ok_append_bs (by_ := 72) env rfl rfl rfl rfl rfl rfl rfl (by decide) rfl rfl rfl ?_ ?_ ?_ ?_; (· exact row_len _ _ (by rw [parG_kids, List.length_set]; exact hk2)); (· simp only [List.length_cons, List.length_nil]; omega); (· simp only [List.length_cons, List.length_nil]; omega))
      | (refine Ok_peek (grammar_Check (parG n i m) (wf_par n hwf i m hm)) rfl ?_ ?_; (· refine ⟨⟨rfl, rfl, ⟨rfl, .inl rfl, id⟩, row_view _ _ (by rw [parG_kids, List.length_set]) rfl, trivial⟩, trivial⟩))
      | (refine Ok_back1 (1) ?_ ?_ ?_; (· exact ⟨Nat.le_refl _, hlt0⟩); (· (try simp only [hw0, row_one hset0]); simp [leFT, leV, leOs, leO, leC, rho, AV.ren, AV.ren1, AV.un, AV.un1, AV.closed]; (try exact row_closed _ _)); (· (try simp only [hw0, row_one hset0]); simp [leFT, leV, leOs, leO, leC, rho, AV.ren, AV.ren1, AV.un, AV.un1, AV.closed]; (try exact row_closed _ _)))
      | (refine Ok_back (k + 1) ?_ ?_ ?_ ?_; (· exact ⟨by omega, by omega⟩); (· omega); (· (try simp only [hw, row_step hset]); simp [leFT, leV, leOs, leO, leC, rho, AV.ren, AV.ren1, AV.un, AV.un1, AV.closed]; (try exact row_closed _ _)); (· (try simp only [hw, row_step hset]); simp [leFT, leV, leOs, leO, leC, rho, AV.ren, AV.ren1, AV.un, AV.un1, AV.closed]; (try exact row_closed _ _)))
      | (refine Ok_guard_t1 ?_ ?_; (· simp only [e, Bool.not_true, Bool.not_false]))
      | (refine Ok_guard_t0 ?_ ?_; (· simp only [e, Bool.not_true, Bool.not_false]))
      | (refine Ok_guard_f0 ?_ ?_; (· simp only [e, Bool.not_true, Bool.not_false]))
      | (refine Ok_guard_f1 ?_ ?_; (· simp only [e, Bool.not_true, Bool.not_false]))
      | (refine Ok_cond_t ?_ ?_; (· simp only [e, Bool.not_true, Bool.not_false]))
      | (refine Ok_cond_f ?_ ?_; (· simp only [e, Bool.not_true, Bool.not_false]))
      | (refine Ok_guard_t1 ?_ ?_; (· simp only [e0, Bool.not_true, Bool.not_false]))
      | (refine Ok_guard_t0 ?_ ?_; (· simp only [e0, Bool.not_true, Bool.not_false]))
      | (refine Ok_guard_f0 ?_ ?_; (· simp only [e0, Bool.not_true, Bool.not_false]))
      | (refine Ok_guard_f1 ?_ ?_; (· simp only [e0, Bool.not_true, Bool.not_false]))
      | (refine Ok_cond_t ?_ ?_; (· simp only [e0, Bool.not_true, Bool.not_false]))
      | (refine Ok_cond_f ?_ ?_; (· simp only [e0, Bool.not_true, Bool.not_false]))
      | (refine Ok_guard_t1 ?_ ?_; (· simp only [e1, Bool.not_true, Bool.not_false]))
      | (refine Ok_guard_t0 ?_ ?_; (· simp only [e1, Bool.not_true, Bool.not_false]))
      | (refine Ok_guard_f0 ?_ ?_; (· simp only [e1, Bool.not_true, Bool.not_false]))
      | (refine Ok_guard_f1 ?_ ?_; (· simp only [e1, Bool.not_true, Bool.not_false]))
      | (refine Ok_cond_t ?_ ?_; (· simp only [e1, Bool.not_true, Bool.not_false]))
      | (refine Ok_cond_f ?_ ?_; (· simp only [e1, Bool.not_true, Bool.not_false]))
      | (refine Ok_guard_t1 ?_ ?_; (· simp only [e2, Bool.not_true, Bool.not_false]))
      | (refine Ok_guard_t0 ?_ ?_; (· simp only [e2, Bool.not_true, Bool.not_false]))
      | (refine Ok_guard_f0 ?_ ?_; (· simp only [e2, Bool.not_true, Bool.not_false]))
      | (refine Ok_guard_f1 ?_ ?_; (· simp only [e2, Bool.not_true, Bool.not_false]))
      | (refine Ok_cond_t ?_ ?_; (· simp only [e2, Bool.not_true, Bool.not_false]))
      | (refine Ok_cond_f ?_ ?_; (· simp only [e2, Bool.not_true, Bool.not_false]))
      | (refine Ok_guard_t1 ?_ ?_; (· simp only [hb0, Bool.not_true, Bool.not_false]))
      | (refine Ok_guard_t0 ?_ ?_; (· simp only [hb0, Bool.not_true, Bool.not_false]))
      | (refine Ok_guard_f0 ?_ ?_; (· simp only [hb0, Bool.not_true, Bool.not_false]))
      | (refine Ok_guard_f1 ?_ ?_; (· simp only [hb0, Bool.not_true, Bool.not_false]))
      | (refine Ok_cond_t ?_ ?_; (· simp only [hb0, Bool.not_true, Bool.not_false]))
      | (refine Ok_cond_f ?_ ?_; (· simp only [hb0, Bool.not_true, Bool.not_false]))
      | (refine Ok_guard_t1 ?_ ?_; (· simp only [hki0, Bool.not_true, Bool.not_false]))
      | (refine Ok_guard_t0 ?_ ?_; (· simp only [hki0, Bool.not_true, Bool.not_false]))
      | (refine Ok_guard_f0 ?_ ?_; (· simp only [hki0, Bool.not_true, Bool.not_false]))
      | (refine Ok_guard_f1 ?_ ?_; (· simp only [hki0, Bool.not_true, Bool.not_false]))
      | (refine Ok_cond_t ?_ ?_; (· simp only [hki0, Bool.not_true, Bool.not_false]))
      | (refine Ok_cond_f ?_ ?_; (· simp only [hki0, Bool.not_true, Bool.not_false]))
      | (refine Ok_guard_t1 ?_ ?_; (· simp only [hb, Bool.not_true, Bool.not_false]))
      | (refine Ok_guard_t0 ?_ ?_; (· simp only [hb, Bool.not_true, Bool.not_false]))
      | (refine Ok_guard_f0 ?_ ?_; (· simp only [hb, Bool.not_true, Bool.not_false]))
      | (refine Ok_guard_f1 ?_ ?_; (· simp only [hb, Bool.not_true, Bool.not_false]))
      | (refine Ok_cond_t ?_ ?_; (· simp only [hb, Bool.not_true, Bool.not_false]))
      | (refine Ok_cond_f ?_ ?_; (· simp only [hb, Bool.not_true, Bool.not_false]))
      | (refine Ok_guard_t1 ?_ ?_; (· simp only [hki, Bool.not_true, Bool.not_false]))
      | (refine Ok_guard_t0 ?_ ?_; (· simp only [hki, Bool.not_true, Bool.not_false]))
      | (refine Ok_guard_f0 ?_ ?_; (· simp only [hki, Bool.not_true, Bool.not_false]))
      | (refine Ok_guard_f1 ?_ ?_; (· simp only [hki, Bool.not_true, Bool.not_false]))
      | (refine Ok_cond_t ?_ ?_; (· simp only [hki, Bool.not_true, Bool.not_false]))
      | (refine Ok_cond_f ?_ ?_; (· simp only [hki, Bool.not_true, Bool.not_false]))
      | (refine Ok_guard_t1 ?_ ?_; (· simp only [z1, Bool.not_true, Bool.not_false]))
      | (refine Ok_guard_t0 ?_ ?_; (· simp only [z1, Bool.not_true, Bool.not_false]))
      | (refine Ok_guard_f0 ?_ ?_; (· simp only [z1, Bool.not_true, Bool.not_false]))
      | (refine Ok_guard_f1 ?_ ?_; (· simp only [z1, Bool.not_true, Bool.not_false]))
      | (refine Ok_cond_t ?_ ?_; (· simp only [z1, Bool.not_true, Bool.not_false]))
      | (refine Ok_cond_f ?_ ?_; (· simp only [z1, Bool.not_true, Bool.not_false]))
      | (refine Ok_guard_t1 ?_ ?_; (· simp only [z2, Bool.not_true, Bool.not_false]))
      | (refine Ok_guard_t0 ?_ ?_; (· simp only [z2, Bool.not_true, Bool.not_false]))
      | (refine Ok_guard_f0 ?_ ?_; (· simp only [z2, Bool.not_true, Bool.not_false]))
      | (refine Ok_guard_f1 ?_ ?_; (· simp only [z2, Bool.not_true, Bool.not_false]))
      | (refine Ok_cond_t ?_ ?_; (· simp only [z2, Bool.not_true, Bool.not_false]))
      | (refine Ok_cond_f ?_ ?_; (· simp only [z2, Bool.not_true, Bool.not_false]))
      | refine Ok_call (grammar_Check n hwf) ?_
      | refine Ok_call (grammar_Group _) ?_
      | refine Ok_call (L7_paren _) ?_
      | refine Ok_call (L7_awake) ?_
      | refine Ok_guard_t (fun h => ?_) (fun h => ?_)
      | refine Ok_guard_f (fun h => ?_) (fun h => ?_)
      | refine Ok_cond (fun h => ?_) (fun h => ?_)
      | refine Ok_fin env rfl rfl (told_eq ?_)
      | refine Ok_fin_n env rfl (told_eq ?_)
    all_goals (first | rfl | skip)
end Go.Proofs.YtihlipmnhgnpoaaDoorW.Ex.Gr
