/- The statements about the free text and about parentheses return true. Conditions: those of the trees that come in (Wf). -/
import Derived.Test.YtihlipmnhgnpoaaDoorGm
import Derived.KernelRfl
namespace Go.Proofs.YtihlipmnhgnpoaaDoorW.Ex.Gr
open Go Go.Proofs.YtihlipmnhgnpoaaDoorW.Ex
set_option linter.all false
set_option maxRecDepth 100000
theorem row_closed (l : List Node) (i : Nat) : ∀ x ∈ rowOf l i, x.closed = true := by
  intro x hx
  obtain ⟨c, hc, hx⟩ := List.mem_flatten.1 hx
  obtain ⟨m, _, rfl⟩ := List.mem_map.1 hc
  exact (cell_one m x hx).2
theorem bare_turn (l : List Node) (d s i : Nat) (k : Int) (hs : s ≤ 4000) (hl : l.length ≤ 9223372036854775807) (hJ : i ≤ l.length ∧ 0 ≤ k ∧ ∃ r : Nat, sizeL? (l.drop i) d = some r ∧ k + r = s) :
    (∃ (m : Node) (a : Nat), l[i]? = some m ∧ m ∈ l ∧ i < l.length ∧ decide ((i : Int) < ((l.map Node.cells).length : Int)) = true ∧ size? m d = some a ∧ a ≤ 4000 ∧ IntKind.i64.wrap ((i : Int) + 1) = ((i + 1 : Nat) : Int) ∧ IntKind.i64.wrap (k + a) = k + a ∧
      (0 ≤ k + a ∧ ∃ r : Nat, sizeL? (l.drop (i + 1)) d = some r ∧ (k + a) + r = s)) ∨
    (decide ((i : Int) < ((l.map Node.cells).length : Int)) = false ∧ i = l.length ∧ k = s) := by
  obtain ⟨h1, h2, r, h3, h4⟩ := hJ
  rcases Nat.lt_or_ge i l.length with h | h
  · have hd : decide ((i : Int) < ((l.map Node.cells).length : Int)) = true := by simpa using h
    rw [List.drop_eq_getElem_cons h, sizeL_cons] at h3
    cases ha : size? l[i] d with
    | none => rw [ha] at h3; cases h3
    | some a =>
      cases hb : sizeL? (l.drop (i + 1)) d with
      | none => rw [ha, hb] at h3; cases h3
      | some b =>
        rw [ha, hb] at h3
        simp only [Option.some.injEq] at h3
        exact .inl ⟨l[i], a, List.getElem?_eq_getElem h, List.getElem_mem h, h, hd, ha, by omega, wrap_id (by omega) (by omega), wrap_id (by omega) (by omega), by omega, b, rfl, by omega⟩
  · refine .inr ⟨by simpa using h, by omega, ?_⟩
    rw [List.drop_of_length_le h] at h3
    simp only [sizeL?, Option.some.injEq] at h3
    omega
def bareC (n : Node) : List AV := [.int .i64 n.kind, .str n.text, .sl 0 true [], .sl 4 false ((n.kids.map bareN).map Node.cells)]
theorem bareC_wk (n : Node) (s : Nat) : wkT (.tup [.agg (bareC n), .int .i64 s]) (.tup [.agg (cellsN (bareN n)), .int .i64 s]) := by
  rw [bare_eq]
  simp [wkT, wkLs, wk, wkL, wk1, bareC, cellsN, Node.kind, Node.text, Node.gaps, Node.kids]
theorem pure_bare (n : Node) (s : Nat) : Pure (.tup [.agg (bareC n), .int .i64 s]) := .tup _ (fun y hy => by
  rcases List.mem_cons.1 hy with rfl | hy
  · exact closed2_pure _ rfl
  · rcases List.mem_cons.1 hy with rfl | hy
    · exact closed2_pure _ rfl
    · cases hy)
theorem bare_at {n m : Node} {i : Nat} (h : n.kids[i]? = some m) : (n.kids.map bareN)[i]? = some (bareN m) := by rw [List.getElem?_map, h]; rfl
set_option maxHeartbeats 8000000 in
/-- bare -/
theorem L7_bare : ∀ n : Node, Wf n → ∀ (d s : Nat), size? n d = some s → s ≤ 4000 → Fn Tryd.prog G 23 [.agg (cellsN n)] (.tup [.agg (bareC n), .int .i64 s]) := by
  intro n hwf
  induction hwf with | mk n hk hg ht hs _ ih => ?_
  intro d s' h1 h2
  cases d with
  | zero => rw [size_zero] at h1; cases h1
  | succ d =>
    rw [size_succ] at h1
    split at h1
    · cases h1
    rename_i hmost
    have hlen : n.kids.length ≤ 200 := by have := most_le n.kind; omega
    simp only [Option.map_eq_some_iff] at h1
    obtain ⟨r0, hr0, rfl⟩ := h1
    rcases bare_turn n.kids d (r0 + 1) 0 1 h2 hk ⟨Nat.zero_le _, by decide, r0, hr0, by omega⟩ with ⟨m0, a0, hm0, hmem0, hlt0, hb0, ha0, hle0, hw0, hv0, hn0⟩ | ⟨hb0, hi0, hk0⟩
    all_goals rw [show ((0 : Nat) : Int) = 0 from rfl] at hb0
    all_goals (try rw [show ((0 : Nat) : Int) = 0 from rfl] at hw0)
    all_goals
      refine Fn_run (T := tt) (N := 41) (rs := [.cell 2 25, .tmp 3]) (fun vs w => by simp) Tryd.func23 rfl rfl rfl rfl (by kernel_rfl) (all_pure rfl) (pure_bare n _) ?_
      repeat' first
        | refine Ok_run env rfl ?_
        | refine Ok_loop1 (α := Nat × Int) (fun a => 1 ≤ a.1 ∧ a.1 ≤ n.kids.length ∧ 0 ≤ a.2 ∧ ∃ r : Nat, sizeL? (n.kids.drop a.1) d = some r ∧ a.2 + r = (r0 + 1 : Nat)) (fun a => n.kids.length - a.1) (fun a => [(6, .int .i64 a.1), (5, .int .i64 a.2)]) (5) (fun a => [(0, .var 25 (cellsN n)), (1, .var 25 [.int .i64 0, .str ⟨#[]⟩, .sl 0 true [], .sl 0 true []]), (2, .var 25 [.int .i64 n.kind, .str n.text, .sl 0 true [], .bs 4 4 4 0 a.1]), (3, .dead), (4, .row 25 (rowOf (n.kids.map bareN) a.1))]) (fun _ => rfl) ?_ (fun a hJ => ?_)
        | ((rcases a with ⟨i, k⟩; obtain ⟨hi1, hi2, hJ⟩ := hJ; rcases bare_turn n.kids d (r0 + 1) i k h2 hk ⟨hi2, hJ⟩ with ⟨m, a1, hm, hmem, hlt, hb, ha1, hle1, hw, hv, hn⟩ | ⟨hb, rfl, rfl⟩) <;> clear hJ)
        | refine Ok_lret1 rfl ?_
        | refine Ok_lexit1 rfl rfl ?_
        | refine Ok_lret rfl ?_
        | refine Ok_lexit rfl rfl ?_
        | refine Ok_ix env rfl rfl rfl rfl rfl (kid_at hm) ?_
        | refine Ok_ix (m := 0) env rfl rfl rfl rfl rfl (kid_at hm0) ?_
        | (refine Ok_append_new (by_ := 72) env rfl rfl rfl rfl rfl rfl rfl rfl (by decide) rfl rfl (by simp) (by simp) (by simp) ?_)
        | (refine Ok_append_bs (by_ := 72) env rfl rfl rfl rfl rfl rfl rfl (by decide) rfl rfl rfl ?_ ?_ ?_ ?_; (· exact row_len _ _ (by simpa using hi2)); (· simp only [List.length_cons, List.length_nil]; omega); (· simp only [List.length_cons, List.length_nil]; omega))
        | (refine Ok_back1 ((1, 1 + (a0 : Int))) ?_ ?_ ?_; (· exact ⟨Nat.le_refl _, hlt0, hn0⟩); (· (try simp only [hw0, hv0, row_one (bare_at hm0)]); simp [leFT, leV, leOs, leO, leC, rho, AV.ren, AV.ren1, AV.un, AV.un1, AV.closed]; (try exact row_closed _ _)); (· (try simp only [hw0, hv0, row_one (bare_at hm0)]); simp [leFT, leV, leOs, leO, leC, rho, AV.ren, AV.ren1, AV.un, AV.un1, AV.closed]; (try exact row_closed _ _)))
        | (refine Ok_back ((i + 1, k + a1)) ?_ ?_ ?_ ?_; (· exact ⟨by show 1 ≤ i + 1; omega, by show i + 1 ≤ n.kids.length; omega, hn⟩); (· (show n.kids.length - (i + 1) < n.kids.length - i; omega)); (· (try simp only [hw, hv, row_step (bare_at hm)]); simp [leFT, leV, leOs, leO, leC, rho, AV.ren, AV.ren1, AV.un, AV.un1, AV.closed]; (try exact row_closed _ _)); (· (try simp only [hw, hv, row_step (bare_at hm)]); simp [leFT, leV, leOs, leO, leC, rho, AV.ren, AV.ren1, AV.un, AV.un1, AV.closed]; (try exact row_closed _ _)))
        | (refine Ok_guard_t1 ?_ ?_; (· simp only [hb0, Bool.not_true, Bool.not_false]))
        | (refine Ok_guard_t0 ?_ ?_; (· simp only [hb0, Bool.not_true, Bool.not_false]))
        | (refine Ok_guard_f0 ?_ ?_; (· simp only [hb0, Bool.not_true, Bool.not_false]))
        | (refine Ok_guard_f1 ?_ ?_; (· simp only [hb0, Bool.not_true, Bool.not_false]))
        | (refine Ok_cond_t ?_ ?_; (· simp only [hb0, Bool.not_true, Bool.not_false]))
        | (refine Ok_cond_f ?_ ?_; (· simp only [hb0, Bool.not_true, Bool.not_false]))
        | (refine Ok_guard_t1 ?_ ?_; (· simp only [hb, Bool.not_true, Bool.not_false]))
        | (refine Ok_guard_t0 ?_ ?_; (· simp only [hb, Bool.not_true, Bool.not_false]))
        | (refine Ok_guard_f0 ?_ ?_; (· simp only [hb, Bool.not_true, Bool.not_false]))
        | (refine Ok_guard_f1 ?_ ?_; (· simp only [hb, Bool.not_true, Bool.not_false]))
        | (refine Ok_cond_t ?_ ?_; (· simp only [hb, Bool.not_true, Bool.not_false]))
        | (refine Ok_cond_f ?_ ?_; (· simp only [hb, Bool.not_true, Bool.not_false]))
        | refine Ok_call (Fn_less (ih m0 hmem0 d a0 ha0 hle0) (bareC_wk m0 a0)) ?_
        | refine Ok_call (Fn_less (ih m hmem d a1 ha1 hle1) (bareC_wk m a1)) ?_
        | refine Ok_guard_t (fun h => ?_) (fun h => ?_)
        | refine Ok_guard_f (fun h => ?_) (fun h => ?_)
        | refine Ok_cond (fun h => ?_) (fun h => ?_)
        | refine Ok_fin env rfl rfl (told_view ?_)
    all_goals first
      | (simp only [viewT, viewLs, view, viewL, bareC]
         refine ⟨⟨?_, ?_, ?_, row_view _ _ (by simp) rfl, trivial⟩, ?_, trivial⟩ <;> simp [view1, wk1])
      | (have e : n.kids = [] := List.length_eq_zero_iff.1 hi0.symm
         simp [viewT, viewLs, view, viewL, view1, wk1, bareC, e, ← hk0])
end Go.Proofs.YtihlipmnhgnpoaaDoorW.Ex.Gr
