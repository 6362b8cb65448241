/- A node's kids. No conditions beside those in each theorem. -/
import Derived.Test.YtimdjillcaichaaDoorGd
namespace Go.Proofs.YtimdjillcaichaaDoorW.Ex.Gr
open Go Go.Proofs.YtimdjillcaichaaDoorW.Ex
set_option linter.all false
set_option maxRecDepth 100000
set_option maxHeartbeats 4000000 in
theorem grammar_kids (n : Node) (hkn : known n.kind = true) (hk : n.kids.length ≤ 9223372036854775807) : Fn Tryd.prog G 114 [.agg (cellsN n)] (.bool (kidsOk n)) := by
  have kb := known_in hkn
  have h0 : 0 ≤ n.kind := by omega
  have h2 : n.kind.toNat < 27 := by omega
  have hg := g0_take n.kind h2
  refine Fn_run (T := tt) (N := 57) (rs := [.tmp 2]) (fun vs w => by simp) Tryd.func114 rfl rfl rfl rfl (by kernel_rfl) (all_pure rfl) (closed2_pure _ rfl) ?_
  repeat' first
    | refine Ok_run env rfl ?_
    | refine Ok_ixa env rfl rfl rfl rfl h0 h2 hg ?_
    | (refine Ok_loop (α := Nat) (fun i => i ≤ (n.kids).length ∧ allFrom (fun i m => fits n.kind i m.kind) 0 (n.kids) = allFrom (fun i m => fits n.kind i m.kind) i ((n.kids).drop i)) (fun i => (n.kids).length - i) (fun i => [(44, .int .i64 i)]) (fun _ => []) (0) (fun _ => rfl) (fun _ => rfl) (⟨Nat.zero_le _, rfl⟩) ?_ ?_ (fun i hJ => ?_); (· simp [leFT, leV, leOs, leO, leC, rho, AV.ren, AV.ren1, AV.un, AV.un1, AV.closed]); (· simp [leFT, leV, leOs, leO, leC, rho, AV.ren, AV.ren1, AV.un, AV.un1, AV.closed]); rcases all_turn (fun i m => fits n.kind i m.kind) (n.kids) (Node.cells) i hk hJ with ⟨m, hm, hlt, hb, hw, he⟩ | ⟨hb, he⟩)
    | refine Ok_lret rfl ?_
    | refine Ok_lexit rfl rfl ?_
    | (refine Ok_back (i + 1) ?_ ?_ ?_ ?_; (· exact ⟨by omega, by simp_all⟩); (· omega); (· simp [leFT, leV, leOs, leO, leC, rho, AV.ren, AV.ren1, AV.un, AV.un1, AV.closed, hw]); (· simp [leFT, leV, leOs, leO, leC, rho, AV.ren, AV.ren1, AV.un, AV.un1, AV.closed]))
    | (refine Ok_guard_t1 ?_ ?_; (· simp only [hb]))
    | (refine Ok_guard_t0 ?_ ?_; (· simp only [hb]))
    | (refine Ok_guard_f0 ?_ ?_; (· simp only [hb]))
    | (refine Ok_guard_f1 ?_ ?_; (· simp only [hb]))
    | (refine Ok_cond_t ?_ ?_; (· simp only [hb]))
    | (refine Ok_cond_f ?_ ?_; (· simp only [hb]))
    | refine Ok_ix env rfl rfl rfl rfl rfl (kid_at hm) ?_
    | refine Ok_call (grammar_Fits _ _ _) ?_
    | refine Ok_guard_t (fun h => ?_) (fun h => ?_)
    | refine Ok_guard_f (fun h => ?_) (fun h => ?_)
    | refine Ok_cond (fun h => ?_) (fun h => ?_)
    | refine Ok_fin env rfl rfl (told_eq ?_)
    | refine Ok_fin_n env rfl (told_eq ?_)
  all_goals refine bool_eq ?_
  all_goals simp_all [kidsOk, fitsFrom, Prod.ext_iff]
  all_goals omega
def idxFrom (v : ByteArray) : Nat → List ByteArray → Int
  | _, [] => -1
  | i, w :: l => if v = w then i else idxFrom v (i + 1) l
theorem idx_mem (v : ByteArray) : ∀ (l : List ByteArray) (i : Nat), decide (0 ≤ idxFrom v i l) = memB v l
  | [], i => by simp [idxFrom, memB]
  | w :: l, i => by
    simp only [idxFrom]
    split
    · rename_i h; subst h; simp [memB]
    · rename_i h; rw [idx_mem v l (i + 1)]; simp [memB, h]
theorem idx_turn (v : ByteArray) (l : List ByteArray) (i : Nat) (hl : l.length ≤ 9223372036854775807) (hJ : i ≤ l.length ∧ idxFrom v 0 l = idxFrom v i (l.drop i)) :
    (∃ m, (l.map sc)[i]? = some [.str m] ∧ i < l.length ∧ decide ((i : Int) < ((l.map sc).length : Int)) = true ∧ IntKind.i64.wrap ((i : Int) + 1) = ((i + 1 : Nat) : Int) ∧
      ((decide (v = m) = true ∧ idxFrom v 0 l = i) ∨ (decide (v = m) = false ∧ idxFrom v 0 l = idxFrom v (i + 1) (l.drop (i + 1))))) ∨
    (decide ((i : Int) < ((l.map sc).length : Int)) = false ∧ idxFrom v 0 l = -1) := by
  rcases Nat.lt_or_ge i l.length with h | h
  · refine .inl ⟨l[i], by rw [List.getElem?_map, List.getElem?_eq_getElem h]; rfl, h, by simpa using h, wrap_id (by omega) (by omega), ?_⟩
    have e : idxFrom v i (l.drop i) = if v = l[i] then (i : Int) else idxFrom v (i + 1) (l.drop (i + 1)) := by rw [List.drop_eq_getElem_cons h]; rfl
    rw [hJ.2, e]
    by_cases hv : v = l[i]
    · exact .inl ⟨decide_eq_true hv, if_pos hv⟩
    · exact .inr ⟨decide_eq_false hv, if_neg hv⟩
  · refine .inr ⟨by simpa using h, ?_⟩
    rw [hJ.2, List.drop_of_length_le h]; rfl
set_option maxHeartbeats 4000000 in
/-- slices.Index[[]string,string] -/
theorem slices_Index (l : List ByteArray) (v : ByteArray) (hl : l.length ≤ 9223372036854775807) : Fn Tryd.prog G 141 [.sl 1 false (l.map sc), .str v] (.int .i64 (idxFrom v 0 l)) := by
  refine Fn_run (T := tt) (N := 19) (rs := [.tmp 4]) (fun vs w => by simp) Tryd.func141 rfl rfl rfl rfl (by kernel_rfl) (all_pure rfl) (closed2_pure _ rfl) ?_
  repeat' first
    | refine Ok_run env rfl ?_
    | (refine Ok_loop (α := Nat) (fun i => i ≤ l.length ∧ idxFrom v 0 l = idxFrom v i (l.drop i)) (fun i => l.length - i) (fun i => [(8, .int .i64 i)]) (fun _ => []) (0) (fun _ => rfl) (fun _ => rfl) (⟨Nat.zero_le _, rfl⟩) ?_ ?_ (fun i hJ => ?_); (· simp [leFT, leV, leOs, leO, leC, rho, AV.ren, AV.ren1, AV.un, AV.un1, AV.closed]); (· simp [leFT, leV, leOs, leO, leC, rho, AV.ren, AV.ren1, AV.un, AV.un1, AV.closed]); rcases idx_turn v l i hl hJ with ⟨m, hm, hlt, hb, hw, ⟨g1, he⟩ | ⟨g1, he⟩⟩ | ⟨hb, he⟩)
    | refine Ok_lret rfl ?_
    | refine Ok_lexit rfl rfl ?_
    | (refine Ok_back (i + 1) ?_ ?_ ?_ ?_; (· exact ⟨by omega, he⟩); (· omega); (· (simp only [hw]; simp [leFT, leV, leOs, leO, leC, rho, AV.ren, AV.ren1, AV.un, AV.un1, AV.closed])); (· simp [leFT, leV, leOs, leO, leC, rho, AV.ren, AV.ren1, AV.un, AV.un1, AV.closed]))
    | (refine Ok_guard_t1 ?_ ?_; (· simp only [hb]))
    | (refine Ok_guard_t0 ?_ ?_; (· simp only [hb]))
    | (refine Ok_guard_f0 ?_ ?_; (· simp only [hb]))
    | (refine Ok_guard_f1 ?_ ?_; (· simp only [hb]))
    | (refine Ok_cond_t ?_ ?_; (· simp only [hb]))
    | (refine Ok_cond_f ?_ ?_; (· simp only [hb]))
    | (refine Ok_guard_t1 ?_ ?_; (· simp only [g1]))
    | (refine Ok_guard_t0 ?_ ?_; (· simp only [g1]))
    | (refine Ok_guard_f0 ?_ ?_; (· simp only [g1]))
    | (refine Ok_guard_f1 ?_ ?_; (· simp only [g1]))
    | (refine Ok_cond_t ?_ ?_; (· simp only [g1]))
    | (refine Ok_cond_f ?_ ?_; (· simp only [g1]))
    | refine Ok_ix env rfl rfl rfl rfl rfl hm ?_
    | refine Ok_guard_t (fun h => ?_) (fun h => ?_)
    | refine Ok_guard_f (fun h => ?_) (fun h => ?_)
    | refine Ok_cond (fun h => ?_) (fun h => ?_)
    | refine Ok_fin env rfl rfl (told_eq ?_)
    | refine Ok_fin_n env rfl (told_eq ?_)
  all_goals refine int_eq ?_
  all_goals simp only [he]
set_option maxHeartbeats 4000000 in
/-- slices.Contains[[]string,string] -/
theorem slices_Contains (l : List ByteArray) (v : ByteArray) (hl : l.length ≤ 9223372036854775807) : Fn Tryd.prog G 129 [.sl 1 false (l.map sc), .str v] (.bool (memB v l)) := by
  refine Fn_run (T := tt) (N := 9) (rs := [.tmp 4]) (fun vs w => by simp) Tryd.func129 rfl rfl rfl rfl (by kernel_rfl) (all_pure rfl) (closed2_pure _ rfl) ?_
  repeat' first
    | refine Ok_run env rfl ?_
    | refine Ok_call (slices_Index _ _ hl) ?_
    | refine Ok_guard_t (fun h => ?_) (fun h => ?_)
    | refine Ok_guard_f (fun h => ?_) (fun h => ?_)
    | refine Ok_cond (fun h => ?_) (fun h => ?_)
    | refine Ok_fin env rfl rfl (told_eq ?_)
    | refine Ok_fin_n env rfl (told_eq ?_)
  all_goals refine bool_eq ?_
  all_goals exact idx_mem v l 0
theorem words_len : ∀ k : Nat, k < 27 → (shapes.getD k ⟨[], (0, 0), 0, [], 0⟩).words.length ≤ 8 := by decide
set_option maxHeartbeats 4000000 in
/-- treemerge/grammar.spelled -/
theorem grammar_spelled (n : Node) (hkn : known n.kind = true) : Fn Tryd.prog G 115 [.agg (cellsN n)] (.bool (spelledOk n)) := by
  have kb := known_in hkn
  have h0 : 0 ≤ n.kind := by omega
  have h2 : n.kind.toNat < 27 := by omega
  have hg := g0_take n.kind h2
  have hw : (shapeAt n.kind).words.length ≤ 9223372036854775807 := Nat.le_trans (words_len n.kind.toNat h2) (by decide)
  refine Fn_run (T := tt) (N := 22) (rs := [.tmp 2]) (fun vs w => by simp) Tryd.func115 rfl rfl rfl rfl (by kernel_rfl) (all_pure rfl) (closed2_pure _ rfl) ?_
  repeat' first
    | refine Ok_run env rfl ?_
    | refine Ok_ixa env rfl rfl rfl rfl h0 h2 hg ?_
    | refine Ok_call (slices_Contains _ _ hw) ?_
    | refine Ok_guard_t (fun h => ?_) (fun h => ?_)
    | refine Ok_guard_f (fun h => ?_) (fun h => ?_)
    | refine Ok_cond (fun h => ?_) (fun h => ?_)
    | refine Ok_fin env rfl rfl (told_eq ?_)
    | refine Ok_fin_n env rfl (told_eq ?_)
  all_goals refine bool_eq ?_
  all_goals simp_all [spelledOk]
set_option maxHeartbeats 4000000 in
/-- treemerge/grammar.called -/
theorem grammar_called (n : Node) (hkn : known n.kind = true) : Fn Tryd.prog G 117 [.agg (cellsN n)] (.bool (calledOk n)) := by
  have kb := known_in hkn
  have h0 : 0 ≤ n.kind := by omega
  have h2 : n.kind.toNat < 27 := by omega
  have hg := g0_take n.kind h2
  refine Fn_run (T := tt) (N := 23) (rs := [.tmp 2]) (fun vs w => by simp) Tryd.func117 rfl rfl rfl rfl (by kernel_rfl) (all_pure rfl) (closed2_pure _ rfl) ?_
  repeat' first
    | refine Ok_run env rfl ?_
    | refine Ok_ixa env rfl rfl rfl rfl h0 h2 hg ?_
    | refine Ok_call (name_Valid _) ?_
    | refine Ok_call (grammar_integer _) ?_
    | refine Ok_guard_t (fun h => ?_) (fun h => ?_)
    | refine Ok_guard_f (fun h => ?_) (fun h => ?_)
    | refine Ok_cond (fun h => ?_) (fun h => ?_)
    | refine Ok_fin env rfl rfl (told_eq ?_)
    | refine Ok_fin_n env rfl (told_eq ?_)
  all_goals refine bool_eq ?_
  all_goals simp_all [calledOk]
theorem first_len : ∀ k : Nat, k < 27 → (k = 24 → (shapes.getD k ⟨[], (0, 0), 0, [], 0⟩).first.length = 2) ∧ (k = 25 ∨ k = 21 → (shapes.getD k ⟨[], (0, 0), 0, [], 0⟩).first.length = 1) := by decide
theorem kids_least (n : Node) (h : kidsOk n = true) (hkn : known n.kind = true) : (n.kind = 24 → ∃ a b, n.kids[0]? = some a ∧ n.kids[1]? = some b ∧ kid n 0 = a ∧ kid n 1 = b) ∧ (n.kind = 25 ∨ n.kind = 21 → ∃ a, n.kids[0]? = some a ∧ kid n 0 = a) := by
  have kb := known_in hkn
  have hf := first_len n.kind.toNat (by omega)
  have hk : n.kind ≠ 14 → (shapeAt n.kind).first.length ≤ n.kids.length := by
    intro hne
    unfold kidsOk at h
    rw [if_neg (by omega)] at h
    split at h
    · cases h
    · omega
  have hs : (shapeAt n.kind).first = (shapes.getD n.kind.toNat ⟨[], (0, 0), 0, [], 0⟩).first := rfl
  constructor
  · intro hk24
    have h2 := hk (by omega)
    rw [hs, hf.1 (by omega)] at h2
    refine ⟨n.kids[0], n.kids[1], List.getElem?_eq_getElem (by omega), List.getElem?_eq_getElem (by omega), ?_, ?_⟩
    · unfold kid; rw [List.getD_eq_getElem?_getD, List.getElem?_eq_getElem (by omega)]; rfl
    · unfold kid; rw [List.getD_eq_getElem?_getD, List.getElem?_eq_getElem (by omega)]; rfl
  · intro hk2
    have h2 := hk (by omega)
    rw [hs, hf.2 (by omega)] at h2
    refine ⟨n.kids[0], List.getElem?_eq_getElem (by omega), ?_⟩
    unfold kid; rw [List.getD_eq_getElem?_getD, List.getElem?_eq_getElem (by omega)]; rfl
set_option maxHeartbeats 4000000 in
/-- levels -/
theorem grammar_levels (n : Node) (hk0 : (n.kind = 24 → ∃ a b, n.kids[0]? = some a ∧ n.kids[1]? = some b ∧ kid n 0 = a ∧ kid n 1 = b) ∧ (n.kind = 25 ∨ n.kind = 21 → ∃ a, n.kids[0]? = some a ∧ kid n 0 = a)) : Fn Tryd.prog G 116 [.agg (cellsN n)] (.bool (levelsOk n)) := by
  by_cases hb : n.kind = 24
  case pos =>
    obtain ⟨a, b, ha, hb2, ea, eb⟩ := hk0.1 hb
    have d1 : decide (n.kind = 24) = true := decide_eq_true hb
    refine Fn_run (T := tt) (N := 51) (rs := [.tmp 2]) (fun vs w => by simp) Tryd.func116 rfl rfl rfl rfl (by kernel_rfl) (all_pure rfl) (closed2_pure _ rfl) ?_
    repeat' first
      | refine Ok_run env rfl ?_
      | (refine Ok_guard_t1 ?_ ?_; (· simp only [d1]))
      | (refine Ok_guard_t0 ?_ ?_; (· simp only [d1]))
      | (refine Ok_guard_f0 ?_ ?_; (· simp only [d1]))
      | (refine Ok_guard_f1 ?_ ?_; (· simp only [d1]))
      | (refine Ok_cond_t ?_ ?_; (· simp only [d1]))
      | (refine Ok_cond_f ?_ ?_; (· simp only [d1]))
      | refine Ok_ix env rfl rfl rfl rfl (m := 0) rfl (kid_at ha) ?_
      | refine Ok_ix env rfl rfl rfl rfl (m := 1) rfl (kid_at hb2) ?_
      | refine Ok_call (grammar_Level _) ?_
      | refine Ok_guard_t (fun h => ?_) (fun h => ?_)
      | refine Ok_guard_f (fun h => ?_) (fun h => ?_)
      | refine Ok_cond (fun h => ?_) (fun h => ?_)
      | refine Ok_fin env rfl rfl (told_eq ?_)
      | refine Ok_fin_n env rfl (told_eq ?_)
    all_goals refine bool_eq ?_
    all_goals (simp_all [levelsOk])
    all_goals (try omega)
  have d1 : decide (n.kind = 24) = false := decide_eq_false hb
  by_cases hu : n.kind = 25 ∨ n.kind = 21
  case pos =>
    obtain ⟨a, ha, ea⟩ := hk0.2 hu
    refine Fn_run (T := tt) (N := 51) (rs := [.tmp 2]) (fun vs w => by simp) Tryd.func116 rfl rfl rfl rfl (by kernel_rfl) (all_pure rfl) (closed2_pure _ rfl) ?_
    repeat' first
      | refine Ok_run env rfl ?_
      | (refine Ok_guard_t1 ?_ ?_; (· simp only [d1]))
      | (refine Ok_guard_t0 ?_ ?_; (· simp only [d1]))
      | (refine Ok_guard_f0 ?_ ?_; (· simp only [d1]))
      | (refine Ok_guard_f1 ?_ ?_; (· simp only [d1]))
      | (refine Ok_cond_t ?_ ?_; (· simp only [d1]))
      | (refine Ok_cond_f ?_ ?_; (· simp only [d1]))
      | refine Ok_ix env rfl rfl rfl rfl (m := 0) rfl (kid_at ha) ?_
      | refine Ok_call (grammar_Level _) ?_
      | refine Ok_guard_t (fun h => ?_) (fun h => ?_)
      | refine Ok_guard_f (fun h => ?_) (fun h => ?_)
      | refine Ok_cond (fun h => ?_) (fun h => ?_)
      | refine Ok_fin env rfl rfl (told_eq ?_)
      | refine Ok_fin_n env rfl (told_eq ?_)
    all_goals refine bool_eq ?_
    all_goals (simp_all [levelsOk])
    all_goals (try omega)
  have d2 : decide (n.kind = 25) = false := decide_eq_false (fun e => hu (.inl e))
  have d3 : decide (n.kind = 21) = false := decide_eq_false (fun e => hu (.inr e))
  refine Fn_run (T := tt) (N := 51) (rs := [.tmp 2]) (fun vs w => by simp) Tryd.func116 rfl rfl rfl rfl (by kernel_rfl) (all_pure rfl) (closed2_pure _ rfl) ?_
  repeat' first
    | refine Ok_run env rfl ?_
    | (refine Ok_guard_t1 ?_ ?_; (· simp only [d1]))
    | (refine Ok_guard_t0 ?_ ?_; (· simp only [d1]))
    | (refine Ok_guard_f0 ?_ ?_; (· simp only [d1]))
    | (refine Ok_guard_f1 ?_ ?_; (· simp only [d1]))
    | (refine Ok_cond_t ?_ ?_; (· simp only [d1]))
    | (refine Ok_cond_f ?_ ?_; (· simp only [d1]))
    | (refine Ok_guard_t1 ?_ ?_; (· simp only [d2]))
    | (refine Ok_guard_t0 ?_ ?_; (· simp only [d2]))
    | (refine Ok_guard_f0 ?_ ?_; (· simp only [d2]))
    | (refine Ok_guard_f1 ?_ ?_; (· simp only [d2]))
    | (refine Ok_cond_t ?_ ?_; (· simp only [d2]))
    | (refine Ok_cond_f ?_ ?_; (· simp only [d2]))
    | (refine Ok_guard_t1 ?_ ?_; (· simp only [d3]))
    | (refine Ok_guard_t0 ?_ ?_; (· simp only [d3]))
    | (refine Ok_guard_f0 ?_ ?_; (· simp only [d3]))
    | (refine Ok_guard_f1 ?_ ?_; (· simp only [d3]))
    | (refine Ok_cond_t ?_ ?_; (· simp only [d3]))
    | (refine Ok_cond_f ?_ ?_; (· simp only [d3]))
    | refine Ok_call (grammar_Level _) ?_
    | refine Ok_guard_t (fun h => ?_) (fun h => ?_)
    | refine Ok_guard_f (fun h => ?_) (fun h => ?_)
    | refine Ok_cond (fun h => ?_) (fun h => ?_)
    | refine Ok_fin env rfl rfl (told_eq ?_)
    | refine Ok_fin_n env rfl (told_eq ?_)
  all_goals refine bool_eq ?_
  all_goals (simp_all [levelsOk])
set_option maxHeartbeats 4000000 in
/-- levels -/
theorem R7_levels (n : Node) (hk0 : (n.kind = 24 → ∃ a b, n.kids[0]? = some a ∧ n.kids[1]? = some b ∧ kid n 0 = a ∧ kid n 1 = b) ∧ (n.kind = 25 ∨ n.kind = 21 → ∃ a, n.kids[0]? = some a ∧ kid n 0 = a)) : Fn Tryd.prog G 121 [.agg (cellsN n)] (.bool (levelsOk n)) := by
  by_cases hb : n.kind = 24
  case pos =>
    obtain ⟨a, b, ha, hb2, ea, eb⟩ := hk0.1 hb
    have d1 : decide (n.kind = 24) = true := decide_eq_true hb
    refine Fn_run (T := tt) (N := 52) (rs := [.tmp 2]) (fun vs w => by simp) Tryd.func121 rfl rfl rfl rfl (by kernel_rfl) (all_pure rfl) (closed2_pure _ rfl) ?_
    repeat' first
      | refine Ok_run env rfl ?_
      | (refine Ok_guard_t1 ?_ ?_; (· simp only [d1]))
      | (refine Ok_guard_t0 ?_ ?_; (· simp only [d1]))
      | (refine Ok_guard_f0 ?_ ?_; (· simp only [d1]))
      | (refine Ok_guard_f1 ?_ ?_; (· simp only [d1]))
      | (refine Ok_cond_t ?_ ?_; (· simp only [d1]))
      | (refine Ok_cond_f ?_ ?_; (· simp only [d1]))
      | refine Ok_ix env rfl rfl rfl rfl (m := 0) rfl (kid_at ha) ?_
      | refine Ok_ix env rfl rfl rfl rfl (m := 1) rfl (kid_at hb2) ?_
      | refine Ok_call (R7_Level _) ?_
      | refine Ok_guard_t (fun h => ?_) (fun h => ?_)
      | refine Ok_guard_f (fun h => ?_) (fun h => ?_)
      | refine Ok_cond (fun h => ?_) (fun h => ?_)
      | refine Ok_fin env rfl rfl (told_eq ?_)
      | refine Ok_fin_n env rfl (told_eq ?_)
    all_goals refine bool_eq ?_
    all_goals (simp_all [levelsOk])
    all_goals (try omega)
  have d1 : decide (n.kind = 24) = false := decide_eq_false hb
  by_cases hu : n.kind = 25 ∨ n.kind = 21
  case pos =>
    obtain ⟨a, ha, ea⟩ := hk0.2 hu
    refine Fn_run (T := tt) (N := 52) (rs := [.tmp 2]) (fun vs w => by simp) Tryd.func121 rfl rfl rfl rfl (by kernel_rfl) (all_pure rfl) (closed2_pure _ rfl) ?_
    repeat' first
      | refine Ok_run env rfl ?_
      | (refine Ok_guard_t1 ?_ ?_; (· simp only [d1]))
      | (refine Ok_guard_t0 ?_ ?_; (· simp only [d1]))
      | (refine Ok_guard_f0 ?_ ?_; (· simp only [d1]))
      | (refine Ok_guard_f1 ?_ ?_; (· simp only [d1]))
      | (refine Ok_cond_t ?_ ?_; (· simp only [d1]))
      | (refine Ok_cond_f ?_ ?_; (· simp only [d1]))
      | refine Ok_ix env rfl rfl rfl rfl (m := 0) rfl (kid_at ha) ?_
      | refine Ok_call (R7_Level _) ?_
      | refine Ok_guard_t (fun h => ?_) (fun h => ?_)
      | refine Ok_guard_f (fun h => ?_) (fun h => ?_)
      | refine Ok_cond (fun h => ?_) (fun h => ?_)
      | refine Ok_fin env rfl rfl (told_eq ?_)
      | refine Ok_fin_n env rfl (told_eq ?_)
    all_goals refine bool_eq ?_
    all_goals (simp_all [levelsOk])
    all_goals (try omega)
  have d2 : decide (n.kind = 25) = false := decide_eq_false (fun e => hu (.inl e))
  have d3 : decide (n.kind = 21) = false := decide_eq_false (fun e => hu (.inr e))
  refine Fn_run (T := tt) (N := 52) (rs := [.tmp 2]) (fun vs w => by simp) Tryd.func121 rfl rfl rfl rfl (by kernel_rfl) (all_pure rfl) (closed2_pure _ rfl) ?_
  repeat' first
    | refine Ok_run env rfl ?_
    | (refine Ok_guard_t1 ?_ ?_; (· simp only [d1]))
    | (refine Ok_guard_t0 ?_ ?_; (· simp only [d1]))
    | (refine Ok_guard_f0 ?_ ?_; (· simp only [d1]))
    | (refine Ok_guard_f1 ?_ ?_; (· simp only [d1]))
    | (refine Ok_cond_t ?_ ?_; (· simp only [d1]))
    | (refine Ok_cond_f ?_ ?_; (· simp only [d1]))
    | (refine Ok_guard_t1 ?_ ?_; (· simp only [d2]))
    | (refine Ok_guard_t0 ?_ ?_; (· simp only [d2]))
    | (refine Ok_guard_f0 ?_ ?_; (· simp only [d2]))
    | (refine Ok_guard_f1 ?_ ?_; (· simp only [d2]))
    | (refine Ok_cond_t ?_ ?_; (· simp only [d2]))
    | (refine Ok_cond_f ?_ ?_; (· simp only [d2]))
    | (refine Ok_guard_t1 ?_ ?_; (· simp only [d3]))
    | (refine Ok_guard_t0 ?_ ?_; (· simp only [d3]))
    | (refine Ok_guard_f0 ?_ ?_; (· simp only [d3]))
    | (refine Ok_guard_f1 ?_ ?_; (· simp only [d3]))
    | (refine Ok_cond_t ?_ ?_; (· simp only [d3]))
    | (refine Ok_cond_f ?_ ?_; (· simp only [d3]))
    | refine Ok_call (R7_Level _) ?_
    | refine Ok_guard_t (fun h => ?_) (fun h => ?_)
    | refine Ok_guard_f (fun h => ?_) (fun h => ?_)
    | refine Ok_cond (fun h => ?_) (fun h => ?_)
    | refine Ok_fin env rfl rfl (told_eq ?_)
    | refine Ok_fin_n env rfl (told_eq ?_)
  all_goals refine bool_eq ?_
  all_goals (simp_all [levelsOk])
theorem gap_mem {l : List ByteArray} {i : Nat} {g : ByteArray} (h : l[i]? = some g) : g ∈ l := List.mem_of_getElem? h
set_option maxHeartbeats 4000000 in
/-- treemerge/grammar.gaps -/
theorem grammar_gaps (n : Node) (hk : n.gaps.length ≤ 9223372036854775807) (hkk : n.kids.length ≤ 9223372036854775807) (hs : ∀ g ∈ n.gaps, g.size ≤ 9223372036854775807) : Fn Tryd.prog G 118 [.agg (cellsN n)] (.bool (gapsOk n)) := by
  refine Fn_run (T := tt) (N := 26) (rs := [.tmp 2]) (fun vs w => by simp) Tryd.func118 rfl rfl rfl rfl (by kernel_rfl) (all_pure rfl) (closed2_pure _ rfl) ?_
  repeat' first
    | refine Ok_run env rfl ?_
    | (refine Ok_loop (α := Nat) (fun i => i ≤ (n.gaps).length ∧ allFrom (fun _ g => trivValid g) 0 (n.gaps) = allFrom (fun _ g => trivValid g) i ((n.gaps).drop i)) (fun i => (n.gaps).length - i) (fun i => [(12, .int .i64 i)]) (fun _ => []) (0) (fun _ => rfl) (fun _ => rfl) (⟨Nat.zero_le _, rfl⟩) ?_ ?_ (fun i hJ => ?_); (· simp [leFT, leV, leOs, leO, leC, rho, AV.ren, AV.ren1, AV.un, AV.un1, AV.closed]); (· simp [leFT, leV, leOs, leO, leC, rho, AV.ren, AV.ren1, AV.un, AV.un1, AV.closed]); rcases all_turn (fun _ g => trivValid g) (n.gaps) (sc) i hk hJ with ⟨m, hm, hlt, hb, hw, he⟩ | ⟨hb, he⟩)
    | refine Ok_lret rfl ?_
    | refine Ok_lexit rfl rfl ?_
    | (refine Ok_back (i + 1) ?_ ?_ ?_ ?_; (· exact ⟨by omega, by simp_all⟩); (· omega); (· simp [leFT, leV, leOs, leO, leC, rho, AV.ren, AV.ren1, AV.un, AV.un1, AV.closed, hw]); (· simp [leFT, leV, leOs, leO, leC, rho, AV.ren, AV.ren1, AV.un, AV.un1, AV.closed]))
    | (refine Ok_guard_t1 ?_ ?_; (· simp only [hb]))
    | (refine Ok_guard_t0 ?_ ?_; (· simp only [hb]))
    | (refine Ok_guard_f0 ?_ ?_; (· simp only [hb]))
    | (refine Ok_guard_f1 ?_ ?_; (· simp only [hb]))
    | (refine Ok_cond_t ?_ ?_; (· simp only [hb]))
    | (refine Ok_cond_f ?_ ?_; (· simp only [hb]))
    | refine Ok_ix env rfl rfl rfl rfl rfl (gap_at hm) ?_
    | refine Ok_call (trivia_Valid _ (hs _ (gap_mem hm))) ?_
    | refine Ok_call (grammar_Own _ hkk) ?_
    | refine Ok_guard_t (fun h => ?_) (fun h => ?_)
    | refine Ok_guard_f (fun h => ?_) (fun h => ?_)
    | refine Ok_cond (fun h => ?_) (fun h => ?_)
    | refine Ok_fin env rfl rfl (told_eq ?_)
    | refine Ok_fin_n env rfl (told_eq ?_)
  all_goals refine bool_eq ?_
  all_goals simp_all [gapsOk, gapsAll]
end Go.Proofs.YtimdjillcaichaaDoorW.Ex.Gr
