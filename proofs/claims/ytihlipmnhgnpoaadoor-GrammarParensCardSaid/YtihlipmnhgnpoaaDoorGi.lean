/- The statements' own helpers: numbers, operators and parentheses as trees, and the chapter's examples. No conditions beside those in each theorem. -/
import Derived.Test.YtihlipmnhgnpoaaDoorGh
import Derived.KernelRfl
namespace Go.Proofs.YtihlipmnhgnpoaaDoorW.Ex.Gr
open Go Go.Proofs.YtihlipmnhgnpoaaDoorW.Ex
set_option linter.all false
set_option maxRecDepth 100000
def numberN (s : ByteArray) : Node := .mk 17 s [] []
def binaryN (op : ByteArray) (a b : Node) : Node := .mk 24 op [] [a, b]
def parenN (n : Node) : Node := .mk 26 ⟨#[]⟩ [] [n]
theorem wf_number {s : ByteArray} (h : s.size ≤ 9223372036854775807) : Wf (numberN s) := .mk _ (by simp [numberN, Node.kids]) (by simp [numberN, Node.gaps]) h (by simp [numberN, Node.gaps]) (by simp [numberN, Node.kids])
theorem wf_binary {op : ByteArray} {a b : Node} (h : op.size ≤ 9223372036854775807) (ha : Wf a) (hb : Wf b) : Wf (binaryN op a b) :=
  .mk _ (by simp [binaryN, Node.kids]) (by simp [binaryN, Node.gaps]) h (by simp [binaryN, Node.gaps]) (by simp [binaryN, Node.kids]; exact ⟨ha, hb⟩)
theorem wf_paren {a : Node} (ha : Wf a) : Wf (parenN a) := .mk _ (by simp [parenN, Node.kids]) (by simp [parenN, Node.gaps]) (by show (⟨#[]⟩ : ByteArray).size ≤ _; decide) (by simp [parenN, Node.gaps]) (by simp [parenN, Node.kids]; exact ha)
set_option maxHeartbeats 4000000 in
/-- treemerge/treemergelaw07.number -/
theorem L7_number (s : ByteArray) : Fn Tryd.prog G 26 [.str s] (.agg (cellsN (numberN s))) := by
  refine Fn_run (T := tt) (N := 5) (rs := [.cell 2 25]) (fun vs w => by simp) Tryd.func26 rfl rfl rfl rfl (by kernel_rfl) (all_pure rfl) (closed2_pure _ rfl) ?_
  repeat' first
    | refine Ok_run env rfl ?_
    | refine Ok_guard_t (fun h => ?_) (fun h => ?_)
    | refine Ok_guard_f (fun h => ?_) (fun h => ?_)
    | refine Ok_cond (fun h => ?_) (fun h => ?_)
    | refine Ok_fin env rfl rfl (told_wk ?_)
  all_goals simp [wkT, wk, wkL, wk1, cellsN, numberN, Node.kind, Node.text, Node.gaps, Node.kids, chunk, cells_eq]
set_option maxHeartbeats 4000000 in
/-- treemerge/treemergelaw07.binary -/
theorem L7_binary (op : ByteArray) (a b : Node) : Fn Tryd.prog G 25 [.str op, .agg (cellsN a), .agg (cellsN b)] (.agg (cellsN (binaryN op a b))) := by
  refine Fn_run (T := tt) (N := 12) (rs := [.cell 6 25]) (fun vs w => by simp) Tryd.func25 rfl rfl rfl rfl (by kernel_rfl) (all_pure rfl) (closed2_pure _ rfl) ?_
  repeat' first
    | refine Ok_run env rfl ?_
    | refine Ok_guard_t (fun h => ?_) (fun h => ?_)
    | refine Ok_guard_f (fun h => ?_) (fun h => ?_)
    | refine Ok_cond (fun h => ?_) (fun h => ?_)
    | refine Ok_fin env rfl rfl (told_wk ?_)
  all_goals simp [wkT, wk, wkL, wk1, cellsN, binaryN, Node.kind, Node.text, Node.gaps, Node.kids, chunk, cells_eq]
set_option maxHeartbeats 4000000 in
/-- treemerge/treemergelaw07.paren -/
theorem L7_paren (n : Node) : Fn Tryd.prog G 24 [.agg (cellsN n)] (.agg (cellsN (parenN n))) := by
  refine Fn_run (T := tt) (N := 6) (rs := [.cell 2 25]) (fun vs w => by simp) Tryd.func24 rfl rfl rfl rfl (by kernel_rfl) (all_pure rfl) (closed2_pure _ rfl) ?_
  repeat' first
    | refine Ok_run env rfl ?_
    | refine Ok_guard_t (fun h => ?_) (fun h => ?_)
    | refine Ok_guard_f (fun h => ?_) (fun h => ?_)
    | refine Ok_cond (fun h => ?_) (fun h => ?_)
    | refine Ok_fin env rfl rfl (told_wk ?_)
  all_goals simp [wkT, wk, wkL, wk1, cellsN, parenN, Node.kind, Node.text, Node.gaps, Node.kids, chunk, cells_eq]
def sumN : Node := binaryN ⟨#[43]⟩ (numberN ⟨#[49]⟩) (numberN ⟨#[50]⟩)
def goodN : Node := binaryN ⟨#[42]⟩ (parenN sumN) (numberN ⟨#[51]⟩)
def badN : Node := binaryN ⟨#[42]⟩ sumN (numberN ⟨#[51]⟩)
def callN : Node := .mk 20 ⟨#[102]⟩ [] [sumN, sumN, sumN]
theorem wf_sum : Wf sumN := wf_binary (by decide) (wf_number (by decide)) (wf_number (by decide))
theorem wf_good : Wf goodN := wf_binary (by decide) (wf_paren wf_sum) (wf_number (by decide))
theorem wf_bad : Wf badN := wf_binary (by decide) wf_sum (wf_number (by decide))
theorem aw1 : decide (checkErr goodN = 0) = true := by kernel_rfl
theorem aw2 : decide (checkErr badN = 7) = true := by kernel_rfl
theorem aw3 : decide (checkErr (numberN ⟨#[48, 48, 55]⟩) = 4) = true := by kernel_rfl
theorem aw4 : decide (own callN = 5) = true := by kernel_rfl
theorem aw5 : decide (level sumN = 4) = true := by kernel_rfl
theorem aw6 : decide (group 13 = 2) = true := by kernel_rfl
theorem aw7 : free 7 = true := by kernel_rfl
theorem aw8 : fits 7 3 2 = true := by kernel_rfl
theorem aw9 : fits 7 0 2 = false := by kernel_rfl
set_option maxHeartbeats 4000000 in
/-- treemerge/treemergelaw07.awake -/
theorem L7_awake  : Fn Tryd.prog G 12 [] (.bool true) := by
  refine Fn_run (T := tt) (N := 57) (rs := [.tmp 0]) (fun vs w => by simp) Tryd.func12 rfl rfl rfl rfl (by kernel_rfl) (by simp) (closed2_pure _ rfl) ?_
  repeat' first
    | refine Ok_run env rfl ?_
    | (refine Ok_call (Fn.wk (grammar_Own callN ?_) ?_) ?_; (· decide); (· simp [wkLs, wk, wkL, wk1, cellsN, callN, sumN, binaryN, Node.kind, Node.text, Node.gaps, Node.kids, chunk, cells_eq]))
    | (refine Ok_guard_t1 ?_ ?_; (· simp only [aw1, Bool.not_true, Bool.not_false]))
    | (refine Ok_guard_t0 ?_ ?_; (· simp only [aw1, Bool.not_true, Bool.not_false]))
    | (refine Ok_guard_f0 ?_ ?_; (· simp only [aw1, Bool.not_true, Bool.not_false]))
    | (refine Ok_guard_f1 ?_ ?_; (· simp only [aw1, Bool.not_true, Bool.not_false]))
    | (refine Ok_cond_t ?_ ?_; (· simp only [aw1, Bool.not_true, Bool.not_false]))
    | (refine Ok_cond_f ?_ ?_; (· simp only [aw1, Bool.not_true, Bool.not_false]))
    | (refine Ok_guard_t1 ?_ ?_; (· simp only [aw2, Bool.not_true, Bool.not_false]))
    | (refine Ok_guard_t0 ?_ ?_; (· simp only [aw2, Bool.not_true, Bool.not_false]))
    | (refine Ok_guard_f0 ?_ ?_; (· simp only [aw2, Bool.not_true, Bool.not_false]))
    | (refine Ok_guard_f1 ?_ ?_; (· simp only [aw2, Bool.not_true, Bool.not_false]))
    | (refine Ok_cond_t ?_ ?_; (· simp only [aw2, Bool.not_true, Bool.not_false]))
    | (refine Ok_cond_f ?_ ?_; (· simp only [aw2, Bool.not_true, Bool.not_false]))
    | (refine Ok_guard_t1 ?_ ?_; (· simp only [aw3, Bool.not_true, Bool.not_false]))
    | (refine Ok_guard_t0 ?_ ?_; (· simp only [aw3, Bool.not_true, Bool.not_false]))
    | (refine Ok_guard_f0 ?_ ?_; (· simp only [aw3, Bool.not_true, Bool.not_false]))
    | (refine Ok_guard_f1 ?_ ?_; (· simp only [aw3, Bool.not_true, Bool.not_false]))
    | (refine Ok_cond_t ?_ ?_; (· simp only [aw3, Bool.not_true, Bool.not_false]))
    | (refine Ok_cond_f ?_ ?_; (· simp only [aw3, Bool.not_true, Bool.not_false]))
    | (refine Ok_guard_t1 ?_ ?_; (· simp only [aw4, Bool.not_true, Bool.not_false]))
    | (refine Ok_guard_t0 ?_ ?_; (· simp only [aw4, Bool.not_true, Bool.not_false]))
    | (refine Ok_guard_f0 ?_ ?_; (· simp only [aw4, Bool.not_true, Bool.not_false]))
    | (refine Ok_guard_f1 ?_ ?_; (· simp only [aw4, Bool.not_true, Bool.not_false]))
    | (refine Ok_cond_t ?_ ?_; (· simp only [aw4, Bool.not_true, Bool.not_false]))
    | (refine Ok_cond_f ?_ ?_; (· simp only [aw4, Bool.not_true, Bool.not_false]))
    | (refine Ok_guard_t1 ?_ ?_; (· simp only [aw5, Bool.not_true, Bool.not_false]))
    | (refine Ok_guard_t0 ?_ ?_; (· simp only [aw5, Bool.not_true, Bool.not_false]))
    | (refine Ok_guard_f0 ?_ ?_; (· simp only [aw5, Bool.not_true, Bool.not_false]))
    | (refine Ok_guard_f1 ?_ ?_; (· simp only [aw5, Bool.not_true, Bool.not_false]))
    | (refine Ok_cond_t ?_ ?_; (· simp only [aw5, Bool.not_true, Bool.not_false]))
    | (refine Ok_cond_f ?_ ?_; (· simp only [aw5, Bool.not_true, Bool.not_false]))
    | (refine Ok_guard_t1 ?_ ?_; (· simp only [aw6, Bool.not_true, Bool.not_false]))
    | (refine Ok_guard_t0 ?_ ?_; (· simp only [aw6, Bool.not_true, Bool.not_false]))
    | (refine Ok_guard_f0 ?_ ?_; (· simp only [aw6, Bool.not_true, Bool.not_false]))
    | (refine Ok_guard_f1 ?_ ?_; (· simp only [aw6, Bool.not_true, Bool.not_false]))
    | (refine Ok_cond_t ?_ ?_; (· simp only [aw6, Bool.not_true, Bool.not_false]))
    | (refine Ok_cond_f ?_ ?_; (· simp only [aw6, Bool.not_true, Bool.not_false]))
    | (refine Ok_guard_t1 ?_ ?_; (· simp only [aw7, Bool.not_true, Bool.not_false]))
    | (refine Ok_guard_t0 ?_ ?_; (· simp only [aw7, Bool.not_true, Bool.not_false]))
    | (refine Ok_guard_f0 ?_ ?_; (· simp only [aw7, Bool.not_true, Bool.not_false]))
    | (refine Ok_guard_f1 ?_ ?_; (· simp only [aw7, Bool.not_true, Bool.not_false]))
    | (refine Ok_cond_t ?_ ?_; (· simp only [aw7, Bool.not_true, Bool.not_false]))
    | (refine Ok_cond_f ?_ ?_; (· simp only [aw7, Bool.not_true, Bool.not_false]))
    | (refine Ok_guard_t1 ?_ ?_; (· simp only [aw8, Bool.not_true, Bool.not_false]))
    | (refine Ok_guard_t0 ?_ ?_; (· simp only [aw8, Bool.not_true, Bool.not_false]))
    | (refine Ok_guard_f0 ?_ ?_; (· simp only [aw8, Bool.not_true, Bool.not_false]))
    | (refine Ok_guard_f1 ?_ ?_; (· simp only [aw8, Bool.not_true, Bool.not_false]))
    | (refine Ok_cond_t ?_ ?_; (· simp only [aw8, Bool.not_true, Bool.not_false]))
    | (refine Ok_cond_f ?_ ?_; (· simp only [aw8, Bool.not_true, Bool.not_false]))
    | (refine Ok_guard_t1 ?_ ?_; (· simp only [aw9, Bool.not_true, Bool.not_false]))
    | (refine Ok_guard_t0 ?_ ?_; (· simp only [aw9, Bool.not_true, Bool.not_false]))
    | (refine Ok_guard_f0 ?_ ?_; (· simp only [aw9, Bool.not_true, Bool.not_false]))
    | (refine Ok_guard_f1 ?_ ?_; (· simp only [aw9, Bool.not_true, Bool.not_false]))
    | (refine Ok_cond_t ?_ ?_; (· simp only [aw9, Bool.not_true, Bool.not_false]))
    | (refine Ok_cond_f ?_ ?_; (· simp only [aw9, Bool.not_true, Bool.not_false]))
    | refine Ok_call (L7_number ⟨#[49]⟩) ?_
    | refine Ok_call (L7_number ⟨#[50]⟩) ?_
    | refine Ok_call (L7_number ⟨#[51]⟩) ?_
    | refine Ok_call (L7_number ⟨#[48, 48, 55]⟩) ?_
    | refine Ok_call (L7_binary ⟨#[43]⟩ (numberN ⟨#[49]⟩) (numberN ⟨#[50]⟩)) ?_
    | refine Ok_call (L7_paren sumN) ?_
    | refine Ok_call (L7_binary ⟨#[42]⟩ (parenN sumN) (numberN ⟨#[51]⟩)) ?_
    | refine Ok_call (L7_binary ⟨#[42]⟩ sumN (numberN ⟨#[51]⟩)) ?_
    | refine Ok_call (grammar_Check goodN wf_good) ?_
    | refine Ok_call (grammar_Check badN wf_bad) ?_
    | refine Ok_call (grammar_Check (numberN ⟨#[48, 48, 55]⟩) (wf_number (by decide))) ?_
    | refine Ok_call (grammar_Level sumN) ?_
    | refine Ok_call (grammar_Group _) ?_
    | refine Ok_call (grammar_Free _) ?_
    | refine Ok_call (grammar_Fits _ _ _) ?_
    | refine Ok_guard_t (fun h => ?_) (fun h => ?_)
    | refine Ok_guard_f (fun h => ?_) (fun h => ?_)
    | refine Ok_cond (fun h => ?_) (fun h => ?_)
    | refine Ok_fin env rfl rfl (told_eq ?_)
    | refine Ok_fin_n env rfl (told_eq ?_)
  all_goals rfl
end Go.Proofs.YtihlipmnhgnpoaaDoorW.Ex.Gr
