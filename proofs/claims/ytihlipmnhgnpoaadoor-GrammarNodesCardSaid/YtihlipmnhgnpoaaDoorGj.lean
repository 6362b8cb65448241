/- The statements about checks, nodes and kinds return true. Conditions: those of the trees that come in (Wf). -/
import Derived.Test.YtihlipmnhgnpoaaDoorGi
namespace Go.Proofs.YtihlipmnhgnpoaaDoorW.Ex.Gr
open Go Go.Proofs.YtihlipmnhgnpoaaDoorW.Ex
set_option linter.all false
set_option maxRecDepth 100000
set_option maxHeartbeats 4000000 in
/-- treemerge/treemergelaw07.GrammarChecks -/
theorem L7_GrammarChecks (n : Node) (hwf : Wf n) : Fn Tryd.prog G 3 [.agg (cellsN n)] (.bool true) := by
  refine Fn_run (T := tt) (N := 11) (rs := [.tmp 2]) (fun vs w => by simp) Tryd.func3 rfl rfl rfl rfl (by kernel_rfl) (all_pure rfl) (closed2_pure _ rfl) ?_
  repeat' first
    | refine Ok_run env rfl ?_
    | (refine Ok_guard_t1 ?_ ?_; (· simp only [decide_true, beq_self_eq_true]))
    | (refine Ok_guard_t0 ?_ ?_; (· simp only [decide_true, beq_self_eq_true]))
    | (refine Ok_guard_f0 ?_ ?_; (· simp only [decide_true, beq_self_eq_true]))
    | (refine Ok_guard_f1 ?_ ?_; (· simp only [decide_true, beq_self_eq_true]))
    | (refine Ok_cond_t ?_ ?_; (· simp only [decide_true, beq_self_eq_true]))
    | (refine Ok_cond_f ?_ ?_; (· simp only [decide_true, beq_self_eq_true]))
    | refine Ok_call (grammar_Check n hwf) ?_
    | refine Ok_call (R7_Check n hwf) ?_
    | refine Ok_call (L7_awake) ?_
    | refine Ok_guard_t (fun h => ?_) (fun h => ?_)
    | refine Ok_guard_f (fun h => ?_) (fun h => ?_)
    | refine Ok_cond (fun h => ?_) (fun h => ?_)
    | refine Ok_fin env rfl rfl (told_eq ?_)
    | refine Ok_fin_n env rfl (told_eq ?_)
  all_goals rfl
set_option maxHeartbeats 4000000 in
/-- treemerge/treemergelaw07.GrammarNodes -/
theorem L7_GrammarNodes (n : Node) (hwf : Wf n) : Fn Tryd.prog G 4 [.agg (cellsN n)] (.bool true) := by
  have hk : n.kids.length ≤ 9223372036854775807 := by cases hwf; assumption
  refine Fn_run (T := tt) (N := 18) (rs := [.tmp 2]) (fun vs w => by simp) Tryd.func4 rfl rfl rfl rfl (by kernel_rfl) (all_pure rfl) (closed2_pure _ rfl) ?_
  repeat' first
    | refine Ok_run env rfl ?_
    | (refine Ok_guard_t1 ?_ ?_; (· simp only [decide_true, beq_self_eq_true]))
    | (refine Ok_guard_t0 ?_ ?_; (· simp only [decide_true, beq_self_eq_true]))
    | (refine Ok_guard_f0 ?_ ?_; (· simp only [decide_true, beq_self_eq_true]))
    | (refine Ok_guard_f1 ?_ ?_; (· simp only [decide_true, beq_self_eq_true]))
    | (refine Ok_cond_t ?_ ?_; (· simp only [decide_true, beq_self_eq_true]))
    | (refine Ok_cond_f ?_ ?_; (· simp only [decide_true, beq_self_eq_true]))
    | refine Ok_call (grammar_Own n hk) ?_
    | refine Ok_call (R7_Own n hk) ?_
    | refine Ok_call (grammar_Level n) ?_
    | refine Ok_call (R7_Level n) ?_
    | refine Ok_call (L7_awake) ?_
    | refine Ok_guard_t (fun h => ?_) (fun h => ?_)
    | refine Ok_guard_f (fun h => ?_) (fun h => ?_)
    | refine Ok_cond (fun h => ?_) (fun h => ?_)
    | refine Ok_fin env rfl rfl (told_eq ?_)
    | refine Ok_fin_n env rfl (told_eq ?_)
  all_goals rfl
set_option maxHeartbeats 4000000 in
/-- treemerge/treemergelaw07.GrammarKinds -/
theorem L7_GrammarKinds (a b c : Int) : Fn Tryd.prog G 5 [.int .i64 a, .int .i64 b, .int .i64 c] (.bool true) := by
  refine Fn_run (T := tt) (N := 33) (rs := [.tmp 6]) (fun vs w => by simp) Tryd.func5 rfl rfl rfl rfl (by kernel_rfl) (all_pure rfl) (closed2_pure _ rfl) ?_
  repeat' first
    | refine Ok_run env rfl ?_
    | (refine Ok_guard_t1 ?_ ?_; (· simp only [decide_true, beq_self_eq_true]))
    | (refine Ok_guard_t0 ?_ ?_; (· simp only [decide_true, beq_self_eq_true]))
    | (refine Ok_guard_f0 ?_ ?_; (· simp only [decide_true, beq_self_eq_true]))
    | (refine Ok_guard_f1 ?_ ?_; (· simp only [decide_true, beq_self_eq_true]))
    | (refine Ok_cond_t ?_ ?_; (· simp only [decide_true, beq_self_eq_true]))
    | (refine Ok_cond_f ?_ ?_; (· simp only [decide_true, beq_self_eq_true]))
    | refine Ok_call (grammar_Fits _ _ _) ?_
    | refine Ok_call (R7_Fits _ _ _) ?_
    | refine Ok_call (grammar_Free _) ?_
    | refine Ok_call (R7_Free _) ?_
    | refine Ok_call (grammar_Group _) ?_
    | refine Ok_call (R7_Group _) ?_
    | refine Ok_call (L7_awake) ?_
    | refine Ok_guard_t (fun h => ?_) (fun h => ?_)
    | refine Ok_guard_f (fun h => ?_) (fun h => ?_)
    | refine Ok_cond (fun h => ?_) (fun h => ?_)
    | refine Ok_fin env rfl rfl (told_eq ?_)
    | refine Ok_fin_n env rfl (told_eq ?_)
  all_goals rfl
end Go.Proofs.YtihlipmnhgnpoaaDoorW.Ex.Gr
