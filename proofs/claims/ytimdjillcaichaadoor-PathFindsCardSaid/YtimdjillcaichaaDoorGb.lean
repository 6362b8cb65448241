/- The grammar's functions on numbers: kinds and groups. No conditions beside those in each theorem. -/
import Derived.Test.YtimdjillcaichaaDoorGa
namespace Go.Proofs.YtimdjillcaichaaDoorW.Ex.Gr
open Go Go.Proofs.YtimdjillcaichaaDoorW.Ex
set_option linter.all false
set_option maxRecDepth 100000
/-- One turn of a loop over a list that looks for one that is not so. -/
theorem all_turn {α : Type} (p : Nat → α → Bool) (l : List α) (C : α → List AV) (i : Nat) (hl : l.length ≤ 9223372036854775807) (hJ : i ≤ l.length ∧ allFrom p 0 l = allFrom p i (l.drop i)) :
    (∃ m, l[i]? = some m ∧ i < l.length ∧ decide ((i : Int) < ((l.map C).length : Int)) = true ∧ IntKind.i64.wrap ((i : Int) + 1) = (i : Int) + 1 ∧ allFrom p 0 l = (p i m && allFrom p (i + 1) (l.drop (i + 1)))) ∨
    (decide ((i : Int) < ((l.map C).length : Int)) = false ∧ allFrom p 0 l = true) := by
  rcases Nat.lt_or_ge i l.length with h | h
  · refine .inl ⟨l[i], List.getElem?_eq_getElem h, h, by simpa using h, wrap_id (by omega) (by omega), ?_⟩
    rw [hJ.2, List.drop_eq_getElem_cons h]
    rfl
  · refine .inr ⟨by simpa using h, ?_⟩
    rw [hJ.2, List.drop_of_length_le h]
    rfl
set_option maxHeartbeats 4000000 in
/-- treemerge/grammar.known -/
theorem grammar_known (k : Int) : Fn Tryd.prog G 81 [.int .i64 k] (.bool (known k)) := by
  refine Fn_run (T := tt) (N := 9) (rs := [.tmp 2]) (fun vs w => by simp) Tryd.func81 rfl rfl rfl rfl (by kernel_rfl) (all_pure rfl) (closed2_pure _ rfl) ?_
  repeat' first
    | refine Ok_run env rfl ?_
    | refine Ok_guard_t (fun h => ?_) (fun h => ?_)
    | refine Ok_guard_f (fun h => ?_) (fun h => ?_)
    | refine Ok_cond (fun h => ?_) (fun h => ?_)
    | refine Ok_fin env rfl rfl (told_eq ?_)
    | refine Ok_fin_n env rfl (told_eq ?_)
  all_goals (first | refine int_eq ?_ | refine bool_eq ?_)
  all_goals (simp_all [known])
  all_goals (try omega)
set_option maxHeartbeats 4000000 in
/-- treemerge/grammar.Group -/
theorem grammar_Group (k : Int) : Fn Tryd.prog G 82 [.int .i64 k] (.int .i64 (group k)) := by
  refine Fn_run (T := tt) (N := 21) (rs := [.tmp 2]) (fun vs w => by simp) Tryd.func82 rfl rfl rfl rfl (by kernel_rfl) (all_pure rfl) (closed2_pure _ rfl) ?_
  repeat' first
    | refine Ok_run env rfl ?_
    | refine Ok_guard_t (fun h => ?_) (fun h => ?_)
    | refine Ok_guard_f (fun h => ?_) (fun h => ?_)
    | refine Ok_cond (fun h => ?_) (fun h => ?_)
    | refine Ok_fin env rfl rfl (told_eq ?_)
    | refine Ok_fin_n env rfl (told_eq ?_)
  all_goals (first | refine int_eq ?_ | refine bool_eq ?_)
  all_goals (simp_all [group])
  all_goals (try omega)
set_option maxHeartbeats 4000000 in
/-- treemerge/treemergeref07.Group -/
theorem R7_Group (k : Int) : Fn Tryd.prog G 102 [.int .i64 k] (.int .i64 (group k)) := by
  refine Fn_run (T := tt) (N := 33) (rs := [.tmp 2]) (fun vs w => by simp) Tryd.func102 rfl rfl rfl rfl (by kernel_rfl) (all_pure rfl) (closed2_pure _ rfl) ?_
  repeat' first
    | refine Ok_run env rfl ?_
    | refine Ok_guard_t (fun h => ?_) (fun h => ?_)
    | refine Ok_guard_f (fun h => ?_) (fun h => ?_)
    | refine Ok_cond (fun h => ?_) (fun h => ?_)
    | refine Ok_fin env rfl rfl (told_eq ?_)
    | refine Ok_fin_n env rfl (told_eq ?_)
  all_goals (first | refine int_eq ?_ | refine bool_eq ?_)
  all_goals (simp_all [group])
  all_goals (try omega)
set_option maxHeartbeats 4000000 in
/-- treemerge/grammar.most -/
theorem grammar_most (k : Int) : Fn Tryd.prog G 113 [.int .i64 k] (.int .i64 (most k)) := by
  refine Fn_run (T := tt) (N := 9) (rs := [.tmp 2]) (fun vs w => by simp) Tryd.func113 rfl rfl rfl rfl (by kernel_rfl) (all_pure rfl) (closed2_pure _ rfl) ?_
  repeat' first
    | refine Ok_run env rfl ?_
    | refine Ok_guard_t (fun h => ?_) (fun h => ?_)
    | refine Ok_guard_f (fun h => ?_) (fun h => ?_)
    | refine Ok_cond (fun h => ?_) (fun h => ?_)
    | refine Ok_fin env rfl rfl (told_eq ?_)
    | refine Ok_fin_n env rfl (told_eq ?_)
  all_goals (first | refine int_eq ?_ | refine bool_eq ?_)
  all_goals (simp_all [most])
  all_goals (try omega)
set_option maxHeartbeats 4000000 in
/-- treemerge/treemergeref07.most -/
theorem R7_most (k : Int) : Fn Tryd.prog G 86 [.int .i64 k] (.int .i64 (most k)) := by
  refine Fn_run (T := tt) (N := 9) (rs := [.tmp 2]) (fun vs w => by simp) Tryd.func86 rfl rfl rfl rfl (by kernel_rfl) (all_pure rfl) (closed2_pure _ rfl) ?_
  repeat' first
    | refine Ok_run env rfl ?_
    | refine Ok_guard_t (fun h => ?_) (fun h => ?_)
    | refine Ok_guard_f (fun h => ?_) (fun h => ?_)
    | refine Ok_cond (fun h => ?_) (fun h => ?_)
    | refine Ok_fin env rfl rfl (told_eq ?_)
    | refine Ok_fin_n env rfl (told_eq ?_)
  all_goals (first | refine int_eq ?_ | refine bool_eq ?_)
  all_goals (simp_all [most])
  all_goals (try omega)
end Go.Proofs.YtimdjillcaichaaDoorW.Ex.Gr
