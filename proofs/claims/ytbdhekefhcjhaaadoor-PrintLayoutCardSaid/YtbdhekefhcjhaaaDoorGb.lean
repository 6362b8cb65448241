/- The grammar's functions on numbers: kinds and groups. No conditions beside those in each theorem. -/
import Derived.Test.YtbdhekefhcjhaaaDoorGa
namespace Go.Proofs.YtbdhekefhcjhaaaDoorW.Ex.Gr
open Go Go.Proofs.YtbdhekefhcjhaaaDoorW.Ex
set_option linter.all false
set_option maxRecDepth 100000
/-- One turn of a loop over a list that looks for one that is not so. -/
theorem Jy {α : Type} (p : Nat → α → Bool) (l : List α) (C : α → List AV) (i : Nat) (hl : l.length ≤ 9223372036854775807) (hJ : i ≤ l.length ∧ jw p 0 l = jw p i (l.drop i)) :
 (∃ m, l[i]? = some m ∧ i < l.length ∧ decide ((i : Int) < ((l.map C).length : Int)) = true ∧ IntKind.i64.wrap ((i : Int) + 1) = (i : Int) + 1 ∧ jw p 0 l = (p i m && jw p (i + 1) (l.drop (i + 1)))) ∨
 (decide ((i : Int) < ((l.map C).length : Int)) = false ∧ jw p 0 l = true) := by
 rcases Nat.lt_or_ge i l.length with h | h
 ·refine .inl ⟨l[i], List.getElem?_eq_getElem h, h, by simpa using h, zv (by omega) (by omega), ?_⟩
  rw [hJ.2, List.drop_eq_getElem_cons h]
  rfl
 ·refine .inr ⟨by simpa using h, ?_⟩
  rw [hJ.2, List.drop_of_length_le h]
  rfl
set_option maxHeartbeats 4000000 in
/-- treemerge/grammar.known -/
theorem jf (k : Int) : Fn Tryd.prog G 54 [.int .i64 k] (.bool (known k)) := by
 refine zh (T := tt) (N := 9) (rs := [.tmp 2]) (fun vs w => by simp) Tryd.func54 rfl rfl rfl rfl (by kernel_rfl) (zb rfl) (qo _ rfl) ?_
 repeat' first
  | refine zl env rfl ?_
  | refine qm (fun h => ?_) (fun h => ?_)
  | refine qr (fun h => ?_) (fun h => ?_)
  | refine qg (fun h => ?_) (fun h => ?_)
  | refine zj env rfl rfl (qq ?_)
  | refine za env rfl (qq ?_)
 all_goals (first | refine ko ?_ | refine jo ?_)
 all_goals (simp_all [known])
 all_goals (try omega)
set_option maxHeartbeats 4000000 in
/-- treemerge/grammar.Group -/
theorem kz (k : Int) : Fn Tryd.prog G 40 [.int .i64 k] (.int .i64 (jk k)) := by
 refine zh (T := tt) (N := 21) (rs := [.tmp 2]) (fun vs w => by simp) Tryd.func40 rfl rfl rfl rfl (by kernel_rfl) (zb rfl) (qo _ rfl) ?_
 repeat' first
  | refine zl env rfl ?_
  | refine qm (fun h => ?_) (fun h => ?_)
  | refine qr (fun h => ?_) (fun h => ?_)
  | refine qg (fun h => ?_) (fun h => ?_)
  | refine zj env rfl rfl (qq ?_)
  | refine za env rfl (qq ?_)
 all_goals (first | refine ko ?_ | refine jo ?_)
 all_goals (simp_all [jk])
 all_goals (try omega)
set_option maxHeartbeats 4000000 in
/-- treemerge/treemergeref07.Group -/
theorem R7_Group (k : Int) : Fn Tryd.prog G 84 [.int .i64 k] (.int .i64 (jk k)) := by
 refine zh (T := tt) (N := 33) (rs := [.tmp 2]) (fun vs w => by simp) Tryd.func84 rfl rfl rfl rfl (by kernel_rfl) (zb rfl) (qo _ rfl) ?_
 repeat' first
  | refine zl env rfl ?_
  | refine qm (fun h => ?_) (fun h => ?_)
  | refine qr (fun h => ?_) (fun h => ?_)
  | refine qg (fun h => ?_) (fun h => ?_)
  | refine zj env rfl rfl (qq ?_)
  | refine za env rfl (qq ?_)
 all_goals (first | refine ko ?_ | refine jo ?_)
 all_goals (simp_all [jk])
 all_goals (try omega)
set_option maxHeartbeats 4000000 in
/-- treemerge/grammar.most -/
theorem Kw (k : Int) : Fn Tryd.prog G 53 [.int .i64 k] (.int .i64 (most k)) := by
 refine zh (T := tt) (N := 9) (rs := [.tmp 2]) (fun vs w => by simp) Tryd.func53 rfl rfl rfl rfl (by kernel_rfl) (zb rfl) (qo _ rfl) ?_
 repeat' first
  | refine zl env rfl ?_
  | refine qm (fun h => ?_) (fun h => ?_)
  | refine qr (fun h => ?_) (fun h => ?_)
  | refine qg (fun h => ?_) (fun h => ?_)
  | refine zj env rfl rfl (qq ?_)
  | refine za env rfl (qq ?_)
 all_goals (first | refine ko ?_ | refine jo ?_)
 all_goals (simp_all [most])
 all_goals (try omega)
set_option maxHeartbeats 4000000 in
/-- treemerge/treemergeref07.most -/
theorem R7_most (k : Int) : Fn Tryd.prog G 36 [.int .i64 k] (.int .i64 (most k)) := by
 refine zh (T := tt) (N := 9) (rs := [.tmp 2]) (fun vs w => by simp) Tryd.func36 rfl rfl rfl rfl (by kernel_rfl) (zb rfl) (qo _ rfl) ?_
 repeat' first
  | refine zl env rfl ?_
  | refine qm (fun h => ?_) (fun h => ?_)
  | refine qr (fun h => ?_) (fun h => ?_)
  | refine qg (fun h => ?_) (fun h => ?_)
  | refine zj env rfl rfl (qq ?_)
  | refine za env rfl (qq ?_)
 all_goals (first | refine ko ?_ | refine jo ?_)
 all_goals (simp_all [most])
 all_goals (try omega)
end Go.Proofs.YtbdhekefhcjhaaaDoorW.Ex.Gr
