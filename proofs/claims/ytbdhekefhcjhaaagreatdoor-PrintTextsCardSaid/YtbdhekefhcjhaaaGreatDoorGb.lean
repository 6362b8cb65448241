/- The grammar's functions on numbers: kinds and groups. No conditions beside those in each theorem. -/
import Derived.Test.YtbdhekefhcjhaaaGreatDoorGa
namespace Go.Proofs.YtbdhekefhcjhaaaGreatDoorW.Ex.Gr
open Go Go.Proofs.YtbdhekefhcjhaaaGreatDoorW.Ex
set_option linter.all false
set_option maxRecDepth 100000
/-- One turn of a loop over a list that looks for one that is not so. -/
theorem Yl {α : Type} (p : Nat → α → Bool) (l : List α) (C : α → List AV) (i : Nat) (hl : l.length ≤ 9223372036854775807) (hJ : i ≤ l.length ∧ yl p 0 l = yl p i (l.drop i)) :
 (∃ m, l[i]? = some m ∧ i < l.length ∧ decide ((i : Int) < ((l.map C).length : Int)) = true ∧ IntKind.i64.wrap ((i : Int) + 1) = (i : Int) + 1 ∧ yl p 0 l = (p i m && yl p (i + 1) (l.drop (i + 1)))) ∨
 (decide ((i : Int) < ((l.map C).length : Int)) = false ∧ yl p 0 l = true) := by
 rcases Nat.lt_or_ge i l.length with h | h
 ·refine .inl ⟨l[i], List.getElem?_eq_getElem h, h, by simpa using h, zq (by omega) (by omega), ?_⟩
  rw [hJ.2, List.drop_eq_getElem_cons h]
  rfl
 ·refine .inr ⟨by simpa using h, ?_⟩
  rw [hJ.2, List.drop_of_length_le h]
  rfl
set_option maxHeartbeats 4000000 in
/-- treemerge/grammar.known -/
theorem js (k : Int) : Fn Tryz.prog G 59 [.int .i64 k] (.bool (known k)) := by
 refine zd (T := tt) (N := 9) (rs := [.tmp 2]) (fun vs w => by simp) Tryz.func59 rfl rfl rfl rfl (by kernel_rfl) (zf rfl) (qt _ rfl) ?_
 repeat' first
  | refine zn env rfl ?_
  | refine ql (fun h => ?_) (fun h => ?_)
  | refine qr (fun h => ?_) (fun h => ?_)
  | refine qb (fun h => ?_) (fun h => ?_)
  | refine q8 env rfl rfl (qu ?_)
  | refine ze env rfl (qu ?_)
 all_goals (first | refine k7 ?_ | refine j8 ?_)
 all_goals (simp_all [known])
 all_goals (try omega)
set_option maxHeartbeats 4000000 in
/-- treemerge/grammar.Group -/
theorem wo (k : Int) : Fn Tryz.prog G 42 [.int .i64 k] (.int .i64 (jw k)) := by
 refine zd (T := tt) (N := 21) (rs := [.tmp 2]) (fun vs w => by simp) Tryz.func42 rfl rfl rfl rfl (by kernel_rfl) (zf rfl) (qt _ rfl) ?_
 repeat' first
  | refine zn env rfl ?_
  | refine ql (fun h => ?_) (fun h => ?_)
  | refine qr (fun h => ?_) (fun h => ?_)
  | refine qb (fun h => ?_) (fun h => ?_)
  | refine q8 env rfl rfl (qu ?_)
  | refine ze env rfl (qu ?_)
 all_goals (first | refine k7 ?_ | refine j8 ?_)
 all_goals (simp_all [jw])
 all_goals (try omega)
set_option maxHeartbeats 4000000 in
/-- treemerge/treemergeref07.Group -/
theorem R7_Group (k : Int) : Fn Tryz.prog G 115 [.int .i64 k] (.int .i64 (jw k)) := by
 refine zd (T := tt) (N := 33) (rs := [.tmp 2]) (fun vs w => by simp) Tryz.func115 rfl rfl rfl rfl (by kernel_rfl) (zf rfl) (qt _ rfl) ?_
 repeat' first
  | refine zn env rfl ?_
  | refine ql (fun h => ?_) (fun h => ?_)
  | refine qr (fun h => ?_) (fun h => ?_)
  | refine qb (fun h => ?_) (fun h => ?_)
  | refine q8 env rfl rfl (qu ?_)
  | refine ze env rfl (qu ?_)
 all_goals (first | refine k7 ?_ | refine j8 ?_)
 all_goals (simp_all [jw])
 all_goals (try omega)
set_option maxHeartbeats 4000000 in
/-- treemerge/grammar.most -/
theorem grammar_most (k : Int) : Fn Tryz.prog G 58 [.int .i64 k] (.int .i64 (most k)) := by
 refine zd (T := tt) (N := 9) (rs := [.tmp 2]) (fun vs w => by simp) Tryz.func58 rfl rfl rfl rfl (by kernel_rfl) (zf rfl) (qt _ rfl) ?_
 repeat' first
  | refine zn env rfl ?_
  | refine ql (fun h => ?_) (fun h => ?_)
  | refine qr (fun h => ?_) (fun h => ?_)
  | refine qb (fun h => ?_) (fun h => ?_)
  | refine q8 env rfl rfl (qu ?_)
  | refine ze env rfl (qu ?_)
 all_goals (first | refine k7 ?_ | refine j8 ?_)
 all_goals (simp_all [most])
 all_goals (try omega)
set_option maxHeartbeats 4000000 in
/-- treemerge/treemergeref07.most -/
theorem R7_most (k : Int) : Fn Tryz.prog G 70 [.int .i64 k] (.int .i64 (most k)) := by
 refine zd (T := tt) (N := 9) (rs := [.tmp 2]) (fun vs w => by simp) Tryz.func70 rfl rfl rfl rfl (by kernel_rfl) (zf rfl) (qt _ rfl) ?_
 repeat' first
  | refine zn env rfl ?_
  | refine ql (fun h => ?_) (fun h => ?_)
  | refine qr (fun h => ?_) (fun h => ?_)
  | refine qb (fun h => ?_) (fun h => ?_)
  | refine q8 env rfl rfl (qu ?_)
  | refine ze env rfl (qu ?_)
 all_goals (first | refine k7 ?_ | refine j8 ?_)
 all_goals (simp_all [most])
 all_goals (try omega)
end Go.Proofs.YtbdhekefhcjhaaaGreatDoorW.Ex.Gr
