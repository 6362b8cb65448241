/- The grammar's functions on numbers: kinds and groups. No conditions beside those in each theorem. -/
import Derived.Test.YtigmilhpeodhbaaGreatDoorGa
namespace Go.Proofs.YtigmilhpeodhbaaGreatDoorW.Ex.Gr
open Go Go.Proofs.YtigmilhpeodhbaaGreatDoorW.Ex
set_option linter.all false
set_option maxRecDepth 100000
/-- One turn of a loop over a list that looks for one that is not so. -/
theorem qgt {α : Type} (p : Nat → α → Bool) (l : List α) (C : α → List AV) (i : Nat) (hl : l.length ≤ 9223372036854775807) (hJ : i ≤ l.length ∧ Qc p 0 l = Qc p i (l.drop i)) :
 (∃ m, l[i]? = some m ∧ i < l.length ∧ decide ((i : Int) < ((l.map C).length : Int)) = true ∧ IntKind.i64.wrap ((i : Int) + 1) = (i : Int) + 1 ∧ Qc p 0 l = (p i m && Qc p (i + 1) (l.drop (i + 1)))) ∨
 (decide ((i : Int) < ((l.map C).length : Int)) = false ∧ Qc p 0 l = true) := by
 rcases Nat.lt_or_ge i l.length with h | h
 ·refine .inl ⟨l[i], List.getElem?_eq_getElem h, h, by simpa using h, j6 (by omega) (by omega), ?_⟩
  rw [hJ.2, List.drop_eq_getElem_cons h]
  rfl
 ·refine .inr ⟨by simpa using h, ?_⟩
  rw [hJ.2, List.drop_of_length_le h]
  rfl
set_option maxHeartbeats 4000000 in
/-- treemerge/grammar.known -/
theorem wd (k : Int) : Fn Tryz.prog G 82 [.int .i64 k] (.bool (known k)) := by
 refine zk (T := tt) (N := 9) (rs := [.tmp 2]) (fun vs w => by simp) Tryz.func82 rfl rfl rfl rfl (by kernel_rfl) (zl rfl) (qz _ rfl) ?_
 repeat' first
  | refine ji env rfl ?_
  | refine qr (fun h => ?_) (fun h => ?_)
  | refine qu (fun h => ?_) (fun h => ?_)
  | refine qj (fun h => ?_) (fun h => ?_)
  | refine zd env rfl rfl (q4 ?_)
  | refine zm env rfl (q4 ?_)
 all_goals (first | refine Jt ?_ | refine wy ?_)
 all_goals (simp_all [known])
 all_goals (try omega)
set_option maxHeartbeats 4000000 in
/-- treemerge/grammar.Group -/
theorem Yi (k : Int) : Fn Tryz.prog G 20 [.int .i64 k] (.int .i64 (Yq k)) := by
 refine zk (T := tt) (N := 21) (rs := [.tmp 2]) (fun vs w => by simp) Tryz.func20 rfl rfl rfl rfl (by kernel_rfl) (zl rfl) (qz _ rfl) ?_
 repeat' first
  | refine ji env rfl ?_
  | refine qr (fun h => ?_) (fun h => ?_)
  | refine qu (fun h => ?_) (fun h => ?_)
  | refine qj (fun h => ?_) (fun h => ?_)
  | refine zd env rfl rfl (q4 ?_)
  | refine zm env rfl (q4 ?_)
 all_goals (first | refine Jt ?_ | refine wy ?_)
 all_goals (simp_all [Yq])
 all_goals (try omega)
set_option maxHeartbeats 4000000 in
/-- treemerge/treemergeref07.Group -/
theorem qul (k : Int) : Fn Tryz.prog G 169 [.int .i64 k] (.int .i64 (Yq k)) := by
 refine zk (T := tt) (N := 33) (rs := [.tmp 2]) (fun vs w => by simp) Tryz.func169 rfl rfl rfl rfl (by kernel_rfl) (zl rfl) (qz _ rfl) ?_
 repeat' first
  | refine ji env rfl ?_
  | refine qr (fun h => ?_) (fun h => ?_)
  | refine qu (fun h => ?_) (fun h => ?_)
  | refine qj (fun h => ?_) (fun h => ?_)
  | refine zd env rfl rfl (q4 ?_)
  | refine zm env rfl (q4 ?_)
 all_goals (first | refine Jt ?_ | refine wy ?_)
 all_goals (simp_all [Yq])
 all_goals (try omega)
set_option maxHeartbeats 4000000 in
/-- treemerge/grammar.most -/
theorem qjk (k : Int) : Fn Tryz.prog G 81 [.int .i64 k] (.int .i64 (most k)) := by
 refine zk (T := tt) (N := 9) (rs := [.tmp 2]) (fun vs w => by simp) Tryz.func81 rfl rfl rfl rfl (by kernel_rfl) (zl rfl) (qz _ rfl) ?_
 repeat' first
  | refine ji env rfl ?_
  | refine qr (fun h => ?_) (fun h => ?_)
  | refine qu (fun h => ?_) (fun h => ?_)
  | refine qj (fun h => ?_) (fun h => ?_)
  | refine zd env rfl rfl (q4 ?_)
  | refine zm env rfl (q4 ?_)
 all_goals (first | refine Jt ?_ | refine wy ?_)
 all_goals (simp_all [most])
 all_goals (try omega)
set_option maxHeartbeats 4000000 in
/-- treemerge/treemergeref07.most -/
theorem qx8 (k : Int) : Fn Tryz.prog G 136 [.int .i64 k] (.int .i64 (most k)) := by
 refine zk (T := tt) (N := 9) (rs := [.tmp 2]) (fun vs w => by simp) Tryz.func136 rfl rfl rfl rfl (by kernel_rfl) (zl rfl) (qz _ rfl) ?_
 repeat' first
  | refine ji env rfl ?_
  | refine qr (fun h => ?_) (fun h => ?_)
  | refine qu (fun h => ?_) (fun h => ?_)
  | refine qj (fun h => ?_) (fun h => ?_)
  | refine zd env rfl rfl (q4 ?_)
  | refine zm env rfl (q4 ?_)
 all_goals (first | refine Jt ?_ | refine wy ?_)
 all_goals (simp_all [most])
 all_goals (try omega)
end Go.Proofs.YtigmilhpeodhbaaGreatDoorW.Ex.Gr
