/- Lines and groups of kinds, as print uses them. Conditions: those in each theorem. -/
import Derived.Test.YtbdhekefhcjhaaaDoorXDb
import Derived.Test.YtbdhekefhcjhaaaDoorYa
namespace Go.Proofs.YtbdhekefhcjhaaaDoorW.Ex.Gr
open Go Go.Proofs.YtbdhekefhcjhaaaDoorW.Ex
set_option linter.all false
set_option maxRecDepth 100000
theorem repeatL_one (c : UInt8) : ∀ n : Nat, Lib.repeatL [c] n = List.replicate n c
 | 0 => rfl
 | n + 1 => by rw [Lib.repeatL, repeatL_one c n]; rfl
theorem cat_ok {a b : BA} (h : a.size + b.size ≤ 1000000000000) : cat a b = some (a ++ b) := by unfold cat; rw [if_pos (by omega)]
theorem mkBA_append (a b : List UInt8) : ((⟨a.toArray⟩ : BA) ++ (⟨b.toArray⟩ : BA)) = ⟨(a ++ b).toArray⟩ := by
 apply ByteArray.ext
 rw [ByteArray.data_append, List.append_toArray]
theorem Ya (v : Int) (h0 : 0 ≤ v) (h1 : v ≤ 1000000) : F_print_line v = some (lineP v) := by
 have e : F_strings_Repeat (⟨#[9]⟩ : BA) v = some (⟨(List.replicate v.toNat 9).toArray⟩ : BA) := by
  unfold F_strings_Repeat
  rw [if_pos ⟨h0, by omega, by show (1 : Nat) * v.toNat ≤ _; omega⟩]
  rw [show (⟨#[9]⟩ : BA).data.toList = [9] from rfl, repeatL_one]
 rw [F_print_line.eq_def, e, bs, cat_ok, bs]
 ·exact congrArg some (mkBA_append [10] (List.replicate v.toNat 9))
 ·show (1 : Nat) + (List.replicate v.toNat 9).toArray.size ≤ _
  rw [List.size_toArray, List.length_replicate]; omega
theorem group_eq {k : Int} (h : known k = true) : F_grammar_Group k = some (jk k) := by
 unfold known at h
 simp only [Bool.and_eq_true, decide_eq_true_eq] at h
 have : k = 1 ∨ k = 2 ∨ k = 3 ∨ k = 4 ∨ k = 5 ∨ k = 6 ∨ k = 7 ∨ k = 8 ∨ k = 9 ∨ k = 10 ∨ k = 11 ∨ k = 12 ∨ k = 13 ∨ k = 14 ∨ k = 15 ∨ k = 16 ∨ k = 17 ∨ k = 18 ∨ k = 19 ∨ k = 20 ∨ k = 21 ∨ k = 22 ∨ k = 23 ∨ k = 24 ∨ k = 25 ∨ k = 26 := by omega
 rcases this with rfl | rfl | rfl | rfl | rfl | rfl | rfl | rfl | rfl | rfl | rfl | rfl | rfl | rfl | rfl | rfl | rfl | rfl | rfl | rfl | rfl | rfl | rfl | rfl | rfl | rfl <;> rfl
end Go.Proofs.YtbdhekefhcjhaaaDoorW.Ex.Gr
