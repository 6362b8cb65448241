/- Paths in trees in plain words: sizes, the path of an index, the index of a path, the tree at a path. No conditions beside those in each theorem. -/
import Derived.Test.YtigmilhpeodhbaaGreatDoorGa
namespace Go.Proofs.YtigmilhpeodhbaaGreatDoorW.Ex.Gr
set_option linter.all false
open Go Go.Proofs.YtigmilhpeodhbaaGreatDoorW.Ex
mutual
def Yt : Node → Nat
 | .mk _ _ _ l => Qg l + 1
def Qg : List Node → Nat
 | [] => 0
 | n :: l => Yt n + Qg l
end
theorem qlg (n : Node) : Yt n = Qg n.kids + 1 := by cases n; rw [Yt]; rfl
theorem qo2 (n : Node) : 0 < Yt n := by rw [qlg]; omega
theorem qfv : ∀ (a b : List Node), Qg (a ++ b) = Qg a + Qg b
 | [], b => by simp [Qg]
 | n :: a, b => by rw [List.cons_append, Qg, Qg, qfv a b]; omega
theorem qc9 : ∀ (l : List Node), l.length ≤ Qg l
 | [] => Nat.le_refl _
 | n :: l => by
   have := qc9 l
   have := qo2 n
   rw [Qg, List.length_cons]; omega
end Go.Proofs.YtigmilhpeodhbaaGreatDoorW.Ex.Gr
