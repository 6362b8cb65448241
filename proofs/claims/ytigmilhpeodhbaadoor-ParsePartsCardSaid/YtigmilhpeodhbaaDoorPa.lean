/- Paths in trees in plain words: sizes, the path of an index, the index of a path, the tree at a path. No conditions beside those in each theorem. -/
import Derived.Test.YtigmilhpeodhbaaDoorGa
namespace Go.Proofs.YtigmilhpeodhbaaDoorW.Ex.Gr
set_option linter.all false
open Go Go.Proofs.YtigmilhpeodhbaaDoorW.Ex
mutual
def Zv : Node → Nat
 | .mk _ _ _ l => Z7 l + 1
def Z7 : List Node → Nat
 | [] => 0
 | n :: l => Zv n + Z7 l
end
theorem qaa (n : Node) : Zv n = Z7 n.kids + 1 := by cases n; rw [Zv]; rfl
theorem W9 (n : Node) : 0 < Zv n := by rw [qaa]; omega
theorem Ww : ∀ (a b : List Node), Z7 (a ++ b) = Z7 a + Z7 b
 | [], b => by simp [Z7]
 | n :: a, b => by rw [List.cons_append, Z7, Z7, Ww a b]; omega
end Go.Proofs.YtigmilhpeodhbaaDoorW.Ex.Gr
