/- Paths in trees in plain words: sizes, the path of an index, the index of a path, the tree at a path. No conditions beside those in each theorem. -/
import Derived.Test.YtimcdpioclioiaaGreatDoorGa
namespace Go.Proofs.YtimcdpioclioiaaGreatDoorW.Ex.Gr
set_option linter.all false
open Go Go.Proofs.YtimcdpioclioiaaGreatDoorW.Ex
mutual
def jl : Node → Nat
 | .mk _ _ _ l => ya l + 1
def ya : List Node → Nat
 | [] => 0
 | n :: l => jl n + ya l
end
theorem vd (n : Node) : jl n = ya n.kids + 1 := by cases n; rw [jl]; rfl
theorem wr (n : Node) : 0 < jl n := by rw [vd]; omega
theorem Qm : ∀ (a b : List Node), ya (a ++ b) = ya a + ya b
 | [], b => by simp [ya]
 | n :: a, b => by rw [List.cons_append, ya, ya, Qm a b]; omega
theorem Zj : ∀ (l : List Node), l.length ≤ ya l
 | [] => Nat.le_refl _
 | n :: l => by
   have := Zj l
   have := wr n
   rw [ya, List.length_cons]; omega
end Go.Proofs.YtimcdpioclioiaaGreatDoorW.Ex.Gr
