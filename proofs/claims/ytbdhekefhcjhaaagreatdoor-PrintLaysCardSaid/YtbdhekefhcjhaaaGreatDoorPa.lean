/- Paths in trees in plain words: sizes, the path of an index, the index of a path, the tree at a path. No conditions beside those in each theorem. -/
import Derived.Test.YtbdhekefhcjhaaaGreatDoorGa
namespace Go.Proofs.YtbdhekefhcjhaaaGreatDoorW.Ex.Gr
set_option linter.all false
open Go Go.Proofs.YtbdhekefhcjhaaaGreatDoorW.Ex
mutual
def jl : Node → Nat
 | .mk _ _ _ l => yi l + 1
def yi : List Node → Nat
 | [] => 0
 | n :: l => jl n + yi l
end
theorem w7 (n : Node) : jl n = yi n.kids + 1 := by cases n; rw [jl]; rfl
theorem wl (n : Node) : 0 < jl n := by rw [w7]; omega
theorem wm : ∀ (a b : List Node), yi (a ++ b) = yi a + yi b
 | [], b => by simp [yi]
 | n :: a, b => by rw [List.cons_append, yi, yi, wm a b]; omega
theorem v7 : ∀ (l : List Node), l.length ≤ yi l
 | [] => Nat.le_refl _
 | n :: l => by
   have := v7 l
   have := wl n
   rw [yi, List.length_cons]; omega
end Go.Proofs.YtbdhekefhcjhaaaGreatDoorW.Ex.Gr
