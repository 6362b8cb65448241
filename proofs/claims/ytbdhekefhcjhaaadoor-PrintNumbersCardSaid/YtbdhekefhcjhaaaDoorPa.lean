/- Paths in trees in plain words: sizes, the path of an index, the index of a path, the tree at a path. No conditions beside those in each theorem. -/
import Derived.Test.YtbdhekefhcjhaaaDoorGa
namespace Go.Proofs.YtbdhekefhcjhaaaDoorW.Ex.Gr
set_option linter.all false
open Go Go.Proofs.YtbdhekefhcjhaaaDoorW.Ex
mutual
def zw : Node → Nat
 | .mk _ _ _ l => jg l + 1
def jg : List Node → Nat
 | [] => 0
 | n :: l => zw n + jg l
end
theorem ye (n : Node) : zw n = jg n.kids + 1 := by cases n; rw [zw]; rfl
theorem yb (n : Node) : 0 < zw n := by rw [ye]; omega
theorem Qg : ∀ (a b : List Node), jg (a ++ b) = jg a + jg b
 | [], b => by simp [jg]
 | n :: a, b => by rw [List.cons_append, jg, jg, Qg a b]; omega
theorem uw : ∀ (l : List Node), l.length ≤ jg l
 | [] => Nat.le_refl _
 | n :: l => by
   have := uw l
   have := yb n
   rw [jg, List.length_cons]; omega
end Go.Proofs.YtbdhekefhcjhaaaDoorW.Ex.Gr
