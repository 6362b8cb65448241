/- Paths in trees in plain words: sizes, the path of an index, the index of a path, the tree at a path. No conditions beside those in each theorem. -/
import Derived.Test.YtigmilhpeodhbaaGreatDoorGa
namespace Go.Proofs.YtigmilhpeodhbaaGreatDoorW.Ex.Gr
set_option linter.all false
open Go Go.Proofs.YtigmilhpeodhbaaGreatDoorW.Ex
mutual
def wl : Node → Nat
 | .mk _ _ _ l => vt l + 1
def vt : List Node → Nat
 | [] => 0
 | n :: l => wl n + vt l
end
theorem Yg (n : Node) : wl n = vt n.kids + 1 := by cases n; rw [wl]; rfl
theorem J1 (n : Node) : 0 < wl n := by rw [Yg]; omega
theorem W7 : ∀ (a b : List Node), vt (a ++ b) = vt a + vt b
 | [], b => by simp [vt]
 | n :: a, b => by rw [List.cons_append, vt, vt, W7 a b]; omega
theorem qea : ∀ (l : List Node), l.length ≤ vt l
 | [] => Nat.le_refl _
 | n :: l => by
   have := qea l
   have := J1 n
   rw [vt, List.length_cons]; omega
end Go.Proofs.YtigmilhpeodhbaaGreatDoorW.Ex.Gr
