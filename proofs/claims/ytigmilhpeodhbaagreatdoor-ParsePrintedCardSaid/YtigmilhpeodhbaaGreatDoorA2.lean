/- The reference's reader returns what is read in plain words. Conditions: those in each theorem. -/
import Derived.Test.YtigmilhpeodhbaaGreatDoorA1
namespace Go.Proofs.YtigmilhpeodhbaaGreatDoorW.Ex.Gr
open Go Go.Proofs.YtigmilhpeodhbaaGreatDoorW.Ex Go.Proofs.YtigmilhpeodhbaaGreatDoorW.Plain
set_option linter.all false
set_option maxRecDepth 100000
namespace Ps
open Tk
def idx (tk t : List Token) : Int := ((tk.length - t.length : Nat) : Int)
@[reducible] def cw {α β : Type} (tk : List Token) (d : β) (f : α → β) : Rs α → β × Int × Bool
  | .error u => (d, idx tk u, false)
  | .ok y => (f y.1, idx tk y.2, true)
@[reducible] def zN : Node := Node.mk 0 (⟨#[]⟩) ([] : LB) ([] : LN)
theorem b3 {α β γ : Type} (a : Option (α × β × γ)) : (a >>= fun x => some (x.1, x.2.1, x.2.2)) = a := by cases a <;> rfl
section
variable {tk : List Token}
theorem q5w {w : BA} {x : Token} {r : List Token} (h : isT w (x :: r) = true) (hg : Good (x :: r)) (hw : w ≠ ⟨#[]⟩) : Good r := J3 hg (by rw [of_decide_eq_true h]; exact hw)
variable {B C : List Token → Rs Node}
def limV (n : Node) : Node × Int × Int := if checkErr n = 3 then (zN, 3, 0) else (n, 0, 0)
def finV : Rs Node → Node × Int × Int
 | .error u => (zN, 1, atE u)
 | .ok y => limV y.1
end
end Ps
end Go.Proofs.YtigmilhpeodhbaaGreatDoorW.Ex.Gr
