/- Printing a tree in plain words: the steps of a node, its tokens with their gaps, its canonical layout; and what a walk along the steps returns. Conditions: those in each theorem. -/
import Derived.Test.YtigmilhpeodhbaaGreatDoorPa
import Derived.Test.YtigmilhpeodhbaaGreatDoorExP
namespace Go.Proofs.YtigmilhpeodhbaaGreatDoorW.Ex.Gr
open Go Go.Proofs.YtigmilhpeodhbaaGreatDoorW.Ex
set_option linter.all false
set_option maxRecDepth 100000
abbrev BA := ByteArray
theorem bs {α β : Type} (a : α) (f : α → Option β) : (some a >>= f) = f a := rfl
theorem q1f {α : Type} {A B : α} : (if (true = true) then A else B) = A := rfl
theorem q1g {α : Type} {A B : α} : (if (false = true) then A else B) = B := rfl
theorem b1 {α : Type} (a : Option α) : (a >>= fun x => some x) = a := by cases a <;> rfl
theorem y9 {α : Type} {by_ : Nat} {l m : List α} (h : l.length + m.length ≤ 1000000000) (hb : by_ ≤ 100000) : app by_ l m = some (l ++ m) := by
 have : (l.length + m.length) * by_ ≤ 1000000000 * 100000 := Nat.mul_le_mul h hb
 unfold app
 rw [if_pos ⟨by omega, by omega⟩]
/-- A step: an own token with its canonical gap and its word, or the next kid with its lead and its level. -/
inductive Step where
 | own (c w : BA)
 | kid (l : BA) (v : Int)
@[reducible] def e0 : BA := ⟨#[]⟩
@[reducible] def sp : BA := ⟨#[32]⟩
section
variable {σ : Type}
def run (own : σ → List BA → BA → BA → Option (σ × List BA)) (kid : σ → List Node → BA → Int → Option (σ × List Node)) : List Step → σ → List BA → List Node → Option (σ × List BA × List Node)
 | [], s, g, k => some (s, g, k)
 | .own c w :: r, s, g, k => own s g c w >>= fun x => run own kid r x.1 x.2 k
 | .kid l v :: r, s, g, k => kid s k l v >>= fun x => run own kid r x.1 g x.2
end
end Go.Proofs.YtigmilhpeodhbaaGreatDoorW.Ex.Gr
