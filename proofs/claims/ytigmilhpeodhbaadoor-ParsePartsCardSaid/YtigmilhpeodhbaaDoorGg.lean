/- The reference's words on nodes are the program's. No conditions beside those in each theorem. -/
import Derived.Test.YtigmilhpeodhbaaDoorGf
namespace Go.Proofs.YtigmilhpeodhbaaDoorW.Ex.Gr
open Go.Proofs.YtigmilhpeodhbaaDoorW.Plain
open Go Go.Proofs.YtigmilhpeodhbaaDoorW.Ex
set_option linter.all false
set_option maxRecDepth 100000
def qm8 (k : Int) : Int := if k = 2 ∨ k = 13 then 3 else if k = 15 ∨ k = 24 then 2 else if k = 4 ∨ k = 7 ∨ k = 9 ∨ k = 10 ∨ k = 11 ∨ k = 12 ∨ k = 16 ∨ k = 21 ∨ k = 25 ∨ k = 26 then 1 else 0
theorem kind_cases {k : Int} (h : known k = true) : k = 1 ∨ k = 2 ∨ k = 3 ∨ k = 4 ∨ k = 5 ∨ k = 6 ∨ k = 7 ∨ k = 8 ∨ k = 9 ∨ k = 10 ∨ k = 11 ∨ k = 12 ∨ k = 13 ∨ k = 14 ∨ k = 15 ∨ k = 16 ∨ k = 17 ∨ k = 18 ∨ k = 19 ∨ k = 20 ∨ k = 21 ∨ k = 22 ∨ k = 23 ∨ k = 24 ∨ k = 25 ∨ k = 26 := by have := Yd h; omega
theorem qt8 : ∀ k : Nat, k < 27 → 1 ≤ k → k ≠ 14 → ((shapes.getD k ⟨[], (0, 0), 0, [], 0⟩).first.length : Int) = qm8 k := by decide
theorem q0g : (zq 14).first.length = 1 ∧ (zq 14).rest = (0, 0) := by decide
theorem qnp {α : Type} (p : Nat → α → Bool) : ∀ (l : List α) (i : Nat), vd p i l = true → ∀ (j : Nat) (m : α), l[j]? = some m → p (i + j) m = true
 | [], i, _, j, m, h => by simp at h
 | a :: l, i, ha, j, m, h => by
   simp only [vd, Bool.and_eq_true] at ha
   cases j with
   | zero => simp at h; subst h; exact ha.1
   | succ j =>
     have := qnp p l (i + 1) ha.2 j m (by simpa using h)
     rwa [Nat.add_assoc, Nat.add_comm 1] at this
theorem ql0 (n : Node) (h : (zq n.kind).rest = (0, 0)) (hl : (zq n.kind).first.length < n.kids.length) : qag n.kind n.kids = false := by
 cases hf : qag n.kind n.kids with
 | false => rfl
 | true =>
   have h1 := qnp _ n.kids 0 hf (zq n.kind).first.length n.kids[(zq n.kind).first.length] (List.getElem?_eq_getElem hl)
   have hp : Qy n.kind ((zq n.kind).first.length : Int) = (0, 0) := by
    unfold Qy
    rw [if_neg (by omega), h]
   simp only [Nat.zero_add, fits, Bool.and_eq_true] at h1
   rw [hp] at h1
   have h2 := Yd h1.1.2
   have h3 := h1.2
   rw [if_pos rfl] at h3
   simp only [decide_eq_true_eq] at h3
   omega
theorem qy5 (n : Node) (h : known n.kind = true) : Qz n = (!decide ((n.kids.length : Int) < qm8 n.kind) && qag n.kind n.kids) := by
 have kb := Yd h
 unfold Qz
 by_cases h14 : n.kind = 14
 ·have e : qm8 n.kind = 0 := by rw [h14]; rfl
  have ht := q0g
  rw [← h14] at ht
  rw [e]
  by_cases h0 : n.kids.length = 0
  ·rw [if_pos ⟨h14, h0⟩, h0]
   have : n.kids = [] := List.length_eq_zero_iff.1 h0
   rw [this]; rfl
  rw [if_neg (fun h => h0 h.2), ht.1]
  by_cases h1 : 1 < n.kids.length
  ·rw [if_pos (.inr ⟨h1, ht.2⟩), ql0 n ht.2 (by rw [ht.1]; exact h1)]; simp
  rw [if_neg (by omega), decide_eq_false (by omega)]; simp
 have ht : ((zq n.kind).first.length : Int) = qm8 n.kind := by
  have := qt8 n.kind.toNat (by omega) (by omega) (by omega)
  rw [show ((n.kind.toNat : Nat) : Int) = n.kind by omega] at this
  exact this
 rw [if_neg (fun h => h14 h.1), ← ht]
 by_cases h1 : n.kids.length < (zq n.kind).first.length
 ·rw [if_pos (.inl h1), decide_eq_true (by omega)]; simp
 rw [decide_eq_false (by omega)]
 by_cases h2 : n.kids.length > (zq n.kind).first.length ∧ (zq n.kind).rest = (0, 0)
 ·rw [if_pos (.inr h2), ql0 n h2.2 h2.1]; simp
 rw [if_neg (fun h => h.elim h1 h2)]; simp
end Go.Proofs.YtigmilhpeodhbaaDoorW.Ex.Gr
