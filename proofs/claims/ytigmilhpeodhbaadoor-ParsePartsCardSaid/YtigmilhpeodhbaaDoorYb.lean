/- Well-formed nodes and their steps: how many own tokens, kids, levels. Conditions: those in each theorem. -/
import Derived.Test.YtigmilhpeodhbaaDoorYa
import Derived.Test.YtigmilhpeodhbaaDoorGq
namespace Go.Proofs.YtigmilhpeodhbaaDoorW.Ex.Gr
open Go Go.Proofs.YtigmilhpeodhbaaDoorW.Ex
set_option linter.all false
set_option maxRecDepth 100000
theorem qdt : ∀ a b, wordsS (a ++ b) = wordsS a ++ wordsS b
 | [], b => rfl
 | .own c w :: a, b => by rw [List.cons_append, wordsS, wordsS, qdt a b]; rfl
 | .kid l v :: a, b => by rw [List.cons_append, wordsS, wordsS, qdt a b]
theorem qm1 : ∀ a b, nkS (a ++ b) = nkS a + nkS b
 | [], b => by rw [List.nil_append, nkS, Nat.zero_add]
 | .own c w :: a, b => by rw [List.cons_append, nkS, nkS, qm1 a b]
 | .kid l v :: a, b => by rw [List.cons_append, nkS, nkS, qm1 a b]; omega
theorem qm0 (v : Int) : ∀ (r : Nat) (b : Bool), nkS (vn v b r) = r
 | 0, true => rfl
 | 0, false => rfl
 | r + 1, true => by rw [vn, nkS, qm0 v r false]
 | r + 1, false => by rw [vn, nkS, nkS, qm0 v r false]
theorem qwm (l : BA) (v : Int) : ∀ r, nkS (allS l v r) = r
 | 0 => rfl
 | r + 1 => by rw [allS, nkS, qwm l v r]
theorem qst (v : Int) : ∀ r l, nkS (qah v l r) = r
 | 0, l => rfl
 | r + 1, l => by rw [qah, nkS, qst v r]
theorem qo3 (v : Int) : ∀ (r : Nat), (wordsS (vn v false r)).length = r + 1
 | 0 => rfl
 | r + 1 => by rw [vn, wordsS, wordsS, List.length_cons, qo3 v r]
theorem qql (v : Int) : ∀ (r : Nat), wordsS (vn v true r) = wordsS (vn v false (r - 1))
 | 0 => rfl
 | r + 1 => by rw [vn, wordsS]; rfl
theorem qsp (l : BA) (v : Int) : ∀ r, wordsS (allS l v r) = []
 | 0 => rfl
 | r + 1 => by rw [allS, wordsS, qsp l v r]
theorem qo4 (v : Int) : ∀ r l, wordsS (qah v l r) = []
 | 0, l => rfl
 | r + 1, l => by rw [qah, wordsS, qo4 v r]
def nkOk (k : Int) (nk : Nat) : Prop :=
 if k = 2 then nk = 3 else if k = 4 ∨ k = 9 ∨ k = 10 ∨ k = 11 ∨ k = 12 ∨ k = 16 ∨ k = 25 ∨ k = 26 then nk = 1
 else if k = 5 ∨ k = 8 ∨ k = 17 ∨ k = 18 ∨ k = 19 ∨ k = 22 ∨ k = 23 then nk = 0
 else if k = 7 ∨ k = 21 then 1 ≤ nk else if k = 14 then nk ≤ 1 else if k = 15 ∨ k = 24 then nk = 2 else if k = 13 then nk = 3 else True
theorem kinds {k : Int} (h : known k = true) : k = 1 ∨ k = 2 ∨ k = 3 ∨ k = 4 ∨ k = 5 ∨ k = 6 ∨ k = 7 ∨ k = 8 ∨ k = 9 ∨ k = 10 ∨ k = 11 ∨ k = 12 ∨ k = 13 ∨ k = 14 ∨ k = 15 ∨ k = 16 ∨ k = 17 ∨ k = 18 ∨ k = 19 ∨ k = 20 ∨ k = 21 ∨ k = 22 ∨ k = 23 ∨ k = 24 ∨ k = 25 ∨ k = 26 := by
 unfold known at h
 simp only [Bool.and_eq_true, decide_eq_true_eq] at h
 omega
theorem qz6 {n : Node} (h : known n.kind = true) (hk : Qz n = true) : nkOk n.kind n.kids.length := by
 unfold Qz at hk
 generalize n.kind = k at h hk ⊢
 generalize hl : n.kids.length = nk at hk ⊢
 rcases kinds h with rfl | rfl | rfl | rfl | rfl | rfl | rfl | rfl | rfl | rfl | rfl | rfl | rfl | rfl | rfl | rfl | rfl | rfl | rfl | rfl | rfl | rfl | rfl | rfl | rfl | rfl
 all_goals simp only [zq, shapes, Int.reduceToNat, List.getD_cons_succ, List.getD_cons_zero, List.length_cons, List.length_nil, Int.reduceEq, false_and, ite_false, true_and, ite_true, nkOk, or_self, or_false, false_or, and_true, and_false, or_true, true_or, Prod.mk.injEq, if_false, if_true] at hk ⊢
 all_goals (try (split at hk))
 all_goals (try (split at hk))
 all_goals (try omega)
 all_goals (try (cases hk; done))
theorem q10 (d : Int) {k : Int} (t : BA) {nk : Nat} (l : BA) (v : Int) (h : known k = true) (hk : nkOk k nk) : nkS (stepsOf d k t nk l v) = nk := by
 rcases kinds h with rfl | rfl | rfl | rfl | rfl | rfl | rfl | rfl | rfl | rfl | rfl | rfl | rfl | rfl | rfl | rfl | rfl | rfl | rfl | rfl | rfl | rfl | rfl | rfl | rfl | rfl
 all_goals simp only [nkOk, Int.reduceEq, ite_false, ite_true, or_self, or_false, false_or, or_true, true_or, stepsOf, qm1, qst, qwm, qm0, nkS, qi8, qpz] at hk ⊢
 all_goals (try omega)
 all_goals (split <;> simp only [nkS] <;> omega)
theorem qwj (d : Int) {n : Node} (l : BA) (v : Int) (h : known n.kind = true) (hk : nkOk n.kind n.kids.length) (hn : n.kids.length ≤ 50000) : own n = ((wordsS (stepsOf d n.kind n.text n.kids.length l v)).length : Int) := by
 unfold own
 rw [h, if_neg (by decide)]
 generalize n.kind = k at h hk ⊢
 rcases kinds h with rfl | rfl | rfl | rfl | rfl | rfl | rfl | rfl | rfl | rfl | rfl | rfl | rfl | rfl | rfl | rfl | rfl | rfl | rfl | rfl | rfl | rfl | rfl | rfl | rfl | rfl
 all_goals simp only [nkOk, ownN, Int.reduceEq, ite_false, ite_true, or_self, or_false, false_or, or_true, true_or, stepsOf, qdt, qo4, qsp, qql, qo3, wordsS, qi8, qpz, List.length_append, List.length_cons, List.length_nil] at hk ⊢
 all_goals (try rfl)
 all_goals (try (rw [wt (by omega) (by omega)]; omega))
 all_goals (split <;> rfl)
structure WN (n : Node) : Prop where
 kn : known n.kind = true
 nk : nkOk n.kind n.kids.length
 le : n.kids.length ≤ 200
 gaps : ∀ d l v, n.gaps = [] ∨ n.gaps.length = (wordsS (stepsOf d n.kind n.text n.kids.length l v)).length
 base : n.kind = 7 → ∀ m, n.kids[0]? = some m → m.kind = 8
 kids : ∀ m ∈ n.kids, checkErr m = 0
theorem wn {n : Node} (h : checkErr n = 0) : WN n := by
 obtain ⟨p1, p2, p3⟩ := parts n h
 obtain ⟨_, _, _, h3⟩ := qpv h
 obtain ⟨h4, _⟩ := qju h3
 obtain ⟨k0, k1, _⟩ := qmz h4
 have k2 := qz6 k0 k1
 refine ⟨k0, k2, p1, fun d l v => ?_, fun h7 m hm => ?_, fun m hm => ?_⟩
 ·rw [qwj d l v k0 k2 (by omega)] at p2
  exact p2.imp id (fun e => by omega)
 ·have := (p3 0 m hm).2
  rw [h7] at this
  unfold fits at this
  simp only [Bool.and_eq_true] at this
  have h8 := this.2
  rw [show Qy 7 ((0 : Nat) : Int) = (8, 0) from rfl] at h8
  simp at h8; exact h8.symm
 obtain ⟨i, hi⟩ := List.getElem?_of_mem hm
 exact (p3 i m hi).1
end Go.Proofs.YtigmilhpeodhbaaDoorW.Ex.Gr
