/- Well-formed nodes and their steps: how many own tokens, kids, levels. Conditions: those in each theorem. -/
import Derived.Test.YtigmilhpeodhbaaGreatDoorYa
import Derived.Test.YtigmilhpeodhbaaGreatDoorGq
namespace Go.Proofs.YtigmilhpeodhbaaGreatDoorW.Ex.Gr
open Go Go.Proofs.YtigmilhpeodhbaaGreatDoorW.Ex
set_option linter.all false
set_option maxRecDepth 100000
def um : List Step → List (BA × Int)
 | [] => []
 | .own _ _ :: r => um r
 | .kid l v :: r => (l, v) :: um r
theorem qbf : ∀ a b, wordsS (a ++ b) = wordsS a ++ wordsS b
 | [], b => rfl
 | .own c w :: a, b => by rw [List.cons_append, wordsS, wordsS, qbf a b]; rfl
 | .kid l v :: a, b => by rw [List.cons_append, wordsS, wordsS, qbf a b]
theorem qhy : ∀ a b, um (a ++ b) = um a ++ um b
 | [], b => rfl
 | .own c w :: a, b => by rw [List.cons_append, um, um, qhy a b]
 | .kid l v :: a, b => by rw [List.cons_append, um, um, qhy a b]; rfl
theorem qse : ∀ a b, nkS (a ++ b) = nkS a + nkS b
 | [], b => by rw [List.nil_append, nkS, Nat.zero_add]
 | .own c w :: a, b => by rw [List.cons_append, nkS, nkS, qse a b]
 | .kid l v :: a, b => by rw [List.cons_append, nkS, nkS, qse a b]; omega
theorem qkf : ∀ a : List Step, a.length = (wordsS a).length + nkS a
 | [] => rfl
 | .own c w :: a => by rw [wordsS, nkS, List.length_cons, List.length_cons, qkf a]; omega
 | .kid l v :: a => by rw [wordsS, nkS, List.length_cons, qkf a]; omega
theorem qsd (v : Int) : ∀ (r : Nat) (b : Bool), nkS (kh v b r) = r
 | 0, true => rfl
 | 0, false => rfl
 | r + 1, true => by rw [kh, nkS, qsd v r false]
 | r + 1, false => by rw [kh, nkS, nkS, qsd v r false]
theorem q20 (l : BA) (v : Int) : ∀ r, nkS (allS l v r) = r
 | 0 => rfl
 | r + 1 => by rw [allS, nkS, q20 l v r]
theorem qyv (v : Int) : ∀ r l, nkS (Q5 v l r) = r
 | 0, l => rfl
 | r + 1, l => by rw [Q5, nkS, qyv v r]
theorem qnv (v : Int) : ∀ (r : Nat), (wordsS (kh v false r)).length = r + 1
 | 0 => rfl
 | r + 1 => by rw [kh, wordsS, wordsS, List.length_cons, qnv v r]
theorem qmx (v : Int) : ∀ (r : Nat), wordsS (kh v true r) = wordsS (kh v false (r - 1))
 | 0 => rfl
 | r + 1 => by rw [kh, wordsS]; rfl
theorem qmh (l : BA) (v : Int) : ∀ r, wordsS (allS l v r) = []
 | 0 => rfl
 | r + 1 => by rw [allS, wordsS, qmh l v r]
theorem qc5 (v : Int) : ∀ r l, wordsS (Q5 v l r) = []
 | 0, l => rfl
 | r + 1, l => by rw [Q5, wordsS, qc5 v r]
theorem qn8 (v : Int) : ∀ (r i : Nat) (x : BA × Int), (um (kh v false r))[i]? = some x → x = (sp, v)
 | 0, i, x, h => by simp [kh, um] at h
 | r + 1, i, x, h => by
   rw [kh, um, um] at h
   cases i with
   | zero => simpa using h.symm
   | succ i => exact qn8 v r i x (by simpa using h)
theorem q0z (v : Int) (r i : Nat) (x : BA × Int) (h : (um (kh v true r))[i]? = some x) : x = (if i = 0 then e0 else sp, v) := by
 cases r with
 | zero => simp [kh, um] at h
 | succ r =>
   rw [kh, um] at h
   cases i with
   | zero => simpa using h.symm
   | succ i => rw [if_neg (by omega)]; exact qn8 v r i x (by simpa using h)
theorem qu4 (l : BA) (v : Int) : ∀ (r i : Nat) (x : BA × Int), (um (allS l v r))[i]? = some x → x = (l, v)
 | 0, i, x, h => by simp [allS, um] at h
 | r + 1, i, x, h => by
   rw [allS, um] at h
   cases i with
   | zero => simpa using h.symm
   | succ i => exact qu4 l v r i x (by simpa using h)
theorem qqz (v : Int) : ∀ (r i : Nat) (l : BA) (x : BA × Int), (um (Q5 v l r))[i]? = some x → x = (if i = 0 then l else ⟨#[10, 10]⟩, v)
 | 0, i, l, x, h => by simp [Q5, um] at h
 | r + 1, i, l, x, h => by
   rw [Q5, um] at h
   cases i with
   | zero => simpa using h.symm
   | succ i =>
     have := qqz v r i _ x (by simpa using h)
     rw [this, if_neg (show ¬ i + 1 = 0 by omega)]
     split <;> rfl
def nkOk (k : Int) (nk : Nat) : Prop :=
 if k = 2 then nk = 3 else if k = 4 ∨ k = 9 ∨ k = 10 ∨ k = 11 ∨ k = 12 ∨ k = 16 ∨ k = 25 ∨ k = 26 then nk = 1
 else if k = 5 ∨ k = 8 ∨ k = 17 ∨ k = 18 ∨ k = 19 ∨ k = 22 ∨ k = 23 then nk = 0
 else if k = 7 ∨ k = 21 then 1 ≤ nk else if k = 14 then nk ≤ 1 else if k = 15 ∨ k = 24 then nk = 2 else if k = 13 then nk = 3 else True
theorem kinds {k : Int} (h : known k = true) : k = 1 ∨ k = 2 ∨ k = 3 ∨ k = 4 ∨ k = 5 ∨ k = 6 ∨ k = 7 ∨ k = 8 ∨ k = 9 ∨ k = 10 ∨ k = 11 ∨ k = 12 ∨ k = 13 ∨ k = 14 ∨ k = 15 ∨ k = 16 ∨ k = 17 ∨ k = 18 ∨ k = 19 ∨ k = 20 ∨ k = 21 ∨ k = 22 ∨ k = 23 ∨ k = 24 ∨ k = 25 ∨ k = 26 := by
 unfold known at h
 simp only [Bool.and_eq_true, decide_eq_true_eq] at h
 omega
theorem q6y {n : Node} (h : known n.kind = true) (hk : Ja n = true) : nkOk n.kind n.kids.length := by
 unfold Ja at hk
 generalize n.kind = k at h hk ⊢
 generalize hl : n.kids.length = nk at hk ⊢
 rcases kinds h with rfl | rfl | rfl | rfl | rfl | rfl | rfl | rfl | rfl | rfl | rfl | rfl | rfl | rfl | rfl | rfl | rfl | rfl | rfl | rfl | rfl | rfl | rfl | rfl | rfl | rfl
 all_goals simp only [z7, shapes, Int.reduceToNat, List.getD_cons_succ, List.getD_cons_zero, List.length_cons, List.length_nil, Int.reduceEq, false_and, ite_false, true_and, ite_true, nkOk, or_self, or_false, false_or, and_true, and_false, or_true, true_or, Prod.mk.injEq, if_false, if_true] at hk ⊢
 all_goals (try (split at hk))
 all_goals (try (split at hk))
 all_goals (try omega)
 all_goals (try (cases hk; done))
theorem q84 (d : Int) {k : Int} (t : BA) {nk : Nat} (l : BA) (v : Int) (h : known k = true) (hk : nkOk k nk) : nkS (stepsOf d k t nk l v) = nk := by
 rcases kinds h with rfl | rfl | rfl | rfl | rfl | rfl | rfl | rfl | rfl | rfl | rfl | rfl | rfl | rfl | rfl | rfl | rfl | rfl | rfl | rfl | rfl | rfl | rfl | rfl | rfl | rfl
 all_goals simp only [nkOk, Int.reduceEq, ite_false, ite_true, or_self, or_false, false_or, or_true, true_or, stepsOf, qse, qyv, q20, qsd, nkS, qak, qay] at hk ⊢
 all_goals (try omega)
 all_goals (split <;> simp only [nkS] <;> omega)
theorem q7f (d : Int) {n : Node} (l : BA) (v : Int) (h : known n.kind = true) (hk : nkOk n.kind n.kids.length) (hn : n.kids.length ≤ 50000) : own n = ((wordsS (stepsOf d n.kind n.text n.kids.length l v)).length : Int) := by
 unfold own
 rw [h, if_neg (by decide)]
 generalize n.kind = k at h hk ⊢
 rcases kinds h with rfl | rfl | rfl | rfl | rfl | rfl | rfl | rfl | rfl | rfl | rfl | rfl | rfl | rfl | rfl | rfl | rfl | rfl | rfl | rfl | rfl | rfl | rfl | rfl | rfl | rfl
 all_goals simp only [nkOk, ownN, Int.reduceEq, ite_false, ite_true, or_self, or_false, false_or, or_true, true_or, stepsOf, qbf, qc5, qmh, qmx, qnv, wordsS, qak, qay, List.length_append, List.length_cons, List.length_nil] at hk ⊢
 all_goals (try rfl)
 all_goals (try (rw [wh (by omega) (by omega)]; omega))
 all_goals (split <;> rfl)
theorem q2w (d : Int) {n : Node} (l : BA) (v : Int) (h : known n.kind = true) (hk : nkOk n.kind n.kids.length) : (wordsS (stepsOf d n.kind n.text n.kids.length l v)).length ≤ n.kids.length + 5 := by
 generalize n.kind = k at h hk ⊢
 rcases kinds h with rfl | rfl | rfl | rfl | rfl | rfl | rfl | rfl | rfl | rfl | rfl | rfl | rfl | rfl | rfl | rfl | rfl | rfl | rfl | rfl | rfl | rfl | rfl | rfl | rfl | rfl
 all_goals simp only [nkOk, Int.reduceEq, ite_false, ite_true, or_self, or_false, false_or, or_true, true_or, stepsOf, qbf, qc5, qmh, qmx, qnv, wordsS, qak, qay, List.length_append, List.length_cons, List.length_nil] at hk ⊢
 all_goals (try omega)
 all_goals (split <;> simp only [wordsS, List.length_cons, List.length_nil] <;> omega)
theorem qkd {l : BA} {v : Int} : ∀ {S : List Step}, Step.kid l v ∈ S → (l, v) ∈ um S
 | .own c w :: r, h => by
   rw [um]
   rcases List.mem_cons.1 h with h | h
   ·cases h
   exact qkd h
 | .kid a b :: r, h => by
   rw [um]
   rcases List.mem_cons.1 h with h | h
   ·cases h; exact List.mem_cons_self ..
   exact List.mem_cons_of_mem _ (qkd h)
theorem qu2 (v : Int) (r : Nat) {x : BA × Int} (h : x ∈ um (kh v true r)) : x.2 = v := by
 obtain ⟨i, hi⟩ := List.getElem?_of_mem h
 rw [q0z v r i x hi]
theorem qy1 (l : BA) (v : Int) (r : Nat) {x : BA × Int} (h : x ∈ um (allS l v r)) : x.2 = v := by
 obtain ⟨i, hi⟩ := List.getElem?_of_mem h
 rw [qu4 l v r i x hi]
theorem q25 (l : BA) (v : Int) (r : Nat) {x : BA × Int} (h : x ∈ um (Q5 v l r)) : x.2 = v := by
 obtain ⟨i, hi⟩ := List.getElem?_of_mem h
 rw [qqz v r i l x hi]
theorem qqy (d : Int) (hd : d = 0 ∨ d = 1) {k : Int} {t : BA} {nk : Nat} {l l' : BA} {v v' : Int} (hk : known k = true) (h : Step.kid l' v' ∈ stepsOf d k t nk l v) : v ≤ v' ∧ v' ≤ v + 1 := by
 have key : ∀ x ∈ um (stepsOf d k t nk l v), v ≤ x.2 ∧ x.2 ≤ v + 1 := by
  intro x hx
  rcases kinds hk with rfl | rfl | rfl | rfl | rfl | rfl | rfl | rfl | rfl | rfl | rfl | rfl | rfl | rfl | rfl | rfl | rfl | rfl | rfl | rfl | rfl | rfl | rfl | rfl | rfl | rfl
  case' inr.inr.inr.inr.inr.inr.inr.inl => by_cases c : t = e0 <;> simp [stepsOf, c, um] at hx
  case' inr.inr.inr.inr.inr.inr.inr.inr.inr.inr.inr.inr.inr.inl => by_cases c : nk = 0 <;> simp [stepsOf, c, um] at hx
  all_goals try simp only [stepsOf, Int.reduceEq, ite_false, ite_true, qhy, um, List.mem_append, List.mem_cons, List.not_mem_nil, or_false, false_or, qak, qay, List.append_nil] at hx
  all_goals first
   | (have := q25 _ _ _ hx; omega)
   | (have := qu2 _ _ hx; omega)
   | (have := qy1 _ _ _ hx; omega)
   | (rcases hx with rfl | hx
      ·dsimp only; omega
      first
      | (have := qu2 _ _ hx; omega)
      | (have := qy1 _ _ _ hx; omega))
   | (rcases hx with rfl | rfl | rfl <;> dsimp only <;> omega)
   | (rcases hx with rfl | rfl <;> dsimp only <;> omega)
   | (subst hx; dsimp only; omega)
 exact key _ (qkd h)
structure WN (n : Node) : Prop where
 kn : known n.kind = true
 nk : nkOk n.kind n.kids.length
 le : n.kids.length ≤ 200
 gaps : ∀ d l v, n.gaps = [] ∨ n.gaps.length = (wordsS (stepsOf d n.kind n.text n.kids.length l v)).length
 base : n.kind = 7 → ∀ m, n.kids[0]? = some m → m.kind = 8
 kids : ∀ m ∈ n.kids, checkErr m = 0
theorem wn {n : Node} (h : checkErr n = 0) : WN n := by
 obtain ⟨p1, p2, p3⟩ := parts n h
 obtain ⟨_, _, _, h3⟩ := qbr h
 obtain ⟨h4, _⟩ := qjc h3
 obtain ⟨k0, k1, _⟩ := qml h4
 have k2 := q6y k0 k1
 refine ⟨k0, k2, p1, fun d l v => ?_, fun h7 m hm => ?_, fun m hm => ?_⟩
 ·rw [q7f d l v k0 k2 (by omega)] at p2
  exact p2.imp id (fun e => by omega)
 ·have := (p3 0 m hm).2
  rw [h7] at this
  unfold fits at this
  simp only [Bool.and_eq_true] at this
  have h8 := this.2
  rw [show Zy 7 ((0 : Nat) : Int) = (8, 0) from rfl] at h8
  simp at h8; exact h8.symm
 obtain ⟨i, hi⟩ := List.getElem?_of_mem hm
 exact (p3 i m hi).1
end Go.Proofs.YtigmilhpeodhbaaGreatDoorW.Ex.Gr
