/- Well-formed nodes and their steps: how many own tokens, kids, levels. Conditions: those in each theorem. -/
import Derived.Test.YtimcdpioclioiaaGreatDoorYa
import Derived.Test.YtimcdpioclioiaaGreatDoorGq
namespace Go.Proofs.YtimcdpioclioiaaGreatDoorW.Ex.Gr
open Go Go.Proofs.YtimcdpioclioiaaGreatDoorW.Ex
set_option linter.all false
set_option maxRecDepth 100000
def jn : List Step → List (BA × Int)
 | [] => []
 | .own _ _ :: r => jn r
 | .kid l v :: r => (l, v) :: jn r
theorem ux : ∀ a b, wordsS (a ++ b) = wordsS a ++ wordsS b
 | [], b => rfl
 | .own c w :: a, b => by rw [List.cons_append, wordsS, wordsS, ux a b]; rfl
 | .kid l v :: a, b => by rw [List.cons_append, wordsS, wordsS, ux a b]
theorem Ks : ∀ a b, y3 (a ++ b) = y3 a ++ y3 b
 | [], b => rfl
 | .own c w :: a, b => by rw [List.cons_append, y3, y3, Ks a b]; rfl
 | .kid l v :: a, b => by rw [List.cons_append, y3, y3, Ks a b]
theorem Zp : ∀ a b, jn (a ++ b) = jn a ++ jn b
 | [], b => rfl
 | .own c w :: a, b => by rw [List.cons_append, jn, jn, Zp a b]
 | .kid l v :: a, b => by rw [List.cons_append, jn, jn, Zp a b]; rfl
theorem nkS_app : ∀ a b, nkS (a ++ b) = nkS a + nkS b
 | [], b => by rw [List.nil_append, nkS, Nat.zero_add]
 | .own c w :: a, b => by rw [List.cons_append, nkS, nkS, nkS_app a b]
 | .kid l v :: a, b => by rw [List.cons_append, nkS, nkS, nkS_app a b]; omega
theorem len_steps : ∀ a : List Step, a.length = (wordsS a).length + nkS a
 | [] => rfl
 | .own c w :: a => by rw [wordsS, nkS, List.length_cons, List.length_cons, len_steps a]; omega
 | .kid l v :: a => by rw [wordsS, nkS, List.length_cons, len_steps a]; omega
theorem nk_rest (v : Int) : ∀ (r : Nat) (b : Bool), nkS (jf v b r) = r
 | 0, true => rfl
 | 0, false => rfl
 | r + 1, true => by rw [jf, nkS, nk_rest v r false]
 | r + 1, false => by rw [jf, nkS, nkS, nk_rest v r false]
theorem nk_all (l : BA) (v : Int) : ∀ r, nkS (allS l v r) = r
 | 0 => rfl
 | r + 1 => by rw [allS, nkS, nk_all l v r]
theorem nk_file (v : Int) : ∀ r l, nkS (yj v l r) = r
 | 0, l => rfl
 | r + 1, l => by rw [yj, nkS, nk_file v r]
theorem own_rest (v : Int) : ∀ (r : Nat), (wordsS (jf v false r)).length = r + 1
 | 0 => rfl
 | r + 1 => by rw [jf, wordsS, wordsS, List.length_cons, own_rest v r]
theorem words_rest (v : Int) : ∀ (r : Nat), wordsS (jf v true r) = wordsS (jf v false (r - 1))
 | 0 => rfl
 | r + 1 => by rw [jf, wordsS]; rfl
theorem own_all (l : BA) (v : Int) : ∀ r, wordsS (allS l v r) = []
 | 0 => rfl
 | r + 1 => by rw [allS, wordsS, own_all l v r]
theorem vz (v : Int) : ∀ r l, wordsS (yj v l r) = []
 | 0, l => rfl
 | r + 1, l => by rw [yj, wordsS, vz v r]
theorem canon_all (l : BA) (v : Int) : ∀ r, y3 (allS l v r) = []
 | 0 => rfl
 | r + 1 => by rw [allS, y3, canon_all l v r]
theorem canon_file (v : Int) : ∀ r l, y3 (yj v l r) = []
 | 0, l => rfl
 | r + 1, l => by rw [yj, y3, canon_file v r]
theorem lead_rest0 (v : Int) : ∀ (r i : Nat) (x : BA × Int), (jn (jf v false r))[i]? = some x → x = (sp, v)
 | 0, i, x, h => by simp [jf, jn] at h
 | r + 1, i, x, h => by
   rw [jf, jn, jn] at h
   cases i with
   | zero => simpa using h.symm
   | succ i => exact lead_rest0 v r i x (by simpa using h)
theorem lead_rest (v : Int) (r i : Nat) (x : BA × Int) (h : (jn (jf v true r))[i]? = some x) : x = (if i = 0 then e0 else sp, v) := by
 cases r with
 | zero => simp [jf, jn] at h
 | succ r =>
   rw [jf, jn] at h
   cases i with
   | zero => simpa using h.symm
   | succ i => rw [if_neg (by omega)]; exact lead_rest0 v r i x (by simpa using h)
theorem lead_all (l : BA) (v : Int) : ∀ (r i : Nat) (x : BA × Int), (jn (allS l v r))[i]? = some x → x = (l, v)
 | 0, i, x, h => by simp [allS, jn] at h
 | r + 1, i, x, h => by
   rw [allS, jn] at h
   cases i with
   | zero => simpa using h.symm
   | succ i => exact lead_all l v r i x (by simpa using h)
theorem lead_file (v : Int) : ∀ (r i : Nat) (l : BA) (x : BA × Int), (jn (yj v l r))[i]? = some x → x = (if i = 0 then l else ⟨#[10, 10]⟩, v)
 | 0, i, l, x, h => by simp [yj, jn] at h
 | r + 1, i, l, x, h => by
   rw [yj, jn] at h
   cases i with
   | zero => simpa using h.symm
   | succ i =>
     have := lead_file v r i _ x (by simpa using h)
     rw [this, if_neg (show ¬ i + 1 = 0 by omega)]
     split <;> rfl
/-- The number of kids is one that the kind allows. -/
def nkOk (k : Int) (nk : Nat) : Prop :=
 if k = 2 then nk = 3 else if k = 4 ∨ k = 9 ∨ k = 10 ∨ k = 11 ∨ k = 12 ∨ k = 16 ∨ k = 25 ∨ k = 26 then nk = 1
 else if k = 5 ∨ k = 8 ∨ k = 17 ∨ k = 18 ∨ k = 19 ∨ k = 22 ∨ k = 23 then nk = 0
 else if k = 7 ∨ k = 21 then 1 ≤ nk else if k = 14 then nk ≤ 1 else if k = 15 ∨ k = 24 then nk = 2 else if k = 13 then nk = 3 else True
theorem kinds {k : Int} (h : known k = true) : k = 1 ∨ k = 2 ∨ k = 3 ∨ k = 4 ∨ k = 5 ∨ k = 6 ∨ k = 7 ∨ k = 8 ∨ k = 9 ∨ k = 10 ∨ k = 11 ∨ k = 12 ∨ k = 13 ∨ k = 14 ∨ k = 15 ∨ k = 16 ∨ k = 17 ∨ k = 18 ∨ k = 19 ∨ k = 20 ∨ k = 21 ∨ k = 22 ∨ k = 23 ∨ k = 24 ∨ k = 25 ∨ k = 26 := by
 unfold known at h
 simp only [Bool.and_eq_true, decide_eq_true_eq] at h
 omega
theorem nk_ok {n : Node} (h : known n.kind = true) (hk : u3 n = true) : nkOk n.kind n.kids.length := by
 unfold u3 at hk
 generalize n.kind = k at h hk ⊢
 generalize hl : n.kids.length = nk at hk ⊢
 rcases kinds h with rfl | rfl | rfl | rfl | rfl | rfl | rfl | rfl | rfl | rfl | rfl | rfl | rfl | rfl | rfl | rfl | rfl | rfl | rfl | rfl | rfl | rfl | rfl | rfl | rfl | rfl
 all_goals simp only [zw, shapes, Int.reduceToNat, List.getD_cons_succ, List.getD_cons_zero, List.length_cons, List.length_nil, Int.reduceEq, false_and, ite_false, true_and, ite_true, nkOk, or_self, or_false, false_or, and_true, and_false, or_true, true_or, Prod.mk.injEq, if_false, if_true] at hk ⊢
 all_goals (try (split at hk))
 all_goals (try (split at hk))
 all_goals (try omega)
 all_goals (try (cases hk; done))
theorem nk_eq (d : Int) {k : Int} (t : BA) {nk : Nat} (l : BA) (v : Int) (h : known k = true) (hk : nkOk k nk) : nkS (stepsOf d k t nk l v) = nk := by
 rcases kinds h with rfl | rfl | rfl | rfl | rfl | rfl | rfl | rfl | rfl | rfl | rfl | rfl | rfl | rfl | rfl | rfl | rfl | rfl | rfl | rfl | rfl | rfl | rfl | rfl | rfl | rfl
 all_goals simp only [nkOk, Int.reduceEq, ite_false, ite_true, or_self, or_false, false_or, or_true, true_or, stepsOf, nkS_app, nk_file, nk_all, nk_rest, nkS, wl, ke] at hk ⊢
 all_goals (try omega)
 all_goals (split <;> simp only [nkS] <;> omega)
theorem own_eq (d : Int) {n : Node} (l : BA) (v : Int) (h : known n.kind = true) (hk : nkOk n.kind n.kids.length) (hn : n.kids.length ≤ 50000) : own n = ((wordsS (stepsOf d n.kind n.text n.kids.length l v)).length : Int) := by
 unfold own
 rw [h, if_neg (by decide)]
 generalize n.kind = k at h hk ⊢
 rcases kinds h with rfl | rfl | rfl | rfl | rfl | rfl | rfl | rfl | rfl | rfl | rfl | rfl | rfl | rfl | rfl | rfl | rfl | rfl | rfl | rfl | rfl | rfl | rfl | rfl | rfl | rfl
 all_goals simp only [nkOk, ownN, Int.reduceEq, ite_false, ite_true, or_self, or_false, false_or, or_true, true_or, stepsOf, ux, vz, own_all, words_rest, own_rest, wordsS, wl, ke, List.length_append, List.length_cons, List.length_nil] at hk ⊢
 all_goals (try rfl)
 all_goals (try (rw [zr (by omega) (by omega)]; omega))
 all_goals (split <;> rfl)
theorem own_le (d : Int) {n : Node} (l : BA) (v : Int) (h : known n.kind = true) (hk : nkOk n.kind n.kids.length) : (wordsS (stepsOf d n.kind n.text n.kids.length l v)).length ≤ n.kids.length + 5 := by
 generalize n.kind = k at h hk ⊢
 rcases kinds h with rfl | rfl | rfl | rfl | rfl | rfl | rfl | rfl | rfl | rfl | rfl | rfl | rfl | rfl | rfl | rfl | rfl | rfl | rfl | rfl | rfl | rfl | rfl | rfl | rfl | rfl
 all_goals simp only [nkOk, Int.reduceEq, ite_false, ite_true, or_self, or_false, false_or, or_true, true_or, stepsOf, ux, vz, own_all, words_rest, own_rest, wordsS, wl, ke, List.length_append, List.length_cons, List.length_nil] at hk ⊢
 all_goals (try omega)
 all_goals (split <;> simp only [wordsS, List.length_cons, List.length_nil] <;> omega)
theorem Yq {l : BA} {v : Int} : ∀ {S : List Step}, Step.kid l v ∈ S → (l, v) ∈ jn S
 | .own c w :: r, h => by
   rw [jn]
   rcases List.mem_cons.1 h with h | h
   ·cases h
   ·exact Yq h
 | .kid a b :: r, h => by
   rw [jn]
   rcases List.mem_cons.1 h with h | h
   ·cases h; exact List.mem_cons_self ..
   ·exact List.mem_cons_of_mem _ (Yq h)
theorem lev_rest (v : Int) (r : Nat) {x : BA × Int} (h : x ∈ jn (jf v true r)) : x.2 = v := by
 obtain ⟨i, hi⟩ := List.getElem?_of_mem h
 rw [lead_rest v r i x hi]
theorem lev_all (l : BA) (v : Int) (r : Nat) {x : BA × Int} (h : x ∈ jn (allS l v r)) : x.2 = v := by
 obtain ⟨i, hi⟩ := List.getElem?_of_mem h
 rw [lead_all l v r i x hi]
theorem lev_file (l : BA) (v : Int) (r : Nat) {x : BA × Int} (h : x ∈ jn (yj v l r)) : x.2 = v := by
 obtain ⟨i, hi⟩ := List.getElem?_of_mem h
 rw [lead_file v r i l x hi]
theorem lev_steps (d : Int) (hd : d = 0 ∨ d = 1) {k : Int} {t : BA} {nk : Nat} {l l' : BA} {v v' : Int} (hk : known k = true) (h : Step.kid l' v' ∈ stepsOf d k t nk l v) : v ≤ v' ∧ v' ≤ v + 1 := by
 have key : ∀ x ∈ jn (stepsOf d k t nk l v), v ≤ x.2 ∧ x.2 ≤ v + 1 := by
  intro x hx
  rcases kinds hk with rfl | rfl | rfl | rfl | rfl | rfl | rfl | rfl | rfl | rfl | rfl | rfl | rfl | rfl | rfl | rfl | rfl | rfl | rfl | rfl | rfl | rfl | rfl | rfl | rfl | rfl
  case' inr.inr.inr.inr.inr.inr.inr.inl => by_cases c : t = e0 <;> simp [stepsOf, c, jn] at hx
  case' inr.inr.inr.inr.inr.inr.inr.inr.inr.inr.inr.inr.inr.inl => by_cases c : nk = 0 <;> simp [stepsOf, c, jn] at hx
  all_goals try simp only [stepsOf, Int.reduceEq, ite_false, ite_true, Zp, jn, List.mem_append, List.mem_cons, List.not_mem_nil, or_false, false_or, wl, ke, List.append_nil] at hx
  all_goals first
   | (have := lev_file _ _ _ hx; omega)
   | (have := lev_rest _ _ hx; omega)
   | (have := lev_all _ _ _ hx; omega)
   | (rcases hx with rfl | hx
      ·dsimp only; omega
      ·first
       | (have := lev_rest _ _ hx; omega)
       | (have := lev_all _ _ _ hx; omega))
   | (rcases hx with rfl | rfl | rfl <;> dsimp only <;> omega)
   | (rcases hx with rfl | rfl <;> dsimp only <;> omega)
   | (subst hx; dsimp only; omega)
 exact key _ (Yq h)
structure WN (n : Node) : Prop where
 kn : known n.kind = true
 nk : nkOk n.kind n.kids.length
 le : n.kids.length ≤ 200
 gaps : ∀ d l v, n.gaps = [] ∨ n.gaps.length = (wordsS (stepsOf d n.kind n.text n.kids.length l v)).length
 base : n.kind = 7 → ∀ m, n.kids[0]? = some m → m.kind = 8
 kids : ∀ m ∈ n.kids, checkErr m = 0
theorem wn {n : Node} (h : checkErr n = 0) : WN n := by
 obtain ⟨p1, p2, p3⟩ := parts n h
 obtain ⟨_, _, _, h3⟩ := check_ok h
 obtain ⟨h4, _⟩ := first_ok h3
 obtain ⟨k0, k1, _⟩ := node_ok h4
 have k2 := nk_ok k0 k1
 refine ⟨k0, k2, p1, fun d l v => ?_, fun h7 m hm => ?_, fun m hm => ?_⟩
 ·rw [own_eq d l v k0 k2 (by omega)] at p2
  exact p2.imp id (fun e => by omega)
 ·have := (p3 0 m hm).2
  rw [h7] at this
  unfold fits at this
  simp only [Bool.and_eq_true] at this
  have h8 := this.2
  rw [show vy 7 ((0 : Nat) : Int) = (8, 0) from rfl] at h8
  simp at h8; exact h8.symm
 ·obtain ⟨i, hi⟩ := List.getElem?_of_mem hm
  exact (p3 i m hi).1
end Go.Proofs.YtimcdpioclioiaaGreatDoorW.Ex.Gr
