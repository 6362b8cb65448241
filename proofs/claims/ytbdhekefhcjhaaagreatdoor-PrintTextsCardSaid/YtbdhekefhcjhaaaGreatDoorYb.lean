/- Well-formed nodes and their steps: how many own tokens, kids, levels. Conditions: those in each theorem. -/
import Derived.Test.YtbdhekefhcjhaaaGreatDoorYa
import Derived.Test.YtbdhekefhcjhaaaGreatDoorGq
namespace Go.Proofs.YtbdhekefhcjhaaaGreatDoorW.Ex.Gr
open Go Go.Proofs.YtbdhekefhcjhaaaGreatDoorW.Ex
set_option linter.all false
set_option maxRecDepth 100000
def ordS : List Step → Int → List Int
 | [], _ => []
 | .own _ _ :: r, k => -1 :: ordS r k
 | .kid _ _ :: r, k => k :: ordS r (k + 1)
def jb : List Step → List (BA × Int)
 | [] => []
 | .own _ _ :: r => jb r
 | .kid l v :: r => (l, v) :: jb r
theorem jq : ∀ a b, wordsS (a ++ b) = wordsS a ++ wordsS b
 | [], b => rfl
 | .own c w :: a, b => by rw [List.cons_append, wordsS, wordsS, jq a b]; rfl
 | .kid l v :: a, b => by rw [List.cons_append, wordsS, wordsS, jq a b]
theorem Z9 : ∀ a b, jj (a ++ b) = jj a ++ jj b
 | [], b => rfl
 | .own c w :: a, b => by rw [List.cons_append, jj, jj, Z9 a b]; rfl
 | .kid l v :: a, b => by rw [List.cons_append, jj, jj, Z9 a b]
theorem Qg : ∀ a b, jb (a ++ b) = jb a ++ jb b
 | [], b => rfl
 | .own c w :: a, b => by rw [List.cons_append, jb, jb, Qg a b]
 | .kid l v :: a, b => by rw [List.cons_append, jb, jb, Qg a b]; rfl
theorem uf : ∀ a b, nkS (a ++ b) = nkS a + nkS b
 | [], b => by rw [List.nil_append, nkS, Nat.zero_add]
 | .own c w :: a, b => by rw [List.cons_append, nkS, nkS, uf a b]
 | .kid l v :: a, b => by rw [List.cons_append, nkS, nkS, uf a b]; omega
theorem uv : ∀ a b k, ordS (a ++ b) k = ordS a k ++ ordS b (k + nkS a)
 | [], b, k => by rw [List.nil_append, nkS, ordS, List.nil_append]; congr 1; omega
 | .own c w :: a, b, k => by rw [List.cons_append, ordS, ordS, nkS, uv a b]; rfl
 | .kid l v :: a, b, k => by rw [List.cons_append, ordS, ordS, nkS, uv a b, List.cons_append]; congr 3; omega
theorem uj : ∀ a, (jj a).length = (wordsS a).length
 | [] => rfl
 | .own c w :: a => by rw [jj, wordsS, List.length_cons, List.length_cons, uj a]
 | .kid l v :: a => by rw [jj, wordsS, uj a]
theorem Zj : ∀ a, (jb a).length = nkS a
 | [] => rfl
 | .own c w :: a => by rw [jb, nkS, Zj a]
 | .kid l v :: a => by rw [jb, nkS, List.length_cons, Zj a]
theorem ju : ∀ a k, (ordS a k).length = a.length
 | [], k => rfl
 | .own c w :: a, k => by rw [ordS, List.length_cons, List.length_cons, ju a]
 | .kid l v :: a, k => by rw [ordS, List.length_cons, List.length_cons, ju a]
theorem ve : ∀ a : List Step, a.length = (wordsS a).length + nkS a
 | [] => rfl
 | .own c w :: a => by rw [wordsS, nkS, List.length_cons, List.length_cons, ve a]; omega
 | .kid l v :: a => by rw [wordsS, nkS, List.length_cons, ve a]; omega
theorem nk_rest (v : Int) : ∀ (r : Nat) (b : Bool), nkS (jr v b r) = r
 | 0, true => rfl
 | 0, false => rfl
 | r + 1, true => by rw [jr, nkS, nk_rest v r false]
 | r + 1, false => by rw [jr, nkS, nkS, nk_rest v r false]
theorem nk_all (l : BA) (v : Int) : ∀ r, nkS (allS l v r) = r
 | 0 => rfl
 | r + 1 => by rw [allS, nkS, nk_all l v r]
theorem nk_file (v : Int) : ∀ r l, nkS (y6 v l r) = r
 | 0, l => rfl
 | r + 1, l => by rw [y6, nkS, nk_file v r]
theorem own_rest (v : Int) : ∀ (r : Nat), (wordsS (jr v false r)).length = r + 1
 | 0 => rfl
 | r + 1 => by rw [jr, wordsS, wordsS, List.length_cons, own_rest v r]
theorem Y6 (v : Int) : ∀ (r : Nat), wordsS (jr v true r) = wordsS (jr v false (r - 1))
 | 0 => rfl
 | r + 1 => by rw [jr, wordsS]; rfl
theorem Z1 (l : BA) (v : Int) : ∀ r, wordsS (allS l v r) = []
 | 0 => rfl
 | r + 1 => by rw [allS, wordsS, Z1 l v r]
theorem own_file (v : Int) : ∀ r l, wordsS (y6 v l r) = []
 | 0, l => rfl
 | r + 1, l => by rw [y6, wordsS, own_file v r]
theorem canon_all (l : BA) (v : Int) : ∀ r, jj (allS l v r) = []
 | 0 => rfl
 | r + 1 => by rw [allS, jj, canon_all l v r]
theorem canon_file (v : Int) : ∀ r l, jj (y6 v l r) = []
 | 0, l => rfl
 | r + 1, l => by rw [y6, jj, canon_file v r]
theorem Ja (v : Int) : ∀ (r : Nat) (b : Bool) (i : Nat) (c : BA), (jj (jr v b r))[i]? = some c → c = e0
 | 0, true, i, c, h => by cases i with
   | zero => simpa [jr, jj] using h.symm
   | succ i => simp [jr, jj] at h
 | 0, false, i, c, h => by cases i with
   | zero => simpa [jr, jj] using h.symm
   | succ i => simp [jr, jj] at h
 | r + 1, true, i, c, h => by rw [jr, jj] at h; exact Ja v r false i c h
 | r + 1, false, i, c, h => by
   rw [jr, jj, jj] at h
   cases i with
   | zero => simpa using h.symm
   | succ i => exact Ja v r false i c (by simpa using h)
theorem lead_rest0 (v : Int) : ∀ (r i : Nat) (x : BA × Int), (jb (jr v false r))[i]? = some x → x = (sp, v)
 | 0, i, x, h => by simp [jr, jb] at h
 | r + 1, i, x, h => by
   rw [jr, jb, jb] at h
   cases i with
   | zero => simpa using h.symm
   | succ i => exact lead_rest0 v r i x (by simpa using h)
theorem Zk (v : Int) (r i : Nat) (x : BA × Int) (h : (jb (jr v true r))[i]? = some x) : x = (if i = 0 then e0 else sp, v) := by
 cases r with
 | zero => simp [jr, jb] at h
 | succ r =>
   rw [jr, jb] at h
   cases i with
   | zero => simpa using h.symm
   | succ i => rw [if_neg (by omega)]; exact lead_rest0 v r i x (by simpa using h)
theorem J7 (l : BA) (v : Int) : ∀ (r i : Nat) (x : BA × Int), (jb (allS l v r))[i]? = some x → x = (l, v)
 | 0, i, x, h => by simp [allS, jb] at h
 | r + 1, i, x, h => by
   rw [allS, jb] at h
   cases i with
   | zero => simpa using h.symm
   | succ i => exact J7 l v r i x (by simpa using h)
theorem Yx (v : Int) : ∀ (r i : Nat) (l : BA) (x : BA × Int), (jb (y6 v l r))[i]? = some x → x = (if i = 0 then l else ⟨#[10, 10]⟩, v)
 | 0, i, l, x, h => by simp [y6, jb] at h
 | r + 1, i, l, x, h => by
   rw [y6, jb] at h
   cases i with
   | zero => simpa using h.symm
   | succ i =>
     have := Yx v r i _ x (by simpa using h)
     rw [this, if_neg (show ¬ i + 1 = 0 by omega)]
     split <;> rfl
theorem ord_file (v : Int) : ∀ (r : Nat) (l l' : BA) (k : Int), ordS (y6 v l r) k = ordS (allS l' v r) k
 | 0, l, l', k => rfl
 | r + 1, l, l', k => by rw [y6, allS, ordS, ordS, ord_file v r _ l']
/-- The number of kids is one that the kind allows. -/
def nkOk (k : Int) (nk : Nat) : Prop :=
 if k = 2 then nk = 3 else if k = 4 ∨ k = 9 ∨ k = 10 ∨ k = 11 ∨ k = 12 ∨ k = 16 ∨ k = 25 ∨ k = 26 then nk = 1
 else if k = 5 ∨ k = 8 ∨ k = 17 ∨ k = 18 ∨ k = 19 ∨ k = 22 ∨ k = 23 then nk = 0
 else if k = 7 ∨ k = 21 then 1 ≤ nk else if k = 14 then nk ≤ 1 else if k = 15 ∨ k = 24 then nk = 2 else if k = 13 then nk = 3 else True
theorem kinds {k : Int} (h : known k = true) : k = 1 ∨ k = 2 ∨ k = 3 ∨ k = 4 ∨ k = 5 ∨ k = 6 ∨ k = 7 ∨ k = 8 ∨ k = 9 ∨ k = 10 ∨ k = 11 ∨ k = 12 ∨ k = 13 ∨ k = 14 ∨ k = 15 ∨ k = 16 ∨ k = 17 ∨ k = 18 ∨ k = 19 ∨ k = 20 ∨ k = 21 ∨ k = 22 ∨ k = 23 ∨ k = 24 ∨ k = 25 ∨ k = 26 := by
 unfold known at h
 simp only [Bool.and_eq_true, decide_eq_true_eq] at h
 omega
theorem nk_ok {n : Node} (h : known n.kind = true) (hk : Qi n = true) : nkOk n.kind n.kids.length := by
 unfold Qi at hk
 generalize n.kind = k at h hk ⊢
 generalize hl : n.kids.length = nk at hk ⊢
 rcases kinds h with rfl | rfl | rfl | rfl | rfl | rfl | rfl | rfl | rfl | rfl | rfl | rfl | rfl | rfl | rfl | rfl | rfl | rfl | rfl | rfl | rfl | rfl | rfl | rfl | rfl | rfl
 all_goals simp only [jg, shapes, Int.reduceToNat, List.getD_cons_succ, List.getD_cons_zero, List.length_cons, List.length_nil, Int.reduceEq, false_and, ite_false, true_and, ite_true, nkOk, or_self, or_false, false_or, and_true, and_false, or_true, true_or, Prod.mk.injEq, if_false, if_true] at hk ⊢
 all_goals (try (split at hk))
 all_goals (try (split at hk))
 all_goals (try omega)
 all_goals (try (cases hk; done))
theorem nk_eq (d : Int) {k : Int} (t : BA) {nk : Nat} (l : BA) (v : Int) (h : known k = true) (hk : nkOk k nk) : nkS (stepsOf d k t nk l v) = nk := by
 rcases kinds h with rfl | rfl | rfl | rfl | rfl | rfl | rfl | rfl | rfl | rfl | rfl | rfl | rfl | rfl | rfl | rfl | rfl | rfl | rfl | rfl | rfl | rfl | rfl | rfl | rfl | rfl
 all_goals simp only [nkOk, Int.reduceEq, ite_false, ite_true, or_self, or_false, false_or, or_true, true_or, stepsOf, uf, nk_file, nk_all, nk_rest, nkS, wv, kl] at hk ⊢
 all_goals (try omega)
 all_goals (split <;> simp only [nkS] <;> omega)
theorem own_eq (d : Int) {n : Node} (l : BA) (v : Int) (h : known n.kind = true) (hk : nkOk n.kind n.kids.length) (hn : n.kids.length ≤ 50000) : own n = ((wordsS (stepsOf d n.kind n.text n.kids.length l v)).length : Int) := by
 unfold own
 rw [h, if_neg (by decide)]
 generalize n.kind = k at h hk ⊢
 rcases kinds h with rfl | rfl | rfl | rfl | rfl | rfl | rfl | rfl | rfl | rfl | rfl | rfl | rfl | rfl | rfl | rfl | rfl | rfl | rfl | rfl | rfl | rfl | rfl | rfl | rfl | rfl
 all_goals simp only [nkOk, ownN, Int.reduceEq, ite_false, ite_true, or_self, or_false, false_or, or_true, true_or, stepsOf, jq, own_file, Z1, Y6, own_rest, wordsS, wv, kl, List.length_append, List.length_cons, List.length_nil] at hk ⊢
 all_goals (try rfl)
 all_goals (try (rw [zq (by omega) (by omega)]; omega))
 all_goals (split <;> rfl)
theorem own_le (d : Int) {n : Node} (l : BA) (v : Int) (h : known n.kind = true) (hk : nkOk n.kind n.kids.length) : (wordsS (stepsOf d n.kind n.text n.kids.length l v)).length ≤ n.kids.length + 5 := by
 generalize n.kind = k at h hk ⊢
 rcases kinds h with rfl | rfl | rfl | rfl | rfl | rfl | rfl | rfl | rfl | rfl | rfl | rfl | rfl | rfl | rfl | rfl | rfl | rfl | rfl | rfl | rfl | rfl | rfl | rfl | rfl | rfl
 all_goals simp only [nkOk, Int.reduceEq, ite_false, ite_true, or_self, or_false, false_or, or_true, true_or, stepsOf, jq, own_file, Z1, Y6, own_rest, wordsS, wv, kl, List.length_append, List.length_cons, List.length_nil] at hk ⊢
 all_goals (try omega)
 all_goals (split <;> simp only [wordsS, List.length_cons, List.length_nil] <;> omega)
theorem mem_leads {l : BA} {v : Int} : ∀ {S : List Step}, Step.kid l v ∈ S → (l, v) ∈ jb S
 | .own c w :: r, h => by
   rw [jb]
   rcases List.mem_cons.1 h with h | h
   ·cases h
   ·exact mem_leads h
 | .kid a b :: r, h => by
   rw [jb]
   rcases List.mem_cons.1 h with h | h
   ·cases h; exact List.mem_cons_self ..
   ·exact List.mem_cons_of_mem _ (mem_leads h)
theorem lev_rest (v : Int) (r : Nat) {x : BA × Int} (h : x ∈ jb (jr v true r)) : x.2 = v := by
 obtain ⟨i, hi⟩ := List.getElem?_of_mem h
 rw [Zk v r i x hi]
theorem lev_all (l : BA) (v : Int) (r : Nat) {x : BA × Int} (h : x ∈ jb (allS l v r)) : x.2 = v := by
 obtain ⟨i, hi⟩ := List.getElem?_of_mem h
 rw [J7 l v r i x hi]
theorem lev_file (l : BA) (v : Int) (r : Nat) {x : BA × Int} (h : x ∈ jb (y6 v l r)) : x.2 = v := by
 obtain ⟨i, hi⟩ := List.getElem?_of_mem h
 rw [Yx v r i l x hi]
theorem Yw (d : Int) (hd : d = 0 ∨ d = 1) {k : Int} {t : BA} {nk : Nat} {l l' : BA} {v v' : Int} (hk : known k = true) (h : Step.kid l' v' ∈ stepsOf d k t nk l v) : v ≤ v' ∧ v' ≤ v + 1 := by
 have key : ∀ x ∈ jb (stepsOf d k t nk l v), v ≤ x.2 ∧ x.2 ≤ v + 1 := by
  intro x hx
  rcases kinds hk with rfl | rfl | rfl | rfl | rfl | rfl | rfl | rfl | rfl | rfl | rfl | rfl | rfl | rfl | rfl | rfl | rfl | rfl | rfl | rfl | rfl | rfl | rfl | rfl | rfl | rfl
  case' inr.inr.inr.inr.inr.inr.inr.inl => by_cases c : t = e0 <;> simp [stepsOf, c, jb] at hx
  case' inr.inr.inr.inr.inr.inr.inr.inr.inr.inr.inr.inr.inr.inl => by_cases c : nk = 0 <;> simp [stepsOf, c, jb] at hx
  all_goals try simp only [stepsOf, Int.reduceEq, ite_false, ite_true, Qg, jb, List.mem_append, List.mem_cons, List.not_mem_nil, or_false, false_or, wv, kl, List.append_nil] at hx
  all_goals first
   | (have := lev_file _ _ _ hx; omega)
   | (have := lev_rest _ _ hx; omega)
   | (have := lev_all _ _ _ hx; omega)
   | (rcases hx with rfl | hx
      ·dsimp only; omega
      ·first
       | (have := lev_rest _ _ hx; omega)
       | (have := lev_all _ _ _ hx; omega))
   | (rcases hx with rfl | rfl | rfl <;> dsimp only <;> omega)
   | (rcases hx with rfl | rfl <;> dsimp only <;> omega)
   | (subst hx; dsimp only; omega)
 exact key _ (mem_leads h)
structure WN (n : Node) : Prop where
 kn : known n.kind = true
 nk : nkOk n.kind n.kids.length
 le : n.kids.length ≤ 200
 gaps : ∀ d l v, n.gaps = [] ∨ n.gaps.length = (wordsS (stepsOf d n.kind n.text n.kids.length l v)).length
 base : n.kind = 7 → ∀ m, n.kids[0]? = some m → m.kind = 8
 kids : ∀ m ∈ n.kids, checkErr m = 0
theorem wn {n : Node} (h : checkErr n = 0) : WN n := by
 obtain ⟨p1, p2, p3⟩ := parts n h
 obtain ⟨_, _, _, h3⟩ := check_ok h
 obtain ⟨h4, _⟩ := first_ok h3
 obtain ⟨k0, k1, _⟩ := node_ok h4
 have k2 := nk_ok k0 k1
 refine ⟨k0, k2, p1, fun d l v => ?_, fun h7 m hm => ?_, fun m hm => ?_⟩
 ·rw [own_eq d l v k0 k2 (by omega)] at p2
  exact p2.imp id (fun e => by omega)
 ·have := (p3 0 m hm).2
  rw [h7] at this
  unfold fits at this
  simp only [Bool.and_eq_true] at this
  have h8 := this.2
  rw [show Qy 7 ((0 : Nat) : Int) = (8, 0) from rfl] at h8
  simp at h8; exact h8.symm
 ·obtain ⟨i, hi⟩ := List.getElem?_of_mem hm
  exact (p3 i m hi).1
theorem toks_base (n : Node) (h : n.kind = 8) (l : BA) (v v' d d' : Int) : toks d n l v = toks d' n l v' := by
 have e : ∀ (st : List Step), nkS st = 0 → ∀ g ks ks', j5 st g ks = j5 st g ks' := by
  intro st
  induction st with
  | nil => intro _ g ks ks'; rfl
  | cons a r ih =>
    intro hz g ks ks'
    cases a with
    | own c w => cases g <;> rw [j5, j5, ih (by rw [nkS] at hz; exact hz) _ ks ks']
    | kid l v => rw [nkS] at hz; omega
 rw [vi, vi, h]
 have hs : stepsOf d' 8 n.text n.kids.length l v' = stepsOf d 8 n.text n.kids.length l v := rfl
 rw [hs]
 apply e
 show nkS (if n.text = e0 then [] else _) = 0
 split <;> rfl
theorem lay_base (n : Node) (h : n.kind = 8) (l : BA) (v v' d d' : Int) : layN d n l v = layN d' n l v' := by
 rw [Kh, Kh, h]
 have hs : stepsOf d' 8 n.text n.kids.length l v' = stepsOf d 8 n.text n.kids.length l v := rfl
 rw [hs]
 have : ∀ ks, layW (stepsOf d 8 n.text n.kids.length l v) ks = [] := by
  intro ks
  show layW (if n.text = e0 then [] else _) ks = []
  split <;> rfl
 rw [this, this]
mutual
/-- How deep the name of a class's base class is does not matter. -/
theorem toks_01 : ∀ n : Node, checkErr n = 0 → ∀ l v, toks 1 n l v = toks 0 n l v ∧ layN 1 n l v = layN 0 n l v
 | .mk k t g ks, h, l, v => by
   have w := wn h
   have ih := toks_01L ks w.kids
   rw [vi, vi, Kh, Kh]
   show j5 (stepsOf 1 k t ks.length l v) g (y9 1 ks) = j5 (stepsOf 0 k t ks.length l v) g (y9 0 ks) ∧ Node.mk k t (jj (stepsOf 1 k t ks.length l v)) (layW (stepsOf 1 k t ks.length l v) (layL 1 ks)) = Node.mk k t (jj (stepsOf 0 k t ks.length l v)) (layW (stepsOf 0 k t ks.length l v) (layL 0 ks))
   rw [ih.1, ih.2]
   by_cases h7 : k = 7
   ·subst h7
    have hb := w.base rfl
    have hn : 1 ≤ ks.length := w.nk
    cases ks with
    | nil => simp at hn
    | cons m r =>
      have hm : m.kind = 8 := hb m rfl
      simp only [stepsOf, Int.reduceEq, ite_false, ite_true]
      rw [y9, layL]
      have e1 := toks_base m hm sp (v + 1) (v + 0) 0 0
      have e2 := lay_base m hm sp (v + 1) (v + 0) 0 0
      refine ⟨?_, ?_⟩
      ·cases g with
       | nil => simp only [j5, e1]
       | cons a g => cases g with
         | nil => simp only [j5, e1]
         | cons b g => simp only [j5, e1]
      ·simp only [jj, layW, e2]
   ·have : stepsOf 1 k t ks.length l v = stepsOf 0 k t ks.length l v := by unfold stepsOf; simp only [if_neg h7]
    rw [this]; exact ⟨rfl, rfl⟩
theorem toks_01L : ∀ ks : List Node, (∀ m ∈ ks, checkErr m = 0) → y9 1 ks = y9 0 ks ∧ layL 1 ks = layL 0 ks
 | [], _ => ⟨rfl, rfl⟩
 | m :: r, h => by
   have a := toks_01 m (h m (List.mem_cons_self ..))
   have b := toks_01L r (fun x hx => h x (List.mem_cons_of_mem _ hx))
   rw [y9, y9, layL, layL, b.1, b.2]
   exact ⟨by rw [show toks 1 m = toks 0 m from funext fun l => funext fun v => (a l v).1], by rw [show layN 1 m = layN 0 m from funext fun l => funext fun v => (a l v).2]⟩
end
end Go.Proofs.YtbdhekefhcjhaaaGreatDoorW.Ex.Gr
