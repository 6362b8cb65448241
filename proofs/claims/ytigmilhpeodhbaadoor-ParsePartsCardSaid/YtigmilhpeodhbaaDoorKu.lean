/- The source of a tree is read as its words: the plain law. Conditions: those in each theorem. -/
import Derived.Test.YtigmilhpeodhbaaDoorKb
namespace Go.Proofs.YtigmilhpeodhbaaDoorW.Ex.Gr
open Go Go.Proofs.YtigmilhpeodhbaaDoorW.Ex Go.Proofs.YtigmilhpeodhbaaDoorW.Plain Tk
set_option linter.all false
set_option maxRecDepth 100000
theorem qok : ∀ (l r q : List UInt8), ye l = some q → ye (l ++ r) = some (q ++ r)
 | [], r, q, h => by cases h
 | c :: l, r, q, h => by
   have e : ∀ l, ye (c :: l) = if c = 10 then some l else ye l := fun _ => rfl
   rw [e] at h
   rw [List.cons_append, e]
   by_cases hc : c = 10
   ·rw [if_pos hc] at h ⊢; cases h; rfl
   rw [if_neg hc] at h ⊢; exact qok l r q h
theorem qud {l q : List UInt8} (r : List UInt8) (h : kg l = some q) : kg (l ++ r) = some (q ++ r) := by
 cases l with
 | nil => cases h
 | cons c l =>
   rw [wa] at h
   rw [List.cons_append, wa]
   by_cases hb : c = 32 ∨ c = 9 ∨ c = 10
   ·rw [if_pos hb] at h ⊢; cases h; rfl
   rw [if_neg hb] at h ⊢
   by_cases hc : c = 47 ∧ l.head? = some 47
   ·rw [if_pos hc] at h
    have : c = 47 ∧ (l ++ r).head? = some 47 := ⟨hc.1, by cases l with
     | nil => simp at hc
     | cons d l => simpa using hc.2⟩
    rw [if_pos this]; exact qok l r q h
   rw [if_neg hc] at h; cases h
theorem qup (p r : List UInt8) (h : qt p = []) : qt (p ++ r) = qt r := by
 have key : ∀ (j : Nat) (p : List UInt8), p.length ≤ j → qt p = [] → qt (p ++ r) = qt r := by
  intro j
  induction j with
  | zero =>
    intro p hj _
    obtain rfl : p = [] := List.length_eq_zero_iff.1 (by omega)
    rfl
  | succ j ih =>
    intro p hj h
    cases hs : kg p with
    | none =>
      rw [Jb _ hs] at h
      rw [h]; rfl
    | some q =>
      rw [Zh _ _ hs] at h
      rw [Zh _ _ (qud r hs)]
      exact ih q (by have := Jt _ _ hs; omega) h
 exact key p.length p (Nat.le_refl _) h
theorem qqq (s : BA) (h : trivValid s = true) : qt (L s) = [] := by
 unfold trivValid at h
 rw [show (0 : Int) = ((0 : Nat) : Int) from rfl, qfm (Nat.zero_le _)] at h
 have h := of_decide_eq_true h
 unfold ku at h
 rw [List.drop_zero] at h
 have h2 := Wk (L s)
 rw [Jv] at h2
 have : (qt (L s)).length = 0 := by
  have h : ((s.size - (qt s.data.toList).length : Nat) : Int) = (s.size : Int) := h
  have h3 : (qt (L s)).length ≤ s.size := h2
  show (qt s.data.toList).length = 0
  have h4 : (qt s.data.toList).length ≤ s.size := h3
  by_cases z : s.size = 0
  ·omega
  omega
 exact List.length_eq_zero_iff.1 this
theorem qlq : ∀ (l : List UInt8) (i : Nat), Qg i l = true → Tk.runL l = l.length
 | [], i, h => rfl
 | c :: l, i, h => by
   unfold Qg at h
   simp only [Bool.and_eq_true, Bool.or_eq_true] at h
   have hw : letC c = true := by
    unfold letC
    rcases h.1 with a | a
    ·rw [a]; simp
    rw [a.2]; rfl
   rw [Tk.runL, if_pos hw, qlq l (i + 1) h.2]; rfl
theorem qla : ∀ (l : List UInt8) (n v : Int), jg n l = some v → Tk.runL l = l.length
 | [], n, v, h => rfl
 | c :: l, n, v, h => by
   unfold jg at h
   split at h
   ·rename_i hd
    have hw : letC c = true := by unfold letC; rw [hd]; rfl
    rw [Tk.runL, if_pos hw, qla l _ v h]; rfl
   cases h
def okW (w : BA) : Prop := Qs (L w) ≠ 0
theorem qe3 {v : BA} {l : List BA} (h : memB v l = true) : v ∈ l := by
 unfold memB at h
 obtain ⟨w, hw, e⟩ := List.any_eq_true.1 h
 rw [of_decide_eq_true e]; exact hw
def good : List Tok → Prop
 | [] => True
 | (g, w) :: T => qt (L g) = [] ∧ ((okW w ∧ good T) ∨ (w = e0 ∧ T = []))
def qcm (x : Tok) : Prop := qt (L x.1) = [] ∧ okW x.2
theorem qs9 : ∀ (T : List Tok), (∀ x ∈ T, qcm x) → good T
 | [], _ => trivial
 | (g, w) :: T, h => ⟨(h _ (List.mem_cons_self ..)).1, .inl ⟨(h _ (List.mem_cons_self ..)).2, qs9 T (fun x hx => h x (List.mem_cons_of_mem _ hx))⟩⟩
theorem qfd : ∀ (T : List Tok) (g : BA), (∀ x ∈ T, qcm x) → qt (L g) = [] → good (T ++ [(g, e0)])
 | [], g, _, hg => ⟨hg, .inr ⟨rfl, rfl⟩⟩
 | (a, w) :: T, g, h, hg => ⟨(h _ (List.mem_cons_self ..)).1, .inl ⟨(h _ (List.mem_cons_self ..)).2, qfd T g (fun x hx => h x (List.mem_cons_of_mem _ hx)) hg⟩⟩
def sepL (last g w : List UInt8) : List UInt8 := if J6 last g w = true then [32] else []
def sfx : BA → List Tok → List UInt8
 | _, [] => []
 | last, (g, w) :: T => sepL (L last) (L g) (L w) ++ (L g ++ (L w ++ sfx w T))
theorem qr8 : ∀ (T : List Tok) (s : List UInt8) (last : BA), (srcL T s last).1 = s ++ sfx last T
 | [], s, last => by rw [srcL, sfx, List.append_nil]
 | (g, w) :: T, s, last => by rw [srcL, qr8 T, outL, sfx, sepL, List.append_assoc, List.append_assoc, List.append_assoc]
theorem qu5 (w : BA) (hw : okW w) : ∀ (T : List Tok), good T → qa2 (L w) (sfx w T)
 | [], _ => qma _
 | (g, w') :: T, h => by
   obtain ⟨hg, h2⟩ := h
   rw [sfx, sepL]
   cases hs : J6 (L w) (L g) (L w') with
   | true => rw [if_pos rfl]; exact qp2 _ _
   | false =>
     rw [if_neg (by decide), List.nil_append]
     unfold J6 at hs
     cases hG : L g with
     | nil =>
       rw [hG, if_pos rfl] at hs
       rw [List.nil_append]
       rcases h2 with ⟨h3, h4⟩ | ⟨rfl, rfl⟩
       ·have ha := qxx hw h3 hs
        intro c hc
        refine ha c ?_
        have hne := (Tk.kind_cases h3).1
        cases hq : L w' with
        | nil => exact absurd hq hne
        | cons d r => rw [hq] at hc; simpa using hc
       rw [show sfx e0 [] = [] from rfl]; exact qma _
     | cons d r =>
       rw [hG, if_neg (by simp)] at hs
       intro c hc
       rw [List.cons_append] at hc
       simp only [List.head?_cons, Option.some.injEq] at hc
       subst hc
       -- the first byte of trivia
       have hd : d = 32 ∨ d = 9 ∨ d = 10 ∨ d = 47 := by
        cases hq : kg (L g) with
        | none => rw [Jb _ hq, hG] at hg; cases hg
        | some q =>
          rw [hG, wa] at hq
          by_cases hb : d = 32 ∨ d = 9 ∨ d = 10
          ·rcases hb with hb | hb | hb
           ·exact .inl hb
           ·exact .inr (.inl hb)
           exact .inr (.inr (.inl hb))
          rw [if_neg hb] at hq
          by_cases h47 : d = 47 ∧ r.head? = some 47
          ·exact .inr (.inr (.inr h47.1))
          rw [if_neg h47] at hq; cases hq
       have hlet : letC d = false := by rcases hd with rfl | rfl | rfl | rfl <;> decide
       have h61 : d ≠ 61 := by rcases hd with rfl | rfl | rfl | rfl <;> decide
       refine ⟨fun q => ?_, fun q => h61 q.2, fun q => ?_⟩
       ·have q2 := q.2
        rw [hlet] at q2; cases q2
       rw [q.1, q.2] at hs
       simp at hs
end Go.Proofs.YtigmilhpeodhbaaDoorW.Ex.Gr
