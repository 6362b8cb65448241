/- Tokens in plain words: what a text reads, tokens side by side. Conditions: those in each theorem. -/
import Derived.Test.YtigmilhpeodhbaaDoorKe
namespace Go.Proofs.YtigmilhpeodhbaaDoorW.Ex.Gr
open Go Go.Proofs.YtigmilhpeodhbaaDoorW.Ex Go.Proofs.YtigmilhpeodhbaaDoorW.Plain
set_option linter.all false
set_option maxRecDepth 100000
namespace Tk
def runL : List UInt8 → Nat
 | [] => 0
 | c :: l => if letC c = true then runL l + 1 else 0
theorem qmr : ∀ l, runL l ≤ l.length
 | [] => Nat.le_refl _
 | c :: l => by
   rw [runL, List.length_cons]
   have := qmr l
   split <;> omega
def j6 : List UInt8 → Nat × Int
 | [] => (0, 0)
 | c :: l =>
   if letC c = true then
    (if digC c = true then (if y7 ((c :: l).take (runL (c :: l))) = true then (runL (c :: l), 2) else (0, 0))
     else if runL (c :: l) ≤ 32 then (runL (c :: l), 1) else (0, 0))
   else if Yb c = false then (0, 0)
   else if c = 47 ∧ l.head? = some 47 then (0, 0)
   else if c = 61 ∧ l.head? = some 61 then (2, 3)
   else (1, 3)
theorem qsy {c : UInt8} (h : digC c = true) : letC c = true := by
 unfold letC
 have : ug (c.toNat : Int) = true := h
 rw [this]; rfl
theorem qh3 {c : UInt8} (l : List UInt8) (h : letC c = true) : 0 < runL (c :: l) := by rw [runL, if_pos h]; omega
theorem qbe {c : UInt8} (l : List UInt8) (hd : digC c = true) : j6 (c :: l) = if y7 ((c :: l).take (runL (c :: l))) = true then (runL (c :: l), 2) else (0, 0) := by
 rw [j6, if_pos (qsy hd), if_pos hd]
theorem qbd {c : UInt8} (l : List UInt8) (hw : letC c = true) (hd : digC c = false) : j6 (c :: l) = if runL (c :: l) ≤ 32 then (runL (c :: l), 1) else (0, 0) := by
 rw [j6, if_pos hw, hd, if_neg (by decide)]
theorem qe2 {c : UInt8} (l : List UInt8) (hw : letC c = false) (hm : Yb c = false) : j6 (c :: l) = (0, 0) := by
 rw [j6, hw, if_neg (by decide), if_pos hm]
theorem Wr {c : UInt8} (l : List UInt8) (hw : letC c = false) (hm : Yb c = true) : j6 (c :: l) = if c = 47 ∧ l.head? = some 47 then (0, 0) else if c = 61 ∧ l.head? = some 61 then (2, 3) else (1, 3) := by
 rw [j6, hw, if_neg (by decide), hm, if_neg (by decide)]
def Qs (l : List UInt8) : Int := if (j6 l).1 = l.length then (j6 l).2 else 0
theorem qoi : ∀ (l r : List UInt8), ye l = some r → ∃ p, l = p ++ r
 | [], r, h => by simp [ye] at h
 | c :: l, r, h => by
   have e : ye (c :: l) = if c = 10 then some l else ye l := rfl
   rw [e] at h
   split at h
   ·cases h; exact ⟨[c], rfl⟩
   obtain ⟨p, hp⟩ := qoi l r h
   exact ⟨c :: p, by rw [hp]; rfl⟩
theorem qvu (l r : List UInt8) (h : kg l = some r) : ∃ p, l = p ++ r := by
 cases l with
 | nil => simp [kg] at h
 | cons c l =>
   rw [wa] at h
   split at h
   ·cases h; exact ⟨[c], rfl⟩
   split at h
   ·obtain ⟨p, hp⟩ := qoi l r h
    exact ⟨c :: p, by rw [hp]; rfl⟩
   cases h
theorem qey (l : List UInt8) : ∃ p, l = p ++ qt l := by
 have : ∀ n l, ∃ p, l = p ++ Qx n l := by
  intro n
  induction n with
  | zero => exact fun l => ⟨[], rfl⟩
  | succ n ih =>
    intro l
    unfold Qx
    cases hs : kg l with
    | none => exact ⟨[], rfl⟩
    | some r =>
      obtain ⟨p, hp⟩ := qvu l r hs
      obtain ⟨q, hq⟩ := ih r
      exact ⟨p ++ q, by simp only; rw [List.append_assoc, ← hq, ← hp]⟩
 exact this _ l
theorem qun (l : List UInt8) : qt l = l.drop (l.length - (qt l).length) := by
 obtain ⟨p, hp⟩ := qey l
 have hl : l.length - (qt l).length = p.length := by
  have := congrArg List.length hp
  rw [List.length_append] at this; omega
 rw [hl]
 conv => rhs; rw [hp]
 rw [List.drop_left']; rfl
theorem qh8 (l : List UInt8) : (j6 l).1 ≤ l.length := by
 cases l with
 | nil => exact Nat.le_refl _
 | cons c l =>
   have := qmr (c :: l)
   rw [j6]
   split
   ·split
    ·split
     ·exact this
     exact Nat.zero_le _
    split
    ·exact this
    exact Nat.zero_le _
   split
   ·exact Nat.zero_le _
   split
   ·exact Nat.zero_le _
   split
   ·rename_i h
    cases l with
    | nil => simp at h
    | cons d l => simp
   simp
theorem qi7 (l : List UInt8) (h : (j6 l).2 ≠ 0) : 0 < (j6 l).1 := by
 cases l with
 | nil => exact absurd rfl h
 | cons c l =>
   rw [j6] at h ⊢
   by_cases hw : letC c = true
   ·have := qh3 l hw
    rw [if_pos hw] at h ⊢
    split
    ·rename_i hd
     rw [if_pos hd] at h
     split
     ·exact this
     rename_i hi; rw [if_neg hi] at h; exact absurd rfl h
    rename_i hd
    rw [if_neg hd] at h
    split
    ·exact this
    rename_i hi; rw [if_neg hi] at h; exact absurd rfl h
   rw [if_neg hw] at h ⊢
   split
   ·rename_i hm; rw [if_pos hm] at h; exact absurd rfl h
   rename_i hm
   rw [if_neg hm] at h
   split
   ·rename_i h7; rw [if_pos h7] at h; exact absurd rfl h
   split <;> decide
def Ju (S : Nat) : Nat → List UInt8 → Except Nat (List Token)
 | 0, _ => .ok []
 | f + 1, l =>
   if qt l = [] then .ok [⟨4, ofB l, ⟨#[]⟩, (S : Int)⟩]
   else if (j6 (qt l)).2 = 0 then .error (S - (qt l).length)
   else match Ju S f ((qt l).drop (j6 (qt l)).1) with
    | .ok m => .ok (⟨(j6 (qt l)).2, ofB (l.take (l.length - (qt l).length)), ofB ((qt l).take (j6 (qt l)).1), ((S - (qt l).length : Nat) : Int)⟩ :: m)
    | .error e => .error e
def endT (acc : List Token) : Except Nat (List Token) → List Token × Int × Int
 | .ok m => (acc ++ m, 0, 0)
 | .error e => ([], 1, (e : Int))
theorem qxj (acc : List Token) (t : Token) (x : Except Nat (List Token)) : endT (acc ++ [t]) x = endT acc (match x with | .ok m => .ok (t :: m) | .error e => .error e) := by
 cases x with
 | ok m => simp [endT]
 | error e => rfl
theorem qse : ∀ (l r : List UInt8), runL l = l.length → (∀ c, r.head? = some c → letC c = false) → runL (l ++ r) = l.length
 | [], r, _, h => by
   cases r with
   | nil => rfl
   | cons c r => rw [List.nil_append, runL, h c rfl]; rfl
 | c :: l, r, h, h2 => by
   rw [runL] at h
   split at h
   ·rename_i hc
    rw [List.length_cons] at h
    rw [List.cons_append, runL, if_pos hc, qse l r (by omega) h2, List.length_cons]
   rw [List.length_cons] at h; omega
theorem qop : ∀ (l : List UInt8), runL (l.take (runL l)) = runL l
 | [] => rfl
 | c :: l => by
   by_cases hc : letC c = true
   ·have e : runL (c :: l) = runL l + 1 := by rw [runL, if_pos hc]
    rw [e, List.take_succ_cons, runL, if_pos hc, qop l]
   have e : runL (c :: l) = 0 := by rw [runL, if_neg hc]
   rw [e]; rfl
theorem qor : ∀ (l : List UInt8), l ≠ [] → runL l = l.length → letC (l.getLastD 0) = true
 | [], h, _ => absurd rfl h
 | [c], _, h => by
   rw [runL] at h
   split at h
   ·rename_i hc; exact hc
   simp at h
 | c :: d :: l, _, h => by
   rw [runL] at h
   split at h
   ·rw [List.length_cons] at h
    have := qor (d :: l) (by simp) (by omega)
    simpa using this
   rw [List.length_cons] at h; omega
theorem qd3 : letC 47 = false ∧ Yb 47 = true ∧ letC 61 = false ∧ Yb 61 = true ∧ letC 32 = false ∧ Yb 32 = false := by decide
theorem qut (r : List UInt8) (h : (j6 r).2 ≠ 0) : j6 (r.take (j6 r).1) = j6 r := by
 cases r with
 | nil => rfl
 | cons c l =>
   by_cases hw : letC c = true
   ·have hpos := qh3 l hw
    obtain ⟨n, hn⟩ : ∃ n, runL (c :: l) = n + 1 := ⟨runL (c :: l) - 1, by omega⟩
    have ht : (c :: l).take (runL (c :: l)) = c :: l.take n := by rw [hn, List.take_succ_cons]
    have hrt : runL (c :: l.take n) = runL (c :: l) := by rw [← ht, qop]
    have htt : (c :: l.take n).take (runL (c :: l)) = c :: l.take n := by rw [← ht]; exact List.take_of_length_le (by rw [List.length_take]; omega)
    cases hd : digC c with
    | true =>
      rw [qbe l hd] at h ⊢
      by_cases hi : y7 ((c :: l).take (runL (c :: l))) = true
      ·rw [if_pos hi]
       show j6 ((c :: l).take (runL (c :: l))) = _
       rw [ht] at hi ⊢
       rw [qbe _ hd, hrt, htt, if_pos hi]
      rw [if_neg hi] at h; exact absurd rfl h
    | false =>
      rw [qbd l hw hd] at h ⊢
      by_cases hi : runL (c :: l) ≤ 32
      ·rw [if_pos hi]
       show j6 ((c :: l).take (runL (c :: l))) = _
       rw [ht, qbd _ hw hd, hrt, if_pos hi]
      rw [if_neg hi] at h; exact absurd rfl h
   have hw : letC c = false := by simpa using hw
   cases hm : Yb c with
   | false => rw [qe2 l hw hm] at h; exact absurd rfl h
   | true =>
     rw [Wr l hw hm] at h ⊢
     by_cases h7 : c = 47 ∧ l.head? = some 47
     ·rw [if_pos h7] at h; exact absurd rfl h
     rw [if_neg h7]
     by_cases h6 : c = 61 ∧ l.head? = some 61
     ·rw [if_pos h6]
      obtain ⟨rfl, hl⟩ := h6
      cases l with
      | nil => cases hl
      | cons d r => cases hl; show j6 [61, 61] = (2, 3); decide
     rw [if_neg h6]
     show j6 [c] = (1, 3)
     rw [Wr [] hw hm, if_neg (by simp), if_neg (by simp)]
theorem quw (r : List UInt8) (h : (j6 r).2 ≠ 0) : Qs (r.take (j6 r).1) = (j6 r).2 := by
 unfold Qs
 rw [qut r h, if_pos (by rw [List.length_take]; have := qh8 r; omega)]
def qa2 (t r : List UInt8) : Prop := ∀ c, r.head? = some c → ¬ (letC (t.getLastD 0) = true ∧ letC c = true) ∧ ¬ (t = [61] ∧ c = 61) ∧ ¬ (t = [47] ∧ c = 47)
theorem qma (t : List UInt8) : qa2 t [] := fun c h => by cases h
theorem qp2 (t r : List UInt8) : qa2 t (32 :: r) := fun c h => by
 cases h
 refine ⟨fun h => ?_, fun h => ?_, fun h => ?_⟩
 ·rw [qd3.2.2.2.2.1] at h; exact absurd h.2 (by decide)
 ·exact absurd h.2 (by decide)
 exact absurd h.2 (by decide)
theorem kind_cases {t : List UInt8} (h : Qs t ≠ 0) : t ≠ [] ∧ j6 t = (t.length, Qs t) ∧
 ((letC (t.headD 0) = true ∧ runL t = t.length) ∨ (∃ c, t = [c] ∧ letC c = false ∧ Yb c = true ∧ Qs t = 3) ∨ (t = [61, 61] ∧ Qs t = 3)) := by
 have hn : (j6 t).1 = t.length ∧ Qs t = (j6 t).2 := by
  unfold Qs at h ⊢
  split at h
  ·rename_i e; rw [if_pos e]; exact ⟨e, rfl⟩
  exact absurd rfl h
 have h2 : (j6 t).2 ≠ 0 := by rw [← hn.2]; exact h
 cases t with
 | nil => exact absurd rfl h2
 | cons c l =>
   refine ⟨by simp, by rw [← hn.1, hn.2], ?_⟩
   by_cases hw : letC c = true
   ·refine .inl ⟨hw, ?_⟩
    cases hd : digC c with
    | true =>
      rw [qbe l hd] at h2 hn
      split at h2
      ·rename_i hi; rw [if_pos hi] at hn; exact hn.1
      exact absurd rfl h2
    | false =>
      rw [qbd l hw hd] at h2 hn
      split at h2
      ·rename_i hi; rw [if_pos hi] at hn; exact hn.1
      exact absurd rfl h2
   have hw : letC c = false := by simpa using hw
   cases hm : Yb c with
   | false => rw [qe2 l hw hm] at h2; exact absurd rfl h2
   | true =>
     rw [Wr l hw hm] at h2 hn
     by_cases h7 : c = 47 ∧ l.head? = some 47
     ·rw [if_pos h7] at h2; exact absurd rfl h2
     rw [if_neg h7] at hn
     by_cases h6 : c = 61 ∧ l.head? = some 61
     ·rw [if_pos h6] at hn
      obtain ⟨rfl, hl⟩ := h6
      cases l with
      | nil => cases hl
      | cons d r =>
        cases hl
        have := hn.1
        simp only [List.length_cons] at this
        obtain rfl : r = [] := List.length_eq_zero_iff.1 (by omega)
        exact .inr (.inr ⟨rfl, hn.2⟩)
     rw [if_neg h6] at hn
     have := hn.1
     simp only [List.length_cons] at this
     obtain rfl : l = [] := List.length_eq_zero_iff.1 (by omega)
     exact .inr (.inl ⟨c, rfl, hw, hm, hn.2⟩)
theorem qwn {t r : List UInt8} (h : Qs t ≠ 0) (ha : qa2 t r) : j6 (t ++ r) = (t.length, Qs t) := by
 obtain ⟨h0, h1, h2⟩ := kind_cases h
 rcases h2 with ⟨hw, hr⟩ | ⟨c, rfl, hw, hm, hk⟩ | ⟨rfl, hk⟩
 ·have hlast := qor t h0 hr
  have hra := qse t r hr (fun c hc => by
   have := (ha c hc).1
   cases e : letC c with
   | false => rfl
   | true => exact absurd ⟨hlast, e⟩ this)
  cases t with
  | nil => exact absurd rfl h0
  | cons c l =>
    have hw : letC c = true := hw
    rw [← h1, List.cons_append]
    rw [List.cons_append] at hra
    cases hd : digC c with
    | true =>
      rw [qbe _ hd, qbe _ hd, hra, hr, List.take_of_length_le (Nat.le_refl _), ← List.cons_append, List.take_left']
      rfl
    | false => rw [qbd _ hw hd, qbd _ hw hd, hra, hr]
 ·rw [List.singleton_append, Wr r hw hm, hk]
  have h7 : ¬ (c = 47 ∧ r.head? = some 47) := by rintro ⟨rfl, e⟩; exact (ha 47 e).2.2 ⟨rfl, rfl⟩
  have h6 : ¬ (c = 61 ∧ r.head? = some 61) := by rintro ⟨rfl, e⟩; exact (ha 61 e).2.1 ⟨rfl, rfl⟩
  rw [if_neg h7, if_neg h6]; rfl
 rw [hk]
 show j6 (61 :: 61 :: r) = (2, 3)
 rw [Wr _ qd3.2.2.1 qd3.2.2.2.1, if_neg (by simp), if_pos ⟨rfl, rfl⟩]
theorem qvw {t r : List UInt8} (h : Qs t ≠ 0) (ha : qa2 t r) : kg (t ++ r) = none := by
 obtain ⟨h0, h1, h2⟩ := kind_cases h
 have cl : ∀ (c : UInt8) (l : List UInt8), (letC c = true ∨ Yb c = true) → ¬ (c = 47 ∧ l.head? = some 47) → kg (c :: l) = none := by
  intro c l hc h7
  rw [wa, if_neg, if_neg h7]
  rintro (rfl | rfl | rfl) <;> revert hc <;> decide
 rcases h2 with ⟨hw, hr⟩ | ⟨c, rfl, hw, hm, hk⟩ | ⟨rfl, hk⟩
 ·cases t with
  | nil => exact absurd rfl h0
  | cons c l =>
    have hw : letC c = true := hw
    refine cl c _ (.inl hw) ?_
    rintro ⟨rfl, _⟩
    rw [qd3.1] at hw; cases hw
 ·exact cl c r (.inr hm) (by rintro ⟨rfl, e⟩; exact (ha 47 e).2.2 ⟨rfl, rfl⟩)
 exact cl 61 _ (.inr qd3.2.2.2.1) (by rintro ⟨e, _⟩; exact absurd e (by decide))
theorem qv5 {t r : List UInt8} (h : Qs t ≠ 0) (ha : qa2 t r) : qt (t ++ r) = t ++ r := Jb _ (qvw h ha)
theorem qoj : ∀ (p r q : List UInt8), ye (p ++ r) = some (q ++ r) → q.length < p.length → ye p = some q
 | [], r, q, h, hl => absurd hl (by simp)
 | c :: p, r, q, h, hl => by
   have e : ye (c :: (p ++ r)) = if c = 10 then some (p ++ r) else ye (p ++ r) := rfl
   have e2 : ye (c :: p) = if c = 10 then some p else ye p := rfl
   rw [List.cons_append, e] at h
   rw [e2]
   split at h
   ·rename_i hc
    rw [if_pos hc]
    have := List.append_cancel_right (Option.some.inj h)
    rw [this]
   rename_i hc
   rw [if_neg hc]
   have hlt := Wn _ _ h
   rw [List.length_append, List.length_append] at hlt
   exact qoj p r q h (by omega)
theorem qvv (p r q : List UInt8) (h : kg (p ++ r) = some (q ++ r)) : kg p = some q := by
 have hlt := Jt _ _ h
 rw [List.length_append, List.length_append] at hlt
 cases p with
 | nil => simp at hlt; omega
 | cons c p =>
   rw [List.cons_append, wa] at h
   rw [wa]
   split at h
   ·rename_i hc
    rw [if_pos hc, List.append_cancel_right (Option.some.inj h)]
   rename_i hc
   rw [if_neg hc]
   split at h
   ·rename_i h7
    have hlt := Wn _ _ h
    rw [List.length_append, List.length_append] at hlt
    cases p with
    | nil => simp at hlt; omega
    | cons d p =>
      rw [if_pos ⟨h7.1, by have := h7.2; rw [List.cons_append, List.head?_cons] at this; exact this⟩]
      exact qoj _ r q h (by omega)
   cases h
theorem qv4 (p r : List UInt8) (h : qt (p ++ r) = r) : qt p = [] := by
 have : ∀ n (p r : List UInt8), p.length ≤ n → qt (p ++ r) = r → qt p = [] := by
  intro n
  induction n with
  | zero =>
    intro p r hl _
    obtain rfl : p = [] := List.length_eq_zero_iff.1 (by omega)
    rfl
  | succ n ih =>
    intro p r hl h
    cases hs : kg (p ++ r) with
    | none =>
      rw [Jb _ hs] at h
      have := congrArg List.length h
      rw [List.length_append] at this
      obtain rfl : p = [] := List.length_eq_zero_iff.1 (by omega)
      rfl
    | some x =>
      rw [Zh _ _ hs] at h
      obtain ⟨q, hq⟩ := qey x
      rw [h] at hq
      subst hq
      have h2 := qvv p r q hs
      have hlt := Jt _ _ h2
      rw [Zh _ _ h2]
      exact ih q r (by omega) h
 exact this p.length p r (Nat.le_refl _) h
theorem qxx {a b : List UInt8} (ha : Qs a ≠ 0) (hb : Qs b ≠ 0) (h : qlv a b = false) : qa2 a b := by
 obtain ⟨a0, a1, _⟩ := kind_cases ha
 obtain ⟨b0, b1, b2⟩ := kind_cases hb
 unfold qlv at h
 rw [if_neg (by simp [a0, b0])] at h
 intro c hc
 cases b with
 | nil => exact absurd rfl b0
 | cons d r =>
   cases hc
   split at h
   ·cases h
   rename_i hw
   refine ⟨hw, ?_, ?_⟩
   ·rintro ⟨rfl, rfl⟩
    rcases b2 with ⟨hw, _⟩ | ⟨c, e, _⟩ | ⟨e, _⟩
    ·have : letC 61 = true := hw
     rw [qd3.2.2.1] at this; cases this
    ·cases e; simp at h
    cases e; simp at h
   rintro ⟨rfl, rfl⟩
   rcases b2 with ⟨hw, _⟩ | ⟨c, e, _⟩ | ⟨e, _⟩
   ·have : letC 47 = true := hw
    rw [qd3.1] at this; cases this
   ·cases e; simp at h
   cases e
end Tk
end Go.Proofs.YtigmilhpeodhbaaDoorW.Ex.Gr
