/- Tokens in plain words: what a text reads, tokens side by side. Conditions: those in each theorem. -/
import Derived.Test.YtigmilhpeodhbaaGreatDoorKe
namespace Go.Proofs.YtigmilhpeodhbaaGreatDoorW.Ex.Gr
open Go Go.Proofs.YtigmilhpeodhbaaGreatDoorW.Ex Go.Proofs.YtigmilhpeodhbaaGreatDoorW.Plain
set_option linter.all false
set_option maxRecDepth 100000
namespace Tk
def runL : List UInt8 → Nat
 | [] => 0
 | c :: l => if letC c = true then runL l + 1 else 0
theorem qmg : ∀ l, runL l ≤ l.length
 | [] => Nat.le_refl _
 | c :: l => by
   rw [runL, List.length_cons]
   have := qmg l
   split <;> omega
/-- The length and the kind of the token with which a text begins; the kind 0 if there is none. -/
def kh : List UInt8 → Nat × Int
 | [] => (0, 0)
 | c :: l =>
   if letC c = true then
    (if digC c = true then (if kp ((c :: l).take (runL (c :: l))) = true then (runL (c :: l), 2) else (0, 0))
     else if runL (c :: l) ≤ 32 then (runL (c :: l), 1) else (0, 0))
   else if qcd c = false then (0, 0)
   else if c = 47 ∧ l.head? = some 47 then (0, 0)
   else if c = 61 ∧ l.head? = some 61 then (2, 3)
   else (1, 3)
theorem qxm {c : UInt8} (h : digC c = true) : letC c = true := by
 unfold letC
 have : yn (c.toNat : Int) = true := h
 rw [this]; rfl
theorem qrg {c : UInt8} (l : List UInt8) (h : letC c = true) : 0 < runL (c :: l) := by rw [runL, if_pos h]; omega
theorem qnt {c : UInt8} (l : List UInt8) (hd : digC c = true) : kh (c :: l) = if kp ((c :: l).take (runL (c :: l))) = true then (runL (c :: l), 2) else (0, 0) := by
 rw [kh, if_pos (qxm hd), if_pos hd]
theorem qns {c : UInt8} (l : List UInt8) (hw : letC c = true) (hd : digC c = false) : kh (c :: l) = if runL (c :: l) ≤ 32 then (runL (c :: l), 1) else (0, 0) := by
 rw [kh, if_pos hw, hd, if_neg (by decide)]
theorem qmi {c : UInt8} (l : List UInt8) (hw : letC c = false) (hm : qcd c = false) : kh (c :: l) = (0, 0) := by
 rw [kh, hw, if_neg (by decide), if_pos hm]
theorem qjc {c : UInt8} (l : List UInt8) (hw : letC c = false) (hm : qcd c = true) : kh (c :: l) = if c = 47 ∧ l.head? = some 47 then (0, 0) else if c = 61 ∧ l.head? = some 61 then (2, 3) else (1, 3) := by
 rw [kh, hw, if_neg (by decide), hm, if_neg (by decide)]
def qgh (l : List UInt8) : Int := if (kh l).1 = l.length then (kh l).2 else 0
theorem qs8 : ∀ (l r : List UInt8), yi l = some r → ∃ p, l = p ++ r
 | [], r, h => by simp [yi] at h
 | c :: l, r, h => by
   have e : yi (c :: l) = if c = 10 then some l else yi l := rfl
   rw [e] at h
   split at h
   ·cases h; exact ⟨[c], rfl⟩
   ·obtain ⟨p, hp⟩ := qs8 l r h
    exact ⟨c :: p, by rw [hp]; rfl⟩
theorem q0d (l r : List UInt8) (h : uh l = some r) : ∃ p, l = p ++ r := by
 cases l with
 | nil => simp [uh] at h
 | cons c l =>
   rw [Qb] at h
   split at h
   ·cases h; exact ⟨[c], rfl⟩
   ·split at h
    ·obtain ⟨p, hp⟩ := qs8 l r h
     exact ⟨c :: p, by rw [hp]; rfl⟩
    ·cases h
theorem qng (l : List UInt8) : ∃ p, l = p ++ jc l := by
 have : ∀ n l, ∃ p, l = p ++ Jh n l := by
  intro n
  induction n with
  | zero => exact fun l => ⟨[], rfl⟩
  | succ n ih =>
    intro l
    unfold Jh
    cases hs : uh l with
    | none => exact ⟨[], rfl⟩
    | some r =>
      obtain ⟨p, hp⟩ := q0d l r hs
      obtain ⟨q, hq⟩ := ih r
      exact ⟨p ++ q, by simp only; rw [List.append_assoc, ← hq, ← hp]⟩
 exact this _ l
theorem qy4 (l : List UInt8) : jc l = l.drop (l.length - (jc l).length) := by
 obtain ⟨p, hp⟩ := qng l
 have hl : l.length - (jc l).length = p.length := by
  have := congrArg List.length hp
  rw [List.length_append] at this; omega
 rw [hl]
 conv => rhs; rw [hp]
 rw [List.drop_left']; rfl
theorem qmj (l : List UInt8) : (kh l).1 ≤ l.length := by
 cases l with
 | nil => exact Nat.le_refl _
 | cons c l =>
   have := qmg (c :: l)
   rw [kh]
   split
   ·split
    ·split
     ·exact this
     ·exact Nat.zero_le _
    ·split
     ·exact this
     ·exact Nat.zero_le _
   ·split
    ·exact Nat.zero_le _
    ·split
     ·exact Nat.zero_le _
     ·split
      ·rename_i h
       cases l with
       | nil => simp at h
       | cons d l => simp
      ·simp
theorem qnu (l : List UInt8) (h : (kh l).2 ≠ 0) : 0 < (kh l).1 := by
 cases l with
 | nil => exact absurd rfl h
 | cons c l =>
   rw [kh] at h ⊢
   by_cases hw : letC c = true
   ·have := qrg l hw
    rw [if_pos hw] at h ⊢
    split
    ·rename_i hd
     rw [if_pos hd] at h
     split
     ·exact this
     ·rename_i hi; rw [if_neg hi] at h; exact absurd rfl h
    ·rename_i hd
     rw [if_neg hd] at h
     split
     ·exact this
     ·rename_i hi; rw [if_neg hi] at h; exact absurd rfl h
   ·rw [if_neg hw] at h ⊢
    split
    ·rename_i hm; rw [if_pos hm] at h; exact absurd rfl h
    ·rename_i hm
     rw [if_neg hm] at h
     split
     ·rename_i h7; rw [if_pos h7] at h; exact absurd rfl h
     ·split <;> decide
/-- The tokens of the rest l of a source of S bytes (f: more than the bytes that are left), or the offset at which there is none. -/
def qf7 (S : Nat) : Nat → List UInt8 → Except Nat (List Token)
 | 0, _ => .ok []
 | f + 1, l =>
   if jc l = [] then .ok [⟨4, ofB l, ⟨#[]⟩, (S : Int)⟩]
   else if (kh (jc l)).2 = 0 then .error (S - (jc l).length)
   else match qf7 S f ((jc l).drop (kh (jc l)).1) with
    | .ok m => .ok (⟨(kh (jc l)).2, ofB (l.take (l.length - (jc l).length)), ofB ((jc l).take (kh (jc l)).1), ((S - (jc l).length : Nat) : Int)⟩ :: m)
    | .error e => .error e
def endT (acc : List Token) : Except Nat (List Token) → List Token × Int × Int
 | .ok m => (acc ++ m, 0, 0)
 | .error e => ([], 1, (e : Int))
theorem qt6 (acc : List Token) (t : Token) (x : Except Nat (List Token)) : endT (acc ++ [t]) x = endT acc (match x with | .ok m => .ok (t :: m) | .error e => .error e) := by
 cases x with
 | ok m => simp [endT]
 | error e => rfl
theorem qtb : ∀ (l : List UInt8), runL (l.take (runL l)) = runL l
 | [] => rfl
 | c :: l => by
   by_cases hc : letC c = true
   ·have e : runL (c :: l) = runL l + 1 := by rw [runL, if_pos hc]
    rw [e, List.take_succ_cons, runL, if_pos hc, qtb l]
   ·have e : runL (c :: l) = 0 := by rw [runL, if_neg hc]
    rw [e]; rfl
/-- A token is what its own text reads. -/
theorem qy9 (r : List UInt8) (h : (kh r).2 ≠ 0) : kh (r.take (kh r).1) = kh r := by
 cases r with
 | nil => rfl
 | cons c l =>
   by_cases hw : letC c = true
   ·have hpos := qrg l hw
    obtain ⟨n, hn⟩ : ∃ n, runL (c :: l) = n + 1 := ⟨runL (c :: l) - 1, by omega⟩
    have ht : (c :: l).take (runL (c :: l)) = c :: l.take n := by rw [hn, List.take_succ_cons]
    have hrt : runL (c :: l.take n) = runL (c :: l) := by rw [← ht, qtb]
    have htt : (c :: l.take n).take (runL (c :: l)) = c :: l.take n := by rw [← ht]; exact List.take_of_length_le (by rw [List.length_take]; omega)
    cases hd : digC c with
    | true =>
      rw [qnt l hd] at h ⊢
      by_cases hi : kp ((c :: l).take (runL (c :: l))) = true
      ·rw [if_pos hi]
       show kh ((c :: l).take (runL (c :: l))) = _
       rw [ht] at hi ⊢
       rw [qnt _ hd, hrt, htt, if_pos hi]
      ·rw [if_neg hi] at h; exact absurd rfl h
    | false =>
      rw [qns l hw hd] at h ⊢
      by_cases hi : runL (c :: l) ≤ 32
      ·rw [if_pos hi]
       show kh ((c :: l).take (runL (c :: l))) = _
       rw [ht, qns _ hw hd, hrt, if_pos hi]
      ·rw [if_neg hi] at h; exact absurd rfl h
   ·have hw : letC c = false := by simpa using hw
    cases hm : qcd c with
    | false => rw [qmi l hw hm] at h; exact absurd rfl h
    | true =>
      rw [qjc l hw hm] at h ⊢
      by_cases h7 : c = 47 ∧ l.head? = some 47
      ·rw [if_pos h7] at h; exact absurd rfl h
      ·rw [if_neg h7]
       by_cases h6 : c = 61 ∧ l.head? = some 61
       ·rw [if_pos h6]
        obtain ⟨rfl, hl⟩ := h6
        cases l with
        | nil => cases hl
        | cons d r => cases hl; show kh [61, 61] = (2, 3); decide
       ·rw [if_neg h6]
        show kh [c] = (1, 3)
        rw [qjc [] hw hm, if_neg (by simp), if_neg (by simp)]
theorem qze (r : List UInt8) (h : (kh r).2 ≠ 0) : qgh (r.take (kh r).1) = (kh r).2 := by
 unfold qgh
 rw [qy9 r h, if_pos (by rw [List.length_take]; have := qmj r; omega)]
/-- The shapes of a token's text. -/
theorem qid {t : List UInt8} (h : qgh t ≠ 0) : t ≠ [] ∧ kh t = (t.length, qgh t) ∧
 ((letC (t.headD 0) = true ∧ runL t = t.length) ∨ (∃ c, t = [c] ∧ letC c = false ∧ qcd c = true ∧ qgh t = 3) ∨ (t = [61, 61] ∧ qgh t = 3)) := by
 have hn : (kh t).1 = t.length ∧ qgh t = (kh t).2 := by
  unfold qgh at h ⊢
  split at h
  ·rename_i e; rw [if_pos e]; exact ⟨e, rfl⟩
  ·exact absurd rfl h
 have h2 : (kh t).2 ≠ 0 := by rw [← hn.2]; exact h
 cases t with
 | nil => exact absurd rfl h2
 | cons c l =>
   refine ⟨by simp, by rw [← hn.1, hn.2], ?_⟩
   by_cases hw : letC c = true
   ·refine .inl ⟨hw, ?_⟩
    cases hd : digC c with
    | true =>
      rw [qnt l hd] at h2 hn
      split at h2
      ·rename_i hi; rw [if_pos hi] at hn; exact hn.1
      ·exact absurd rfl h2
    | false =>
      rw [qns l hw hd] at h2 hn
      split at h2
      ·rename_i hi; rw [if_pos hi] at hn; exact hn.1
      ·exact absurd rfl h2
   ·have hw : letC c = false := by simpa using hw
    cases hm : qcd c with
    | false => rw [qmi l hw hm] at h2; exact absurd rfl h2
    | true =>
      rw [qjc l hw hm] at h2 hn
      by_cases h7 : c = 47 ∧ l.head? = some 47
      ·rw [if_pos h7] at h2; exact absurd rfl h2
      ·rw [if_neg h7] at hn
       by_cases h6 : c = 61 ∧ l.head? = some 61
       ·rw [if_pos h6] at hn
        obtain ⟨rfl, hl⟩ := h6
        cases l with
        | nil => cases hl
        | cons d r =>
          cases hl
          have := hn.1
          simp only [List.length_cons] at this
          obtain rfl : r = [] := List.length_eq_zero_iff.1 (by omega)
          exact .inr (.inr ⟨rfl, hn.2⟩)
       ·rw [if_neg h6] at hn
        have := hn.1
        simp only [List.length_cons] at this
        obtain rfl : l = [] := List.length_eq_zero_iff.1 (by omega)
        exact .inr (.inl ⟨c, rfl, hw, hm, hn.2⟩)
theorem qs9 : ∀ (p r q : List UInt8), yi (p ++ r) = some (q ++ r) → q.length < p.length → yi p = some q
 | [], r, q, h, hl => absurd hl (by simp)
 | c :: p, r, q, h, hl => by
   have e : yi (c :: (p ++ r)) = if c = 10 then some (p ++ r) else yi (p ++ r) := rfl
   have e2 : yi (c :: p) = if c = 10 then some p else yi p := rfl
   rw [List.cons_append, e] at h
   rw [e2]
   split at h
   ·rename_i hc
    rw [if_pos hc]
    have := List.append_cancel_right (Option.some.inj h)
    rw [this]
   ·rename_i hc
    rw [if_neg hc]
    have hlt := qc5 _ _ h
    rw [List.length_append, List.length_append] at hlt
    exact qs9 p r q h (by omega)
theorem q0e (p r q : List UInt8) (h : uh (p ++ r) = some (q ++ r)) : uh p = some q := by
 have hlt := Wb _ _ h
 rw [List.length_append, List.length_append] at hlt
 cases p with
 | nil => simp at hlt; omega
 | cons c p =>
   rw [List.cons_append, Qb] at h
   rw [Qb]
   split at h
   ·rename_i hc
    rw [if_pos hc, List.append_cancel_right (Option.some.inj h)]
   ·rename_i hc
    rw [if_neg hc]
    split at h
    ·rename_i h7
     have hlt := qc5 _ _ h
     rw [List.length_append, List.length_append] at hlt
     cases p with
     | nil => simp at hlt; omega
     | cons d p =>
       rw [if_pos ⟨h7.1, by have := h7.2; rw [List.cons_append, List.head?_cons] at this; exact this⟩]
       exact qs9 _ r q h (by omega)
    ·cases h
/-- The trivia at the begin of a text are trivia. -/
theorem q0n (p r : List UInt8) (h : jc (p ++ r) = r) : jc p = [] := by
 have : ∀ n (p r : List UInt8), p.length ≤ n → jc (p ++ r) = r → jc p = [] := by
  intro n
  induction n with
  | zero =>
    intro p r hl _
    obtain rfl : p = [] := List.length_eq_zero_iff.1 (by omega)
    rfl
  | succ n ih =>
    intro p r hl h
    cases hs : uh (p ++ r) with
    | none =>
      rw [qhq _ hs] at h
      have := congrArg List.length h
      rw [List.length_append] at this
      obtain rfl : p = [] := List.length_eq_zero_iff.1 (by omega)
      rfl
    | some x =>
      rw [Kh _ _ hs] at h
      obtain ⟨q, hq⟩ := qng x
      rw [h] at hq
      subst hq
      have h2 := q0e p r q hs
      have hlt := Wb _ _ h2
      rw [Kh _ _ h2]
      exact ih q r (by omega) h
 exact this p.length p r (Nat.le_refl _) h
end Tk
end Go.Proofs.YtigmilhpeodhbaaGreatDoorW.Ex.Gr
