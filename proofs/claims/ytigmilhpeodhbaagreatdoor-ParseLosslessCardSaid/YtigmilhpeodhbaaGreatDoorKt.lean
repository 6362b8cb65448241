/- Tokens in plain words: what a text reads, tokens side by side. Conditions: those in each theorem. -/
import Derived.Test.YtigmilhpeodhbaaGreatDoorKe
namespace Go.Proofs.YtigmilhpeodhbaaGreatDoorW.Ex.Gr
open Go Go.Proofs.YtigmilhpeodhbaaGreatDoorW.Ex Go.Proofs.YtigmilhpeodhbaaGreatDoorW.Plain
set_option linter.all false
set_option maxRecDepth 100000
namespace Tk
def runL : List UInt8 → Nat
 | [] => 0
 | c :: l => if letC c = true then runL l + 1 else 0
theorem qqh : ∀ l, runL l ≤ l.length
 | [] => Nat.le_refl _
 | c :: l => by
   rw [runL, List.length_cons]
   have := qqh l
   split <;> omega
/-- The length and the kind of the token with which a text begins; the kind 0 if there is none. -/
def yy : List UInt8 → Nat × Int
 | [] => (0, 0)
 | c :: l =>
   if letC c = true then
    (if digC c = true then (if u9 ((c :: l).take (runL (c :: l))) = true then (runL (c :: l), 2) else (0, 0))
     else if runL (c :: l) ≤ 32 then (runL (c :: l), 1) else (0, 0))
   else if qb6 c = false then (0, 0)
   else if c = 47 ∧ l.head? = some 47 then (0, 0)
   else if c = 61 ∧ l.head? = some 61 then (2, 3)
   else (1, 3)
theorem qwo {c : UInt8} (h : digC c = true) : letC c = true := by
 unfold letC
 have : vj (c.toNat : Int) = true := h
 rw [this]; rfl
theorem qkl {c : UInt8} (l : List UInt8) (h : letC c = true) : 0 < runL (c :: l) := by rw [runL, if_pos h]; omega
theorem ql5 {c : UInt8} (l : List UInt8) (hd : digC c = true) : yy (c :: l) = if u9 ((c :: l).take (runL (c :: l))) = true then (runL (c :: l), 2) else (0, 0) := by
 rw [yy, if_pos (qwo hd), if_pos hd]
theorem ql4 {c : UInt8} (l : List UInt8) (hw : letC c = true) (hd : digC c = false) : yy (c :: l) = if runL (c :: l) ≤ 32 then (runL (c :: l), 1) else (0, 0) := by
 rw [yy, if_pos hw, hd, if_neg (by decide)]
theorem qko {c : UInt8} (l : List UInt8) (hw : letC c = false) (hm : qb6 c = false) : yy (c :: l) = (0, 0) := by
 rw [yy, hw, if_neg (by decide), if_pos hm]
theorem qhe {c : UInt8} (l : List UInt8) (hw : letC c = false) (hm : qb6 c = true) : yy (c :: l) = if c = 47 ∧ l.head? = some 47 then (0, 0) else if c = 61 ∧ l.head? = some 61 then (2, 3) else (1, 3) := by
 rw [yy, hw, if_neg (by decide), hm, if_neg (by decide)]
def qml (l : List UInt8) : Int := if (yy l).1 = l.length then (yy l).2 else 0
theorem qsf : ∀ (l r : List UInt8), ku l = some r → ∃ p, l = p ++ r
 | [], r, h => by simp [ku] at h
 | c :: l, r, h => by
   have e : ku (c :: l) = if c = 10 then some l else ku l := rfl
   rw [e] at h
   split at h
   ·cases h; exact ⟨[c], rfl⟩
   ·obtain ⟨p, hp⟩ := qsf l r h
    exact ⟨c :: p, by rw [hp]; rfl⟩
theorem qzo (l r : List UInt8) (h : u7 l = some r) : ∃ p, l = p ++ r := by
 cases l with
 | nil => simp [u7] at h
 | cons c l =>
   rw [Q6] at h
   split at h
   ·cases h; exact ⟨[c], rfl⟩
   ·split at h
    ·obtain ⟨p, hp⟩ := qsf l r h
     exact ⟨c :: p, by rw [hp]; rfl⟩
    ·cases h
theorem qha (l : List UInt8) : ∃ p, l = p ++ zk l := by
 have : ∀ n l, ∃ p, l = p ++ Zg n l := by
  intro n
  induction n with
  | zero => exact fun l => ⟨[], rfl⟩
  | succ n ih =>
    intro l
    unfold Zg
    cases hs : u7 l with
    | none => exact ⟨[], rfl⟩
    | some r =>
      obtain ⟨p, hp⟩ := qzo l r hs
      obtain ⟨q, hq⟩ := ih r
      exact ⟨p ++ q, by simp only; rw [List.append_assoc, ← hq, ← hp]⟩
 exact this _ l
theorem qyc (l : List UInt8) : zk l = l.drop (l.length - (zk l).length) := by
 obtain ⟨p, hp⟩ := qha l
 have hl : l.length - (zk l).length = p.length := by
  have := congrArg List.length hp
  rw [List.length_append] at this; omega
 rw [hl]
 conv => rhs; rw [hp]
 rw [List.drop_left']; rfl
theorem qkq (l : List UInt8) : (yy l).1 ≤ l.length := by
 cases l with
 | nil => exact Nat.le_refl _
 | cons c l =>
   have := qqh (c :: l)
   rw [yy]
   split
   ·split
    ·split
     ·exact this
     ·exact Nat.zero_le _
    ·split
     ·exact this
     ·exact Nat.zero_le _
   ·split
    ·exact Nat.zero_le _
    ·split
     ·exact Nat.zero_le _
     ·split
      ·rename_i h
       cases l with
       | nil => simp at h
       | cons d l => simp
      ·simp
theorem ql7 (l : List UInt8) (h : (yy l).2 ≠ 0) : 0 < (yy l).1 := by
 cases l with
 | nil => exact absurd rfl h
 | cons c l =>
   rw [yy] at h ⊢
   by_cases hw : letC c = true
   ·have := qkl l hw
    rw [if_pos hw] at h ⊢
    split
    ·rename_i hd
     rw [if_pos hd] at h
     split
     ·exact this
     ·rename_i hi; rw [if_neg hi] at h; exact absurd rfl h
    ·rename_i hd
     rw [if_neg hd] at h
     split
     ·exact this
     ·rename_i hi; rw [if_neg hi] at h; exact absurd rfl h
   ·rw [if_neg hw] at h ⊢
    split
    ·rename_i hm; rw [if_pos hm] at h; exact absurd rfl h
    ·rename_i hm
     rw [if_neg hm] at h
     split
     ·rename_i h7; rw [if_pos h7] at h; exact absurd rfl h
     ·split <;> decide
/-- The tokens of the rest l of a source of S bytes (f: more than the bytes that are left), or the offset at which there is none. -/
def W3 (S : Nat) : Nat → List UInt8 → Except Nat (List Token)
 | 0, _ => .ok []
 | f + 1, l =>
   if zk l = [] then .ok [⟨4, ofB l, ⟨#[]⟩, (S : Int)⟩]
   else if (yy (zk l)).2 = 0 then .error (S - (zk l).length)
   else match W3 S f ((zk l).drop (yy (zk l)).1) with
    | .ok m => .ok (⟨(yy (zk l)).2, ofB (l.take (l.length - (zk l).length)), ofB ((zk l).take (yy (zk l)).1), ((S - (zk l).length : Nat) : Int)⟩ :: m)
    | .error e => .error e
def endT (acc : List Token) : Except Nat (List Token) → List Token × Int × Int
 | .ok m => (acc ++ m, 0, 0)
 | .error e => ([], 1, (e : Int))
theorem q09 (acc : List Token) (t : Token) (x : Except Nat (List Token)) : endT (acc ++ [t]) x = endT acc (match x with | .ok m => .ok (t :: m) | .error e => .error e) := by
 cases x with
 | ok m => simp [endT]
 | error e => rfl
theorem qsj : ∀ (l : List UInt8), runL (l.take (runL l)) = runL l
 | [] => rfl
 | c :: l => by
   by_cases hc : letC c = true
   ·have e : runL (c :: l) = runL l + 1 := by rw [runL, if_pos hc]
    rw [e, List.take_succ_cons, runL, if_pos hc, qsj l]
   ·have e : runL (c :: l) = 0 := by rw [runL, if_neg hc]
    rw [e]; rfl
/-- A token is what its own text reads. -/
theorem qyg (r : List UInt8) (h : (yy r).2 ≠ 0) : yy (r.take (yy r).1) = yy r := by
 cases r with
 | nil => rfl
 | cons c l =>
   by_cases hw : letC c = true
   ·have hpos := qkl l hw
    obtain ⟨n, hn⟩ : ∃ n, runL (c :: l) = n + 1 := ⟨runL (c :: l) - 1, by omega⟩
    have ht : (c :: l).take (runL (c :: l)) = c :: l.take n := by rw [hn, List.take_succ_cons]
    have hrt : runL (c :: l.take n) = runL (c :: l) := by rw [← ht, qsj]
    have htt : (c :: l.take n).take (runL (c :: l)) = c :: l.take n := by rw [← ht]; exact List.take_of_length_le (by rw [List.length_take]; omega)
    cases hd : digC c with
    | true =>
      rw [ql5 l hd] at h ⊢
      by_cases hi : u9 ((c :: l).take (runL (c :: l))) = true
      ·rw [if_pos hi]
       show yy ((c :: l).take (runL (c :: l))) = _
       rw [ht] at hi ⊢
       rw [ql5 _ hd, hrt, htt, if_pos hi]
      ·rw [if_neg hi] at h; exact absurd rfl h
    | false =>
      rw [ql4 l hw hd] at h ⊢
      by_cases hi : runL (c :: l) ≤ 32
      ·rw [if_pos hi]
       show yy ((c :: l).take (runL (c :: l))) = _
       rw [ht, ql4 _ hw hd, hrt, if_pos hi]
      ·rw [if_neg hi] at h; exact absurd rfl h
   ·have hw : letC c = false := by simpa using hw
    cases hm : qb6 c with
    | false => rw [qko l hw hm] at h; exact absurd rfl h
    | true =>
      rw [qhe l hw hm] at h ⊢
      by_cases h7 : c = 47 ∧ l.head? = some 47
      ·rw [if_pos h7] at h; exact absurd rfl h
      ·rw [if_neg h7]
       by_cases h6 : c = 61 ∧ l.head? = some 61
       ·rw [if_pos h6]
        obtain ⟨rfl, hl⟩ := h6
        cases l with
        | nil => cases hl
        | cons d r => cases hl; show yy [61, 61] = (2, 3); decide
       ·rw [if_neg h6]
        show yy [c] = (1, 3)
        rw [qhe [] hw hm, if_neg (by simp), if_neg (by simp)]
theorem qyo (r : List UInt8) (h : (yy r).2 ≠ 0) : qml (r.take (yy r).1) = (yy r).2 := by
 unfold qml
 rw [qyg r h, if_pos (by rw [List.length_take]; have := qkq r; omega)]
/-- What may follow a token without being read with it. -/
def qt6 (t r : List UInt8) : Prop := ∀ c, r.head? = some c → ¬ (letC (t.getLastD 0) = true ∧ letC c = true) ∧ ¬ (t = [61] ∧ c = 61) ∧ ¬ (t = [47] ∧ c = 47)
theorem qsg : ∀ (p r q : List UInt8), ku (p ++ r) = some (q ++ r) → q.length < p.length → ku p = some q
 | [], r, q, h, hl => absurd hl (by simp)
 | c :: p, r, q, h, hl => by
   have e : ku (c :: (p ++ r)) = if c = 10 then some (p ++ r) else ku (p ++ r) := rfl
   have e2 : ku (c :: p) = if c = 10 then some p else ku p := rfl
   rw [List.cons_append, e] at h
   rw [e2]
   split at h
   ·rename_i hc
    rw [if_pos hc]
    have := List.append_cancel_right (Option.some.inj h)
    rw [this]
   ·rename_i hc
    rw [if_neg hc]
    have hlt := qbe _ _ h
    rw [List.length_append, List.length_append] at hlt
    exact qsg p r q h (by omega)
theorem qzp (p r q : List UInt8) (h : u7 (p ++ r) = some (q ++ r)) : u7 p = some q := by
 have hlt := Wh _ _ h
 rw [List.length_append, List.length_append] at hlt
 cases p with
 | nil => simp at hlt; omega
 | cons c p =>
   rw [List.cons_append, Q6] at h
   rw [Q6]
   split at h
   ·rename_i hc
    rw [if_pos hc, List.append_cancel_right (Option.some.inj h)]
   ·rename_i hc
    rw [if_neg hc]
    split at h
    ·rename_i h7
     have hlt := qbe _ _ h
     rw [List.length_append, List.length_append] at hlt
     cases p with
     | nil => simp at hlt; omega
     | cons d p =>
       rw [if_pos ⟨h7.1, by have := h7.2; rw [List.cons_append, List.head?_cons] at this; exact this⟩]
       exact qsg _ r q h (by omega)
    ·cases h
/-- The trivia at the begin of a text are trivia. -/
theorem qzw (p r : List UInt8) (h : zk (p ++ r) = r) : zk p = [] := by
 have : ∀ n (p r : List UInt8), p.length ≤ n → zk (p ++ r) = r → zk p = [] := by
  intro n
  induction n with
  | zero =>
    intro p r hl _
    obtain rfl : p = [] := List.length_eq_zero_iff.1 (by omega)
    rfl
  | succ n ih =>
    intro p r hl h
    cases hs : u7 (p ++ r) with
    | none =>
      rw [qfu _ hs] at h
      have := congrArg List.length h
      rw [List.length_append] at this
      obtain rfl : p = [] := List.length_eq_zero_iff.1 (by omega)
      rfl
    | some x =>
      rw [Wa _ _ hs] at h
      obtain ⟨q, hq⟩ := qha x
      rw [h] at hq
      subst hq
      have h2 := qzp p r q hs
      have hlt := Wh _ _ h2
      rw [Wa _ _ h2]
      exact ih q r (by omega) h
 exact this p.length p r (Nat.le_refl _) h
end Tk
end Go.Proofs.YtigmilhpeodhbaaGreatDoorW.Ex.Gr
