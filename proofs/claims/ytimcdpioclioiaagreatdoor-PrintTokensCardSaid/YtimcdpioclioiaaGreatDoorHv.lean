/- Tokens in plain words: what a text reads, tokens side by side. Conditions: those in each theorem. The source of a tree is read as its words: the plain law. Conditions: those in each theorem. The source of a small tree is short. Conditions: those in each theorem. -/
import Derived.Test.YtimcdpioclioiaaGreatDoorHb
namespace Go.Proofs.YtimcdpioclioiaaGreatDoorW.Ex.Gr
open Go Go.Proofs.YtimcdpioclioiaaGreatDoorW.Ex Go.Proofs.YtimcdpioclioiaaGreatDoorW.Plain
set_option linter.all false
set_option maxRecDepth 100000
namespace Tk
def runL : List UInt8 → Nat
 | [] => 0
 | c :: l => if letC c = true then runL l + 1 else 0
theorem runL_le : ∀ l, runL l ≤ l.length
 | [] => Nat.le_refl _
 | c :: l => by
   rw [runL, List.length_cons]
   have := runL_le l
   split <;> omega
/-- The length and the kind of the token with which a text begins; the kind 0 if there is none. -/
def yr : List UInt8 → Nat × Int
 | [] => (0, 0)
 | c :: l =>
   if letC c = true then
    (if digC c = true then (if jg ((c :: l).take (runL (c :: l))) = true then (runL (c :: l), 2) else (0, 0))
     else if runL (c :: l) ≤ 32 then (runL (c :: l), 1) else (0, 0))
   else if vi c = false then (0, 0)
   else if c = 47 ∧ l.head? = some 47 then (0, 0)
   else if c = 61 ∧ l.head? = some 61 then (2, 3)
   else (1, 3)
theorem let_dig {c : UInt8} (h : digC c = true) : letC c = true := by
 unfold letC
 have : z6 (c.toNat : Int) = true := h
 rw [this]; rfl
theorem run_pos {c : UInt8} (l : List UInt8) (h : letC c = true) : 0 < runL (c :: l) := by rw [runL, if_pos h]; omega
theorem nx_dig {c : UInt8} (l : List UInt8) (hd : digC c = true) : yr (c :: l) = if jg ((c :: l).take (runL (c :: l))) = true then (runL (c :: l), 2) else (0, 0) := by
 rw [yr, if_pos (let_dig hd), if_pos hd]
theorem nx_let {c : UInt8} (l : List UInt8) (hw : letC c = true) (hd : digC c = false) : yr (c :: l) = if runL (c :: l) ≤ 32 then (runL (c :: l), 1) else (0, 0) := by
 rw [yr, if_pos hw, hd, if_neg (by decide)]
theorem nx_none {c : UInt8} (l : List UInt8) (hw : letC c = false) (hm : vi c = false) : yr (c :: l) = (0, 0) := by
 rw [yr, hw, if_neg (by decide), if_pos hm]
theorem nx_mark {c : UInt8} (l : List UInt8) (hw : letC c = false) (hm : vi c = true) : yr (c :: l) = if c = 47 ∧ l.head? = some 47 then (0, 0) else if c = 61 ∧ l.head? = some 61 then (2, 3) else (1, 3) := by
 rw [yr, hw, if_neg (by decide), hm, if_neg (by decide)]
def uk (l : List UInt8) : Int := if (yr l).1 = l.length then (yr l).2 else 0
theorem skip_suf : ∀ (l r : List UInt8), zy l = some r → ∃ p, l = p ++ r
 | [], r, h => by simp [zy] at h
 | c :: l, r, h => by
   have e : zy (c :: l) = if c = 10 then some l else zy l := rfl
   rw [e] at h
   split at h
   ·cases h; exact ⟨[c], rfl⟩
   ·obtain ⟨p, hp⟩ := skip_suf l r h
    exact ⟨c :: p, by rw [hp]; rfl⟩
theorem step_suf (l r : List UInt8) (h : jk l = some r) : ∃ p, l = p ++ r := by
 cases l with
 | nil => simp [jk] at h
 | cons c l =>
   rw [jx] at h
   split at h
   ·cases h; exact ⟨[c], rfl⟩
   ·split at h
    ·obtain ⟨p, hp⟩ := skip_suf l r h
     exact ⟨c :: p, by rw [hp]; rfl⟩
    ·cases h
theorem rest_suf (l : List UInt8) : ∃ p, l = p ++ zk l := by
 have : ∀ n l, ∃ p, l = p ++ yw n l := by
  intro n
  induction n with
  | zero => exact fun l => ⟨[], rfl⟩
  | succ n ih =>
    intro l
    unfold yw
    cases hs : jk l with
    | none => exact ⟨[], rfl⟩
    | some r =>
      obtain ⟨p, hp⟩ := step_suf l r hs
      obtain ⟨q, hq⟩ := ih r
      exact ⟨p ++ q, by simp only; rw [List.append_assoc, ← hq, ← hp]⟩
 exact this _ l
theorem rest_drop (l : List UInt8) : zk l = l.drop (l.length - (zk l).length) := by
 obtain ⟨p, hp⟩ := rest_suf l
 have hl : l.length - (zk l).length = p.length := by
  have := congrArg List.length hp
  rw [List.length_append] at this; omega
 rw [hl]
 conv => rhs; rw [hp]
 rw [List.drop_left']; rfl
theorem next_le (l : List UInt8) : (yr l).1 ≤ l.length := by
 cases l with
 | nil => exact Nat.le_refl _
 | cons c l =>
   have := runL_le (c :: l)
   rw [yr]
   split
   ·split
    ·split
     ·exact this
     ·exact Nat.zero_le _
    ·split
     ·exact this
     ·exact Nat.zero_le _
   ·split
    ·exact Nat.zero_le _
    ·split
     ·exact Nat.zero_le _
     ·split
      ·rename_i h
       cases l with
       | nil => simp at h
       | cons d l => simp
      ·simp
theorem next_pos (l : List UInt8) (h : (yr l).2 ≠ 0) : 0 < (yr l).1 := by
 cases l with
 | nil => exact absurd rfl h
 | cons c l =>
   rw [yr] at h ⊢
   by_cases hw : letC c = true
   ·have := run_pos l hw
    rw [if_pos hw] at h ⊢
    split
    ·rename_i hd
     rw [if_pos hd] at h
     split
     ·exact this
     ·rename_i hi; rw [if_neg hi] at h; exact absurd rfl h
    ·rename_i hd
     rw [if_neg hd] at h
     split
     ·exact this
     ·rename_i hi; rw [if_neg hi] at h; exact absurd rfl h
   ·rw [if_neg hw] at h ⊢
    split
    ·rename_i hm; rw [if_pos hm] at h; exact absurd rfl h
    ·rename_i hm
     rw [if_neg hm] at h
     split
     ·rename_i h7; rw [if_pos h7] at h; exact absurd rfl h
     ·split <;> decide
/-- The tokens of the rest l of a source of S bytes (f: more than the bytes that are left), or the offset at which there is none. -/
def K2 (S : Nat) : Nat → List UInt8 → Except Nat (List Token)
 | 0, _ => .ok []
 | f + 1, l =>
   if zk l = [] then .ok [⟨4, ofB l, ⟨#[]⟩, (S : Int)⟩]
   else if (yr (zk l)).2 = 0 then .error (S - (zk l).length)
   else match K2 S f ((zk l).drop (yr (zk l)).1) with
    | .ok m => .ok (⟨(yr (zk l)).2, ofB (l.take (l.length - (zk l).length)), ofB ((zk l).take (yr (zk l)).1), ((S - (zk l).length : Nat) : Int)⟩ :: m)
    | .error e => .error e
def endT (acc : List Token) : Except Nat (List Token) → List Token × Int × Int
 | .ok m => (acc ++ m, 0, 0)
 | .error e => ([], 1, (e : Int))
theorem end_cons (acc : List Token) (t : Token) (x : Except Nat (List Token)) : endT (acc ++ [t]) x = endT acc (match x with | .ok m => .ok (t :: m) | .error e => .error e) := by
 cases x with
 | ok m => simp [endT]
 | error e => rfl
theorem run_all : ∀ (l r : List UInt8), runL l = l.length → (∀ c, r.head? = some c → letC c = false) → runL (l ++ r) = l.length
 | [], r, _, h => by
   cases r with
   | nil => rfl
   | cons c r => rw [List.nil_append, runL, h c rfl]; rfl
 | c :: l, r, h, h2 => by
   rw [runL] at h
   split at h
   ·rename_i hc
    rw [List.length_cons] at h
    rw [List.cons_append, runL, if_pos hc, run_all l r (by omega) h2, List.length_cons]
   ·rw [List.length_cons] at h; omega
theorem run_last : ∀ (l : List UInt8), l ≠ [] → runL l = l.length → letC (l.getLastD 0) = true
 | [], h, _ => absurd rfl h
 | [c], _, h => by
   rw [runL] at h
   split at h
   ·rename_i hc; exact hc
   ·simp at h
 | c :: d :: l, _, h => by
   rw [runL] at h
   split at h
   ·rw [List.length_cons] at h
    have := run_last (d :: l) (by simp) (by omega)
    simpa using this
   ·rw [List.length_cons] at h; omega
theorem Ke : letC 47 = false ∧ vi 47 = true ∧ letC 61 = false ∧ vi 61 = true ∧ letC 32 = false ∧ vi 32 = false := by decide
/-- What may follow a token without being read with it. -/
def Apart (t r : List UInt8) : Prop := ∀ c, r.head? = some c → ¬ (letC (t.getLastD 0) = true ∧ letC c = true) ∧ ¬ (t = [61] ∧ c = 61) ∧ ¬ (t = [47] ∧ c = 47)
theorem apart_nil (t : List UInt8) : Apart t [] := fun c h => by cases h
theorem apart_space (t r : List UInt8) : Apart t (32 :: r) := fun c h => by
 cases h
 refine ⟨fun h => ?_, fun h => ?_, fun h => ?_⟩
 ·rw [Ke.2.2.2.2.1] at h; exact absurd h.2 (by decide)
 ·exact absurd h.2 (by decide)
 ·exact absurd h.2 (by decide)
/-- The shapes of a token's text. -/
theorem kind_cases {t : List UInt8} (h : uk t ≠ 0) : t ≠ [] ∧ yr t = (t.length, uk t) ∧
 ((letC (t.headD 0) = true ∧ runL t = t.length) ∨ (∃ c, t = [c] ∧ letC c = false ∧ vi c = true ∧ uk t = 3) ∨ (t = [61, 61] ∧ uk t = 3)) := by
 have hn : (yr t).1 = t.length ∧ uk t = (yr t).2 := by
  unfold uk at h ⊢
  split at h
  ·rename_i e; rw [if_pos e]; exact ⟨e, rfl⟩
  ·exact absurd rfl h
 have h2 : (yr t).2 ≠ 0 := by rw [← hn.2]; exact h
 cases t with
 | nil => exact absurd rfl h2
 | cons c l =>
   refine ⟨by simp, by rw [← hn.1, hn.2], ?_⟩
   by_cases hw : letC c = true
   ·refine .inl ⟨hw, ?_⟩
    cases hd : digC c with
    | true =>
      rw [nx_dig l hd] at h2 hn
      split at h2
      ·rename_i hi; rw [if_pos hi] at hn; exact hn.1
      ·exact absurd rfl h2
    | false =>
      rw [nx_let l hw hd] at h2 hn
      split at h2
      ·rename_i hi; rw [if_pos hi] at hn; exact hn.1
      ·exact absurd rfl h2
   ·have hw : letC c = false := by simpa using hw
    cases hm : vi c with
    | false => rw [nx_none l hw hm] at h2; exact absurd rfl h2
    | true =>
      rw [nx_mark l hw hm] at h2 hn
      by_cases h7 : c = 47 ∧ l.head? = some 47
      ·rw [if_pos h7] at h2; exact absurd rfl h2
      ·rw [if_neg h7] at hn
       by_cases h6 : c = 61 ∧ l.head? = some 61
       ·rw [if_pos h6] at hn
        obtain ⟨rfl, hl⟩ := h6
        cases l with
        | nil => cases hl
        | cons d r =>
          cases hl
          have := hn.1
          simp only [List.length_cons] at this
          obtain rfl : r = [] := List.length_eq_zero_iff.1 (by omega)
          exact .inr (.inr ⟨rfl, hn.2⟩)
       ·rw [if_neg h6] at hn
        have := hn.1
        simp only [List.length_cons] at this
        obtain rfl : l = [] := List.length_eq_zero_iff.1 (by omega)
        exact .inr (.inl ⟨c, rfl, hw, hm, hn.2⟩)
theorem next_app {t r : List UInt8} (h : uk t ≠ 0) (ha : Apart t r) : yr (t ++ r) = (t.length, uk t) := by
 obtain ⟨h0, h1, h2⟩ := kind_cases h
 rcases h2 with ⟨hw, hr⟩ | ⟨c, rfl, hw, hm, hk⟩ | ⟨rfl, hk⟩
 ·have hlast := run_last t h0 hr
  have hra := run_all t r hr (fun c hc => by
   have := (ha c hc).1
   cases e : letC c with
   | false => rfl
   | true => exact absurd ⟨hlast, e⟩ this)
  cases t with
  | nil => exact absurd rfl h0
  | cons c l =>
    have hw : letC c = true := hw
    rw [← h1, List.cons_append]
    rw [List.cons_append] at hra
    cases hd : digC c with
    | true =>
      rw [nx_dig _ hd, nx_dig _ hd, hra, hr, List.take_of_length_le (Nat.le_refl _), ← List.cons_append, List.take_left']
      rfl
    | false => rw [nx_let _ hw hd, nx_let _ hw hd, hra, hr]
 ·rw [List.singleton_append, nx_mark r hw hm, hk]
  have h7 : ¬ (c = 47 ∧ r.head? = some 47) := by rintro ⟨rfl, e⟩; exact (ha 47 e).2.2 ⟨rfl, rfl⟩
  have h6 : ¬ (c = 61 ∧ r.head? = some 61) := by rintro ⟨rfl, e⟩; exact (ha 61 e).2.1 ⟨rfl, rfl⟩
  rw [if_neg h7, if_neg h6]; rfl
 ·rw [hk]
  show yr (61 :: 61 :: r) = (2, 3)
  rw [nx_mark _ Ke.2.2.1 Ke.2.2.2.1, if_neg (by simp), if_pos ⟨rfl, rfl⟩]
theorem step_app {t r : List UInt8} (h : uk t ≠ 0) (ha : Apart t r) : jk (t ++ r) = none := by
 obtain ⟨h0, h1, h2⟩ := kind_cases h
 have cl : ∀ (c : UInt8) (l : List UInt8), (letC c = true ∨ vi c = true) → ¬ (c = 47 ∧ l.head? = some 47) → jk (c :: l) = none := by
  intro c l hc h7
  rw [jx, if_neg, if_neg h7]
  rintro (rfl | rfl | rfl) <;> revert hc <;> decide
 rcases h2 with ⟨hw, hr⟩ | ⟨c, rfl, hw, hm, hk⟩ | ⟨rfl, hk⟩
 ·cases t with
  | nil => exact absurd rfl h0
  | cons c l =>
    have hw : letC c = true := hw
    refine cl c _ (.inl hw) ?_
    rintro ⟨rfl, _⟩
    rw [Ke.1] at hw; cases hw
 ·exact cl c r (.inr hm) (by rintro ⟨rfl, e⟩; exact (ha 47 e).2.2 ⟨rfl, rfl⟩)
 ·exact cl 61 _ (.inr Ke.2.2.2.1) (by rintro ⟨e, _⟩; exact absurd e (by decide))
theorem rest_app {t r : List UInt8} (h : uk t ≠ 0) (ha : Apart t r) : zk (t ++ r) = t ++ r := u6 _ (step_app h ha)
theorem rest_space (l : List UInt8) : zk (32 :: l) = zk l := wd _ _ (by rw [jx, if_pos (.inl rfl)])
theorem apart_of {a b : List UInt8} (ha : uk a ≠ 0) (hb : uk b ≠ 0) (h : glueL a b = false) : Apart a b := by
 obtain ⟨a0, a1, _⟩ := kind_cases ha
 obtain ⟨b0, b1, b2⟩ := kind_cases hb
 unfold glueL at h
 rw [if_neg (by simp [a0, b0])] at h
 intro c hc
 cases b with
 | nil => exact absurd rfl b0
 | cons d r =>
   cases hc
   split at h
   ·cases h
   ·rename_i hw
    refine ⟨hw, ?_, ?_⟩
    ·rintro ⟨rfl, rfl⟩
     rcases b2 with ⟨hw, _⟩ | ⟨c, e, _⟩ | ⟨e, _⟩
     ·have : letC 61 = true := hw
      rw [Ke.2.2.1] at this; cases this
     ·cases e; simp at h
     ·cases e; simp at h
    ·rintro ⟨rfl, rfl⟩
     rcases b2 with ⟨hw, _⟩ | ⟨c, e, _⟩ | ⟨e, _⟩
     ·have : letC 47 = true := hw
      rw [Ke.1] at this; cases this
     ·cases e; simp at h
     ·cases e
end Tk
end Go.Proofs.YtimcdpioclioiaaGreatDoorW.Ex.Gr

namespace Go.Proofs.YtimcdpioclioiaaGreatDoorW.Ex.Gr
open Go Go.Proofs.YtimcdpioclioiaaGreatDoorW.Ex Go.Proofs.YtimcdpioclioiaaGreatDoorW.Plain Tk
set_option linter.all false
set_option maxRecDepth 100000
theorem skip_app : ∀ (l r q : List UInt8), zy l = some q → zy (l ++ r) = some (q ++ r)
 | [], r, q, h => by cases h
 | c :: l, r, q, h => by
   have e : ∀ l, zy (c :: l) = if c = 10 then some l else zy l := fun _ => rfl
   rw [e] at h
   rw [List.cons_append, e]
   by_cases hc : c = 10
   ·rw [if_pos hc] at h ⊢; cases h; rfl
   ·rw [if_neg hc] at h ⊢; exact skip_app l r q h
theorem step_app2 {l q : List UInt8} (r : List UInt8) (h : jk l = some q) : jk (l ++ r) = some (q ++ r) := by
 cases l with
 | nil => cases h
 | cons c l =>
   rw [jx] at h
   rw [List.cons_append, jx]
   by_cases hb : c = 32 ∨ c = 9 ∨ c = 10
   ·rw [if_pos hb] at h ⊢; cases h; rfl
   ·rw [if_neg hb] at h ⊢
    by_cases hc : c = 47 ∧ l.head? = some 47
    ·rw [if_pos hc] at h
     have : c = 47 ∧ (l ++ r).head? = some 47 := ⟨hc.1, by cases l with
      | nil => simp at hc
      | cons d l => simpa using hc.2⟩
     rw [if_pos this]; exact skip_app l r q h
    ·rw [if_neg hc] at h; cases h
theorem rest_app2 (p r : List UInt8) (h : zk p = []) : zk (p ++ r) = zk r := by
 have key : ∀ (j : Nat) (p : List UInt8), p.length ≤ j → zk p = [] → zk (p ++ r) = zk r := by
  intro j
  induction j with
  | zero =>
    intro p hj _
    obtain rfl : p = [] := List.length_eq_zero_iff.1 (by omega)
    rfl
  | succ j ih =>
    intro p hj h
    cases hs : jk p with
    | none =>
      rw [u6 _ hs] at h
      rw [h]; rfl
    | some q =>
      rw [wd _ _ hs] at h
      rw [wd _ _ (step_app2 r hs)]
      exact ih q (by have := vc _ _ hs; omega) h
 exact key p.length p (Nat.le_refl _) h
theorem Zf (s : BA) (h : ye s = true) : zk (L s) = [] := by
 unfold ye at h
 rw [show (0 : Int) = ((0 : Nat) : Int) from rfl, J5 (Nat.zero_le _)] at h
 have h := of_decide_eq_true h
 unfold z8 at h
 rw [List.drop_zero] at h
 have h2 := trivRest_le (L s)
 rw [vj] at h2
 have : (zk (L s)).length = 0 := by
  have h : ((s.size - (zk s.data.toList).length : Nat) : Int) = (s.size : Int) := h
  have h3 : (zk (L s)).length ≤ s.size := h2
  show (zk s.data.toList).length = 0
  have h4 : (zk s.data.toList).length ≤ s.size := h3
  by_cases z : s.size = 0
  ·omega
  ·omega
 exact List.length_eq_zero_iff.1 this
theorem named_run : ∀ (l : List UInt8) (i : Nat), j7 i l = true → Tk.runL l = l.length
 | [], i, h => rfl
 | c :: l, i, h => by
   unfold j7 at h
   simp only [Bool.and_eq_true, Bool.or_eq_true] at h
   have hw : letC c = true := by
    unfold letC
    rcases h.1 with a | a
    ·rw [a]; simp
    ·rw [a.2]; rfl
   rw [Tk.runL, if_pos hw, named_run l (i + 1) h.2]; rfl
theorem name_tok {l : List UInt8} (h : kl l = true) : uk l ≠ 0 := by
 unfold kl at h
 simp only [Bool.and_eq_true, decide_eq_true_eq] at h
 obtain ⟨⟨⟨h0, h1⟩, _⟩, h3⟩ := h
 have hr := named_run l 0 h3
 cases l with
 | nil => cases h0
 | cons c l =>
   unfold j7 at h3
   simp only [Bool.and_eq_true, Bool.or_eq_true, bne_self_eq_false, Bool.false_and, Bool.false_eq_true, or_false] at h3
   have hl : jt c.toNat = true := h3.1
   have hd : digC c = false := by
    unfold digC z6
    unfold jt at hl
    have := of_decide_eq_true hl
    exact decide_eq_false (by omega)
   have hw : letC c = true := by unfold letC; rw [hl]; simp
   have hn := nx_let l hw hd
   rw [hr, if_pos h1] at hn
   unfold uk
   rw [hn, if_pos rfl]; show (1 : Int) ≠ 0; decide
theorem value_run : ∀ (l : List UInt8) (n v : Int), zm n l = some v → Tk.runL l = l.length
 | [], n, v, h => rfl
 | c :: l, n, v, h => by
   unfold zm at h
   split at h
   ·rename_i hd
    have hw : letC c = true := by unfold letC; rw [hd]; rfl
    rw [Tk.runL, if_pos hw, value_run l _ v h]; rfl
   ·cases h
theorem int_tok {l : List UInt8} (h : jg l = true) : uk l ≠ 0 := by
 have h' := h
 unfold jg at h
 simp only [Bool.and_eq_true, decide_eq_true_eq] at h
 obtain ⟨⟨⟨h0, h1⟩, _⟩, h3⟩ := h
 cases hv : zm 0 l with
 | none => rw [hv] at h3; cases h3
 | some v =>
   have hr := value_run l 0 v hv
   cases l with
   | nil => cases h0
   | cons c l =>
     unfold zm at hv
     have hd : digC c = true := by
      unfold digC
      cases hq : z6 c.toNat with
      | true => rfl
      | false => rw [hq] at hv; cases hv
     have hn := nx_dig l hd
     rw [hr, List.take_of_length_le (Nat.le_refl _), if_pos h'] at hn
     unfold uk
     rw [hn, if_pos rfl]; show (2 : Int) ≠ 0; decide
/-- A word that a text reads as one token. -/
def okW (w : BA) : Prop := uk (L w) ≠ 0
theorem okw (l : Array UInt8) (h : decide (uk l.toList ≠ 0) = true) : okW ⟨l⟩ := by
 show uk l.toList ≠ 0
 exact of_decide_eq_true h
theorem ow_rest (v : Int) : ∀ (r : Nat) (b : Bool), ∀ w ∈ wordsS (jf v b r), okW w
 | 0, true, w, h => by rw [jf, wordsS, wordsS, List.mem_singleton] at h; subst h; exact okw _ (by decide)
 | 0, false, w, h => by rw [jf, wordsS, wordsS, List.mem_singleton] at h; subst h; exact okw _ (by decide)
 | r + 1, true, w, h => by rw [jf, wordsS] at h; exact ow_rest v r false w h
 | r + 1, false, w, h => by
   rw [jf, wordsS, wordsS] at h
   rcases List.mem_cons.1 h with rfl | h
   ·exact okw _ (by decide)
   ·exact ow_rest v r false w h
theorem memB_mem {v : BA} {l : List BA} (h : memB v l = true) : v ∈ l := by
 unfold memB at h
 obtain ⟨w, hw, e⟩ := List.any_eq_true.1 h
 rw [of_decide_eq_true e]; exact hw
theorem words_ok {n : Node} (hk : known n.kind = true) (h2 : y5 n = true) (h4 : yy n = true) (h1 : n.kind ≠ 1) (l : BA) (v : Int) : ∀ w ∈ wordsS (stepsOf 0 n.kind n.text n.kids.length l v), okW w := by
 unfold y5 at h2
 unfold yy at h4
 generalize n.kind = k at hk h1 h2 h4 ⊢
 generalize n.text = t at h2 h4 ⊢
 intro w hw
 rcases kinds hk with rfl | rfl | rfl | rfl | rfl | rfl | rfl | rfl | rfl | rfl | rfl | rfl | rfl | rfl | rfl | rfl | rfl | rfl | rfl | rfl | rfl | rfl | rfl | rfl | rfl | rfl
 ·exact absurd rfl h1
 all_goals simp only [zw, shapes, Int.reduceToNat, List.getD_cons_succ, List.getD_cons_zero, Int.reduceEq, ite_true, ite_false, if_true, if_false] at h2 h4
 case' inr.inr.inr.inr.inr.inr.inr.inl => by_cases c : t = e0 <;> simp only [stepsOf, Int.reduceEq, c, ite_true, ite_false, if_true, if_false, wordsS, List.mem_cons, List.not_mem_nil, or_false] at hw
 case' inr.inr.inr.inr.inr.inr.inr.inr.inr.inr.inr.inr.inr.inl => by_cases c : n.kids.length = 0 <;> simp only [stepsOf, Int.reduceEq, c, ite_true, ite_false, if_true, if_false, wordsS, List.mem_cons, List.not_mem_nil, or_false] at hw
 all_goals try simp only [stepsOf, Int.reduceEq, ite_false, ite_true, ux, vz, own_all, wordsS, List.mem_append, List.mem_cons, List.not_mem_nil, or_false, false_or, wl, ke, List.nil_append] at hw
 all_goals (repeat' (refine Or.elim hw (fun hw => ?_) (fun hw => ?_)))
 all_goals first
  | (subst hw; exact okw _ (by decide))
  | (subst hw; exact name_tok h4)
  | (subst hw; exact int_tok h4)
  | exact ow_rest _ _ _ w hw
  | (subst hw
     have hm := memB_mem h2
     simp only [List.mem_cons, List.not_mem_nil, or_false] at hm
     repeat' (refine Or.elim hm (fun hm => ?_) (fun hm => ?_))
     all_goals (subst hm; exact okw _ (by decide)))
  | (subst hw
     simp only [Bool.or_eq_true, decide_eq_true_eq] at h4
     exact name_tok (h4.resolve_left c))
/-- No kid is a file. -/
theorem fits_file (k : Int) (i : Nat) (hk : known k = true) : fits k i 1 = false := by
 cases hf : fits k i 1 with
 | false => rfl
 | true =>
   exfalso
   unfold fits at hf
   simp only [Bool.and_eq_true] at hf
   have h := hf.2
   unfold vy at h
   rcases kinds hk with rfl | rfl | rfl | rfl | rfl | rfl | rfl | rfl | rfl | rfl | rfl | rfl | rfl | rfl | rfl | rfl | rfl | rfl | rfl | rfl | rfl | rfl | rfl | rfl | rfl | rfl
   all_goals simp only [zw, shapes, Int.reduceToNat, Int.toNat_natCast, List.getD_cons_succ, List.getD_cons_zero, List.length_cons, List.length_nil] at h
   all_goals (rcases i with _ | _ | _ | i)
   all_goals (revert h; simp [jm])
   all_goals (have z0 : ¬ ((i : Int) + 1 + 1 + 1 < 0) := by omega)
   all_goals (have z1 : ¬ ((i : Int) + 1 + 1 + 1 < 1) := by omega)
   all_goals (have z2 : ¬ ((i : Int) + 1 + 1 + 1 < 2) := by omega)
   all_goals (have z3 : ¬ ((i : Int) + 1 + 1 + 1 < 3) := by omega)
   all_goals simp [z0, z1, z2, z3]
/-- Valid trivia ahead of words that are tokens; the last word may be empty. -/
def good : List Tok → Prop
 | [] => True
 | (g, w) :: T => zk (L g) = [] ∧ ((okW w ∧ good T) ∨ (w = e0 ∧ T = []))
/-- Like good, without an empty word. -/
def Z3 (x : Tok) : Prop := zk (L x.1) = [] ∧ okW x.2
theorem good_of : ∀ (T : List Tok), (∀ x ∈ T, Z3 x) → good T
 | [], _ => trivial
 | (g, w) :: T, h => ⟨(h _ (List.mem_cons_self ..)).1, .inl ⟨(h _ (List.mem_cons_self ..)).2, good_of T (fun x hx => h x (List.mem_cons_of_mem _ hx))⟩⟩
theorem good_end : ∀ (T : List Tok) (g : BA), (∀ x ∈ T, Z3 x) → zk (L g) = [] → good (T ++ [(g, e0)])
 | [], g, _, hg => ⟨hg, .inr ⟨rfl, rfl⟩⟩
 | (a, w) :: T, g, h, hg => ⟨(h _ (List.mem_cons_self ..)).1, .inl ⟨(h _ (List.mem_cons_self ..)).2, good_end T g (fun x hx => h x (List.mem_cons_of_mem _ hx)) hg⟩⟩
theorem uy : ∀ (S : List Step) (g : List BA) (ks : List (BA → Int → List Tok)), (∀ s ∈ S, okC s) → (∀ w ∈ wordsS S, okW w) → (∀ x ∈ g, ye x = true) →
 (∀ (f : BA → Int → List Tok), f ∈ ks → ∀ l v, Step.kid l v ∈ S → ∀ x ∈ f l v, Z3 x) → ∀ x ∈ jj S g ks, Z3 x
 | [], g, ks, h, hw, hg, hk, x, hx => by rw [jj] at hx; cases hx
 | .own c w :: r, [], ks, h, hw, hg, hk, x, hx => by
   rw [jj] at hx
   have a := h _ (List.mem_cons_self ..)
   rw [wordsS] at hw
   rcases List.mem_cons.1 hx with rfl | hx
   ·exact ⟨Zf _ (valid_blank _ a), hw _ (List.mem_cons_self ..)⟩
   ·exact uy r [] ks (fun s hs => h s (List.mem_cons_of_mem _ hs)) (fun w hx => hw w (List.mem_cons_of_mem _ hx)) hg (fun f hf l v hs => hk f hf l v (List.mem_cons_of_mem _ hs)) x hx
 | .own c w :: r, y :: g, ks, h, hw, hg, hk, x, hx => by
   rw [jj] at hx
   rw [wordsS] at hw
   rcases List.mem_cons.1 hx with rfl | hx
   ·exact ⟨Zf _ (hg _ (List.mem_cons_self ..)), hw _ (List.mem_cons_self ..)⟩
   ·exact uy r g ks (fun s hs => h s (List.mem_cons_of_mem _ hs)) (fun w hx => hw w (List.mem_cons_of_mem _ hx)) (fun x hx => hg x (List.mem_cons_of_mem _ hx)) (fun f hf l v hs => hk f hf l v (List.mem_cons_of_mem _ hs)) x hx
 | .kid l v :: r, g, [], h, hw, hg, hk, x, hx => by
   rw [jj] at hx
   rw [wordsS] at hw
   exact uy r g [] (fun s hs => h s (List.mem_cons_of_mem _ hs)) hw hg (fun f hf => by cases hf) x hx
 | .kid l v :: r, g, f :: ks, h, hw, hg, hk, x, hx => by
   rw [jj] at hx
   rw [wordsS] at hw
   rcases List.mem_append.1 hx with hx | hx
   ·exact hk f (List.mem_cons_self ..) l v (List.mem_cons_self ..) x hx
   ·exact uy r g ks (fun s hs => h s (List.mem_cons_of_mem _ hs)) hw hg (fun f hf l v hs => hk f (List.mem_cons_of_mem _ hf) l v (List.mem_cons_of_mem _ hs)) x hx
theorem all_mem {α : Type} (p : α → Bool) : ∀ (l : List α) (i : Nat), j4 (fun _ g => p g) i l = true → ∀ x ∈ l, p x = true
 | [], i, h, x, hx => by cases hx
 | a :: l, i, h, x, hx => by
   have h : (p a && j4 (fun _ g => p g) (i + 1) l) = true := h
   simp only [Bool.and_eq_true] at h
   rcases List.mem_cons.1 hx with rfl | hx
   ·exact h.1
   ·exact all_mem p l (i + 1) h.2 x hx
theorem node_facts {n : Node} (hc : checkErr n = 0) : y5 n = true ∧ yy n = true ∧ ∀ x ∈ n.gaps, ye x = true := by
 obtain ⟨_, _, _, h3⟩ := check_ok hc
 obtain ⟨h4, _⟩ := first_ok h3
 obtain ⟨k0, k1, k2, k3, k4, k5⟩ := node_ok h4
 refine ⟨k2, k4, ?_⟩
 unfold ur at k5
 simp only [Bool.or_eq_true, Bool.and_eq_true, decide_eq_true_eq] at k5
 rcases k5 with h | h
 ·rw [h]; intro x hx; cases hx
 ·exact all_mem ye n.gaps 0 h.1
theorem kid_file {n m : Node} (hc : checkErr n = 0) (hm : m ∈ n.kids) : m.kind ≠ 1 := by
 obtain ⟨i, hi⟩ := List.getElem?_of_mem hm
 have h := ((parts n hc).2.2 i m hi).2
 intro e
 rw [e, fits_file _ _ (wn hc).kn] at h; cases h
theorem toks_good : ∀ (j : Nat) (n : Node), jl n ≤ j → checkErr n = 0 → n.kind ≠ 1 → ∀ (l : BA) (v : Int), vf l → ∀ x ∈ toks 0 n l v, Z3 x
 | 0, n, h, _, _, _, _, _ => by have := wr n; omega
 | j + 1, n, h, hc, h1, l, v, hl => by
   have w := wn hc
   have e := vd n
   obtain ⟨f2, f4, fg⟩ := node_facts hc
   have hb := bc_steps (d := 0) (t := n.text) (nk := n.kids.length) (v := v) w.kn hl
   rw [Qf]
   refine uy _ _ _ hb (words_ok w.kn f2 f4 h1 l v) fg (fun f hf l' v' hs x hx => ?_)
   obtain ⟨m, hm, rfl⟩ := Yl 0 _ f hf
   have := Qw hm
   exact toks_good j m (by omega) (w.kids m hm) (kid_file hc hm) l' v' (hb _ hs) x hx
/-- Along kids alone: what stands behind, too. -/
theorem Y7 : ∀ (S : List Step) (c : BA) (g : List BA) (ks : List (BA → Int → List Tok)), wordsS S = [] → ∃ T, jj (S ++ [.own c e0]) g ks = T ++ [(g.headD c, e0)] ∧ T = jj S g ks
 | [], c, [], ks, h => ⟨[], rfl, rfl⟩
 | [], c, x :: g, ks, h => ⟨[], rfl, rfl⟩
 | .own a w :: S, c, g, ks, h => by rw [wordsS] at h; cases h
 | .kid l v :: S, c, g, [], h => by
   obtain ⟨T, e, e2⟩ := Y7 S c g [] (by rw [wordsS] at h; exact h)
   refine ⟨T, ?_, ?_⟩
   ·rw [List.cons_append, jj, e]
   ·rw [jj, e2]
 | .kid l v :: S, c, g, k :: ks, h => by
   obtain ⟨T, e, e2⟩ := Y7 S c g ks (by rw [wordsS] at h; exact h)
   refine ⟨k l v ++ T, ?_, ?_⟩
   ·rw [List.cons_append, jj, e, List.append_assoc]
   ·rw [jj, e2]
theorem toks_all (n : Node) (hc : checkErr n = 0) (l : BA) (v : Int) (hl : vf l) : good (toks 0 n l v) ∧ (n.kind ≠ 1 → ∀ x ∈ toks 0 n l v, Z3 x) ∧ (n.kind = 1 → ∃ T g, toks 0 n l v = T ++ [(g, e0)] ∧ ∀ x ∈ T, Z3 x) := by
 by_cases h1 : n.kind = 1
 ·have w := wn hc
  obtain ⟨f2, f4, fg⟩ := node_facts hc
  have hb := bc_steps (d := 0) (t := n.text) (nk := n.kids.length) (v := v) w.kn hl
  have hs : stepsOf 0 n.kind n.text n.kids.length l v = yj v l n.kids.length ++ [.own (yt l n.kids.length) e0] := by rw [h1]; rfl
  obtain ⟨T, e, e2⟩ := Y7 (yj v l n.kids.length) (yt l n.kids.length) n.gaps (kj 0 n.kids) (vz v _ l)
  have ht : toks 0 n l v = T ++ [(n.gaps.headD (yt l n.kids.length), e0)] := by rw [Qf, hs, e]
  have hT : ∀ x ∈ T, Z3 x := by
   rw [e2]
   rw [hs] at hb
   refine uy _ _ _ (fun s hs => hb s (List.mem_append_left _ hs)) (fun w hw => by rw [vz] at hw; cases hw) fg (fun f hf l' v' hs' x hx => ?_)
   obtain ⟨m, hm, rfl⟩ := Yl 0 _ f hf
   exact toks_good (jl m) m (Nat.le_refl _) (w.kids m hm) (kid_file hc hm) l' v' (hb _ (List.mem_append_left _ hs')) x hx
  have hg : zk (L (n.gaps.headD (yt l n.kids.length))) = [] := by
   cases hgs : n.gaps with
   | nil => rw [hs] at hb; exact Zf _ (valid_blank _ (hb (.own (yt l n.kids.length) e0) (by simp)))
   | cons y g => exact Zf _ (fg y (by rw [hgs]; simp))
  exact ⟨by rw [ht]; exact good_end T _ hT hg, fun q => absurd h1 q, fun _ => ⟨T, _, ht, hT⟩⟩
 ·have := toks_good (jl n) n (Nat.le_refl _) hc h1 l v hl
  exact ⟨good_of _ this, fun _ => this, fun q => absurd q h1⟩
def sepL (last g w : List UInt8) : List UInt8 := if spaceL last g w = true then [32] else []
def sfx : BA → List Tok → List UInt8
 | _, [] => []
 | last, (g, w) :: T => sepL (L last) (L g) (L w) ++ (L g ++ (L w ++ sfx w T))
theorem src_sfx : ∀ (T : List Tok) (s : List UInt8) (last : BA), (srcL T s last).1 = s ++ sfx last T
 | [], s, last => by rw [srcL, sfx, List.append_nil]
 | (g, w) :: T, s, last => by rw [srcL, src_sfx T, outL, sfx, sepL, List.append_assoc, List.append_assoc, List.append_assoc]
theorem apart_sfx (w : BA) (hw : okW w) : ∀ (T : List Tok), good T → Apart (L w) (sfx w T)
 | [], _ => apart_nil _
 | (g, w') :: T, h => by
   obtain ⟨hg, h2⟩ := h
   rw [sfx, sepL]
   cases hs : spaceL (L w) (L g) (L w') with
   | true => rw [if_pos rfl]; exact apart_space _ _
   | false =>
     rw [if_neg (by decide), List.nil_append]
     unfold spaceL at hs
     cases hG : L g with
     | nil =>
       rw [hG, if_pos rfl] at hs
       rw [List.nil_append]
       rcases h2 with ⟨h3, h4⟩ | ⟨rfl, rfl⟩
       ·have ha := apart_of hw h3 hs
        intro c hc
        refine ha c ?_
        have hne := (Tk.kind_cases h3).1
        cases hq : L w' with
        | nil => exact absurd hq hne
        | cons d r => rw [hq] at hc; simpa using hc
       ·rw [show sfx e0 [] = [] from rfl]; exact apart_nil _
     | cons d r =>
       rw [hG, if_neg (by simp)] at hs
       intro c hc
       rw [List.cons_append] at hc
       simp only [List.head?_cons, Option.some.injEq] at hc
       subst hc
       -- the first byte of trivia
       have hd : d = 32 ∨ d = 9 ∨ d = 10 ∨ d = 47 := by
        cases hq : jk (L g) with
        | none => rw [u6 _ hq, hG] at hg; cases hg
        | some q =>
          rw [hG, jx] at hq
          by_cases hb : d = 32 ∨ d = 9 ∨ d = 10
          ·rcases hb with hb | hb | hb
           ·exact .inl hb
           ·exact .inr (.inl hb)
           ·exact .inr (.inr (.inl hb))
          ·rw [if_neg hb] at hq
           by_cases h47 : d = 47 ∧ r.head? = some 47
           ·exact .inr (.inr (.inr h47.1))
           ·rw [if_neg h47] at hq; cases hq
       have hlet : letC d = false := by rcases hd with rfl | rfl | rfl | rfl <;> decide
       have h61 : d ≠ 61 := by rcases hd with rfl | rfl | rfl | rfl <;> decide
       refine ⟨fun q => ?_, fun q => h61 q.2, fun q => ?_⟩
       ·have q2 := q.2
        rw [hlet] at q2; cases q2
       ·rw [q.1, q.2] at hs
        simp at hs
/-- The texts that are read: the words, and an empty one at the end. -/
def txt : List Tok → List BA
 | [] => [e0]
 | (_, w) :: T => if w = e0 then [e0] else w :: txt T
theorem read_sfx (S : Nat) : ∀ (T : List Tok) (last : BA) (f : Nat), good T → (sfx last T).length < f → ∃ m, K2 S f (sfx last T) = .ok m ∧ m.map (·.Text) = txt T
 | [], last, 0, h, hf => by omega
 | [], last, f + 1, h, hf => ⟨_, by rw [sfx, K2, if_pos (show zk [] = [] from rfl)], rfl⟩
 | (g, w) :: T, last, 0, h, hf => by omega
 | (g, w) :: T, last, f + 1, h, hf => by
   obtain ⟨hg, h2⟩ := h
   have h1 : zk (sfx last ((g, w) :: T)) = zk (L w ++ sfx w T) := by
    rw [sfx]
    have : zk (L g ++ (L w ++ sfx w T)) = zk (L w ++ sfx w T) := rest_app2 _ _ hg
    unfold sepL
    split
    ·rw [List.singleton_append, rest_space, this]
    ·rw [List.nil_append, this]
   rcases h2 with ⟨h3, h4⟩ | ⟨rfl, rfl⟩
   ·have ha := apart_sfx w h3 T h4
    have hne := (Tk.kind_cases h3).1
    have hw : w ≠ e0 := fun e => hne (by rw [e])
    rw [rest_app h3 ha] at h1
    have hn := next_app h3 ha
    have hlen : (sfx w T).length < f := by
     rw [sfx, List.length_append, List.length_append, List.length_append] at hf
     have : 0 < (L w).length := List.length_pos_iff.2 hne
     omega
    obtain ⟨m, hm, ht⟩ := read_sfx S T w f h4 hlen
    rw [K2, h1, if_neg (by simp [hne]), hn, if_neg (by exact h3)]
    simp only
    rw [show (L w ++ sfx w T).drop (L w).length = sfx w T from List.drop_left, hm]
    refine ⟨_, rfl, ?_⟩
    rw [List.map_cons, ht, txt, if_neg hw]
    simp only [List.take_left]
    rw [ofB_L]
   ·have h5 : zk (sfx last [(g, e0)]) = [] := h1
    rw [K2, if_pos h5]
    exact ⟨_, rfl, rfl⟩
theorem txt_good : ∀ (T : List Tok), (∀ x ∈ T, Z3 x) → txt T = T.map (·.2) ++ [e0]
 | [], _ => rfl
 | (g, w) :: T, h => by
   have hw : w ≠ e0 := fun e => (Tk.kind_cases (h _ (List.mem_cons_self ..)).2).1 (by show L w = []; rw [e])
   rw [txt, if_neg hw, txt_good T (fun x hx => h x (List.mem_cons_of_mem _ hx))]; rfl
theorem txt_end : ∀ (T : List Tok) (g : BA), (∀ x ∈ T, Z3 x) → txt (T ++ [(g, e0)]) = (T ++ [(g, e0)]).map (·.2)
 | [], g, _ => by rw [List.nil_append, txt, if_pos rfl]; rfl
 | (a, w) :: T, g, h => by
   have hw : w ≠ e0 := fun e => (Tk.kind_cases (h _ (List.mem_cons_self ..)).2).1 (by show L w = []; rw [e])
   rw [List.cons_append, txt, if_neg hw, txt_end T g (fun x hx => h x (List.mem_cons_of_mem _ hx))]; rfl
end Go.Proofs.YtimcdpioclioiaaGreatDoorW.Ex.Gr

namespace Go.Proofs.YtimcdpioclioiaaGreatDoorW.Ex.Gr
open Go Go.Proofs.YtimcdpioclioiaaGreatDoorW.Ex Go.Proofs.YtimcdpioclioiaaGreatDoorW.Plain Tk
set_option linter.all false
set_option maxRecDepth 100000
mutual
def htN : Node → Nat
 | .mk _ _ _ l => htL l + 1
def htL : List Node → Nat
 | [] => 0
 | n :: l => max (htN n) (htL l)
end
def gsz (g : List BA) : Nat := (g.map (fun x => x.size + 1)).sum
mutual
def wq : Node → Nat
 | .mk _ t g l => t.size + gsz g + w8 l
def w8 : List Node → Nat
 | [] => 0
 | n :: l => wq n + w8 l
end
theorem ht_eq (n : Node) : htN n = htL n.kids + 1 := by cases n; rw [htN]; rfl
theorem bytesN_eq (n : Node) : wq n = n.text.size + gsz n.gaps + w8 n.kids := by cases n; rw [wq]; rfl
theorem ht_mem : ∀ {l : List Node} {m : Node}, m ∈ l → htN m ≤ htL l
 | a :: l, m, h => by
   rw [htL]
   rcases List.mem_cons.1 h with rfl | h
   ·exact Nat.le_max_left _ _
   ·exact Nat.le_trans (ht_mem h) (Nat.le_max_right _ _)
mutual
theorem left_ht : ∀ (n : Node) (k d r : Int), k ≤ 1000000 → -1000000 ≤ k → d ≤ 1000000 → -1000000 ≤ d → F_R6_left n k d = some r → 0 ≤ r → (htN n : Int) ≤ d
 | .mk kd t g l, k, d, r, h1, h2, h3, h4, e, hr => by
   rw [F_R6_left.eq_def] at e
   simp only [qa] at e
   by_cases c1 : k < 1
   ·rw [decide_eq_true c1, yh] at e; cases e; omega
   ·rw [decide_eq_false c1, yq] at e
    by_cases c2 : d < 1
    ·rw [decide_eq_true c2, yh] at e; cases e; omega
    ·rw [decide_eq_false c2, yq] at e
     by_cases c3 : k < (((Node.mk kd t g l).kids.map Node.cells).length : Int)
     ·rw [decide_eq_true c3, yh] at e; cases e; omega
     ·rw [decide_eq_false c3, yq, zr (by omega) (by omega)] at e
      rw [List.length_map] at c3
      have c3' : (l.length : Int) ≤ 1000000 := by
       have : ((Node.mk kd t g l).kids).length = l.length := rfl
       omega
      have := left_htL l [] (.mk kd t g l) d (k - 1) r rfl (by omega) (by omega) (by omega) (by omega) c3' e hr
      rw [htN]; omega
theorem left_htL : ∀ (l pre : List Node) (n : Node) (d k r : Int), n.kids = pre ++ l → 0 ≤ k → k ≤ 1000000 → d ≤ 1000000 → 1 ≤ d → (n.kids.length : Int) ≤ 1000000 → F_R6_left_l0 d k (pre.length : Int) n = some r → 0 ≤ r → (htL l : Int) ≤ d - 1
 | [], pre, n, d, k, r, hk, h0, h1, h2, h3, hb, e, hr => by rw [htL]; omega
 | m :: l, pre, n, d, k, r, hk, h0, h1, h2, h3, hb, e, hr => by
   have hb2 := hb
   rw [hk, List.length_append] at hb2
   obtain ⟨q, e1, hq⟩ := P_R6_left m k (d - 1) (by omega) (by omega) (by omega) (by omega)
   rw [F_R6_left_l0.eq_def] at e
   simp only [qa] at e
   rw [len_mid hk, yh, ix_mid hk, bs, zr (by omega) (by omega), e1, bs] at e
   by_cases c : q < 0
   ·rw [decide_eq_true c, yh] at e; cases e; omega
   ·rw [decide_eq_false c, yq, Ja (by omega) m] at e
    have hr2 : 0 ≤ q ∧ q = k - jl m := by unfold Left at hq; omega
    have a1 := left_ht m k (d - 1) q (by omega) (by omega) (by omega) (by omega) e1 (by omega)
    have a2 := left_htL l (pre ++ [m]) n d q r (Js hk) (by omega) (by omega) h2 h3 hb e hr
    rw [htL]
    have : (max (htN m) (htL l) : Nat) ≤ (d - 1).toNat := Nat.max_le.2 ⟨by omega, by omega⟩
    omega
end
theorem weigh3_l1 : ∀ (l pre : List Node) (n : Node) (k : Int), n.kids = pre ++ l → n.kids.length ≤ 100000 → 0 ≤ k → k ≤ 3000 → (∀ m ∈ l, ∀ k : Int, 0 ≤ k → k ≤ 3000 → ∃ r, F_R6_weigh m k = some r ∧ r ≤ k ∧ (0 ≤ r → r + wq m ≤ k)) →
 ∃ r, F_R6_weigh_l1 k (pre.length : Int) n = some r ∧ r ≤ k ∧ (0 ≤ r → r + w8 l ≤ k)
 | [], pre, n, k, h, hn, h0, h1, ih => by
   rw [F_R6_weigh_l1.eq_def, len_end h, yq]
   exact ⟨k, rfl, Int.le_refl _, fun _ => by rw [w8]; omega⟩
 | m :: l, pre, n, k, h, hn, h0, h1, ih => by
   have hl := len_lt h
   obtain ⟨r, e, hr, hb⟩ := ih m (List.mem_cons_self ..) k h0 h1
   rw [F_R6_weigh_l1.eq_def]
   simp only [qa]
   rw [len_mid h, yh, ix_mid h, bs, e, bs]
   by_cases c : r < 0
   ·rw [decide_eq_true c, yh]; exact ⟨_, rfl, by omega, fun q => by omega⟩
   ·rw [decide_eq_false c, yq, Ja (by omega) m]
    obtain ⟨r', e', hr', hb'⟩ := weigh3_l1 l (pre ++ [m]) n r (Js h) hn (by omega) (by omega) (fun m hm => ih m (List.mem_cons_of_mem _ hm))
    exact ⟨r', e', by omega, fun q => by rw [w8]; have := hb (by omega); have := hb' q; omega⟩
theorem weigh3_l0 : ∀ (l pre : List BA) (n : Node) (k : Int), n.gaps = pre ++ l → n.gaps.length ≤ 3000 → n.kids.length ≤ 100000 → 0 ≤ k → k ≤ 3000 → (∀ m ∈ n.kids, ∀ k : Int, 0 ≤ k → k ≤ 3000 → ∃ r, F_R6_weigh m k = some r ∧ r ≤ k ∧ (0 ≤ r → r + wq m ≤ k)) →
 ∃ r, F_R6_weigh_l0 k (pre.length : Int) n = some r ∧ r ≤ k ∧ (0 ≤ r → r + gsz l + w8 n.kids ≤ k)
 | [], pre, n, k, h, hn, hk, h0, h1, ih => by
   obtain ⟨r, e, hr, hb⟩ := weigh3_l1 n.kids [] n k rfl hk h0 h1 ih
   rw [F_R6_weigh_l0.eq_def]
   simp only [qa]
   rw [len_end h, yq]
   exact ⟨r, e, hr, fun q => by have := hb q; show r + ((0 : Nat) : Int) + _ ≤ k; omega⟩
 | m :: l, pre, n, k, h, hn, hk, h0, h1, ih => by
   have hl := len_lt h
   rw [F_R6_weigh_l0.eq_def]
   simp only [qa]
   rw [len_mid h, yh, ix_mid h, bs]
   by_cases c : k ≤ (m.size : Int)
   ·rw [decide_eq_true c, yh]; exact ⟨_, rfl, by omega, fun q => by omega⟩
   ·rw [decide_eq_false c, yq, bs, Ja (by omega) m, show IntKind.i64.wrap (k - (m.size : Int)) = k - m.size from zr (by omega) (by omega), zr (by omega) (by omega)]
    obtain ⟨r', e', hr', hb'⟩ := weigh3_l0 l (pre ++ [m]) n (k - m.size - 1) (Js h) hn hk (by omega) (by omega) ih
    refine ⟨r', e', by omega, fun q => ?_⟩
    have := hb' q
    unfold gsz at this ⊢
    rw [List.map_cons, List.sum_cons]; omega
theorem weigh3 : ∀ (j : Nat) (n : Node), jl n ≤ j → jl n ≤ 100000 → ∀ k : Int, 0 ≤ k → k ≤ 3000 → ∃ r, F_R6_weigh n k = some r ∧ r ≤ k ∧ (0 ≤ r → r + wq n ≤ k)
 | 0, n, h, _, _, _, _ => by have := wr n; omega
 | j + 1, n, h, hs, k, h0, h1 => by
   have e := vd n
   have hl := Zj n.kids
   rw [F_R6_weigh.eq_def]
   simp only [qa]
   by_cases c : k < (n.text.size : Int)
   ·rw [decide_eq_true c, yh]; exact ⟨_, rfl, by omega, fun q => by omega⟩
   ·rw [decide_eq_false c, yq]
    by_cases c2 : k < ((n.gaps.map sc).length : Int)
    ·rw [decide_eq_true c2, yh]; exact ⟨_, rfl, by omega, fun q => by omega⟩
    ·rw [decide_eq_false c2, yq, zr (by omega) (by omega)]
     rw [List.length_map] at c2
     obtain ⟨r, e1, hr, hb⟩ := weigh3_l0 n.gaps [] n (k - n.text.size) rfl (by omega) (by omega) (by omega) (by omega) (fun m hm => by
      have := Qw hm
      exact weigh3 j m (by omega) (by omega))
     refine ⟨r, e1, by omega, fun q => ?_⟩
     have := hb q
     rw [bytesN_eq]; omega
theorem gsz_mem : ∀ (g : List BA), g.length ≤ gsz g ∧ ∀ x ∈ g, x.size ≤ gsz g
 | [] => ⟨Nat.le_refl _, fun x h => by cases h⟩
 | a :: g => by
   obtain ⟨h1, h2⟩ := gsz_mem g
   have e : gsz (a :: g) = a.size + 1 + gsz g := by unfold gsz; rw [List.map_cons, List.sum_cons]
   refine ⟨by rw [e, List.length_cons]; omega, fun x hx => ?_⟩
   rcases List.mem_cons.1 hx with rfl | hx
   ·omega
   ·have := h2 x hx; omega
mutual
theorem bytes_bd : ∀ n : Node, wq n ≤ 3000 → bdN n
 | .mk k t g l, h => by
   rw [wq] at h
   obtain ⟨h1, h2⟩ := gsz_mem g
   rw [bdN]
   exact ⟨by omega, by omega, fun x hx => by have := h2 x hx; omega, bytes_bdL l (by omega)⟩
theorem bytes_bdL : ∀ l : List Node, w8 l ≤ 3000 → bdL l
 | [], _ => by rw [bdL]; trivial
 | n :: l, h => by rw [w8] at h; rw [bdL]; exact ⟨bytes_bd n (by omega), bytes_bdL l (by omega)⟩
end
theorem P_small3 (n : Node) : ∃ b, F_L8_small n = some b ∧ (b = true → jl n ≤ 250 ∧ wq n ≤ 3000 ∧ htN n ≤ 70) := by
 obtain ⟨r, e, hr⟩ := P_R6_left n 250 70 (by decide) (by decide) (by decide) (by decide)
 rw [F_L8_small.eq_def, F_R6_Light.eq_def, F_R6_Fits.eq_def, e, bs, bs]
 by_cases c : 0 ≤ r
 ·rw [if_pos (decide_eq_true c)]
  have hs : jl n ≤ 250 := by unfold Left at hr; omega
  have ht := left_ht n 250 70 r (by decide) (by decide) (by decide) (by decide) e c
  obtain ⟨r', e', _, hb⟩ := weigh3 (jl n) n (Nat.le_refl _) (by omega) 3000 (by omega) (by omega)
  rw [e']
  exact ⟨_, rfl, fun q => ⟨hs, by have := hb (of_decide_eq_true q); have := of_decide_eq_true q; omega, by omega⟩⟩
 ·rw [if_neg (by rw [decide_eq_true_eq]; exact c)]
  exact ⟨_, rfl, fun q => by cases q⟩
mutual
theorem bare_bytes : ∀ n : Node, wq (kv n) ≤ wq n
 | .mk k t g l => by
   have := bareL_bytes l
   rw [kv, wq, wq]
   show t.size + 0 + _ ≤ _; omega
theorem bareL_bytes : ∀ l : List Node, w8 (kg l) ≤ w8 l
 | [] => by rw [kg]; exact Nat.le_refl _
 | n :: l => by have := bare_bytes n; have := bareL_bytes l; rw [kg, w8, w8]; omega
end
mutual
theorem bare_ht : ∀ n : Node, htN (kv n) = htN n
 | .mk k t g l => by rw [kv, htN, htN, bareL_ht l]
theorem bareL_ht : ∀ l : List Node, htL (kg l) = htL l
 | [] => by rw [kg]
 | n :: l => by rw [kg, htL, htL, bare_ht n, bareL_ht l]
end
def cost (T : List Tok) : Nat := (T.map (fun x => x.1.size + x.2.size + 1)).sum
theorem cost_app (a b : List Tok) : cost (a ++ b) = cost a + cost b := by unfold cost; rw [List.map_append, List.sum_append]
theorem cost_cons (g w : BA) (T : List Tok) : cost ((g, w) :: T) = g.size + w.size + 1 + cost T := by unfold cost; rw [List.map_cons, List.sum_cons]
theorem sfx_cost : ∀ (T : List Tok) (last : BA), (sfx last T).length ≤ cost T
 | [], last => Nat.le_refl _
 | (g, w) :: T, last => by
   have ih := sfx_cost T w
   have hs : (sepL (L last) (L g) (L w)).length ≤ 1 := by unfold sepL; split <;> simp
   rw [sfx, cost_cons, List.length_append, List.length_append, List.length_append, vj, vj]; omega
def csum (S : List Step) : Nat := ((y3 S).map (fun x => x.size)).sum
def wsum (S : List Step) : Nat := ((wordsS S).map (fun x => x.size)).sum
theorem csum_own (c w : BA) (S : List Step) : csum (.own c w :: S) = c.size + csum S := by unfold csum; rw [y3, List.map_cons, List.sum_cons]
theorem J6 (l : BA) (v : Int) (S : List Step) : csum (.kid l v :: S) = csum S := rfl
theorem Kx (c w : BA) (S : List Step) : wsum (.own c w :: S) = w.size + wsum S := by unfold wsum; rw [wordsS, List.map_cons, List.sum_cons]
theorem Z9 (l : BA) (v : Int) (S : List Step) : wsum (.kid l v :: S) = wsum S := rfl
theorem csum_app (a b : List Step) : csum (a ++ b) = csum a + csum b := by unfold csum; rw [Ks, List.map_append, List.sum_append]
theorem wsum_app (a b : List Step) : wsum (a ++ b) = wsum a + wsum b := by unfold wsum; rw [ux, List.map_append, List.sum_append]
theorem vt : ∀ (S : List Step) (g : List BA) (ks : List (BA → Int → List Tok)) (b : List Nat), b.length = ks.length → (∀ (i : Nat) (f : BA → Int → List Tok) (n : Nat) (l : BA) (v : Int), ks[i]? = some f → b[i]? = some n → Step.kid l v ∈ S → cost (f l v) ≤ n) →
 cost (jj S g ks) ≤ gsz g + csum S + wsum S + (wordsS S).length + b.sum
 | [], g, ks, b, _, _ => Nat.zero_le _
 | .own c w :: r, [], ks, b, h, hk => by
   have := vt r [] ks b h (fun i f n l v a1 a2 a3 => hk i f n l v a1 a2 (List.mem_cons_of_mem _ a3))
   rw [jj, cost_cons, csum_own, Kx, wordsS, List.length_cons]; omega
 | .own c w :: r, y :: g, ks, b, h, hk => by
   have := vt r g ks b h (fun i f n l v a1 a2 a3 => hk i f n l v a1 a2 (List.mem_cons_of_mem _ a3))
   have e : gsz (y :: g) = y.size + 1 + gsz g := by unfold gsz; rw [List.map_cons, List.sum_cons]
   rw [jj, cost_cons, csum_own, Kx, wordsS, List.length_cons]; omega
 | .kid l v :: r, g, [], b, h, hk => by
   have := vt r g [] b h (fun i f n l v a1 a2 a3 => hk i f n l v a1 a2 (List.mem_cons_of_mem _ a3))
   rw [jj, J6, Z9, wordsS]; exact this
 | .kid l v :: r, g, f :: ks, [], h, hk => by simp at h
 | .kid l v :: r, g, f :: ks, n :: b, h, hk => by
   have h1 := hk 0 f n l v rfl rfl (List.mem_cons_self ..)
   have := vt r g ks b (by simpa using h) (fun i f n l v a1 a2 a3 => hk (i + 1) f n l v (by simpa using a1) (by simpa using a2) (List.mem_cons_of_mem _ a3))
   rw [jj, cost_app, J6, Z9, wordsS, List.sum_cons]; omega
theorem csum_rest (v : Int) : ∀ (r : Nat) (b : Bool), csum (jf v b r) = 0
 | 0, true => rfl
 | 0, false => rfl
 | r + 1, true => by rw [jf, J6, csum_rest v r false]
 | r + 1, false => by rw [jf, csum_own, J6, csum_rest v r false]; rfl
theorem Yh (v : Int) : ∀ (r : Nat) (b : Bool), wsum (jf v b r) ≤ r + 1
 | 0, true => Nat.le_refl 1
 | 0, false => Nat.le_refl 1
 | r + 1, true => by rw [jf, Z9]; have := Yh v r false; omega
 | r + 1, false => by
   have := Yh v r false
   rw [jf, Kx, Z9]
   show 1 + _ ≤ _; omega
theorem csum_all (l : BA) (v : Int) (r : Nat) : csum (allS l v r) = 0 := by unfold csum; rw [canon_all]; rfl
theorem wsum_all (l : BA) (v : Int) (r : Nat) : wsum (allS l v r) = 0 := by unfold wsum; rw [own_all]; rfl
theorem csum_file (l : BA) (v : Int) (r : Nat) : csum (yj v l r) = 0 := by unfold csum; rw [canon_file]; rfl
theorem wsum_file (l : BA) (v : Int) (r : Nat) : wsum (yj v l r) = 0 := by unfold wsum; rw [vz]; rfl
theorem csum_nil : csum [] = 0 := rfl
theorem wsum_nil : wsum [] = 0 := rfl
theorem sz (l : Array UInt8) : (⟨l⟩ : BA).size = l.size := rfl
theorem sums_le {k : Int} {t : BA} {nk : Nat} {l : BA} {v : Int} (hk : known k = true) (h0 : 0 ≤ v) : csum (stepsOf 0 k t nk l v) ≤ l.size + v.toNat + 4 ∧ wsum (stepsOf 0 k t nk l v) ≤ t.size + nk + 10 := by
 have hfe : (yt l nk).size ≤ l.size + 1 := by unfold yt; split; exact Nat.le_add_left 1 _; omega
 have hbe : ∀ f, (Za v f nk).size ≤ v.toNat + 1 := by intro f; unfold Za; split; rw [Yr]; exact Nat.le_refl _; exact Nat.zero_le _
 have hb0 := hbe 0
 have hb1 := hbe 1
 have r1 := Yh v nk true
 have r2 := Yh v (nk - 1) true
 rcases kinds hk with rfl | rfl | rfl | rfl | rfl | rfl | rfl | rfl | rfl | rfl | rfl | rfl | rfl | rfl | rfl | rfl | rfl | rfl | rfl | rfl | rfl | rfl | rfl | rfl | rfl | rfl
 case' inr.inr.inr.inr.inr.inr.inr.inl => by_cases c : t = e0 <;> simp only [stepsOf, Int.reduceEq, c, ite_true, ite_false, if_true, if_false]
 case' inr.inr.inr.inr.inr.inr.inr.inr.inr.inr.inr.inr.inr.inl => by_cases c : nk = 0 <;> simp only [stepsOf, Int.reduceEq, c, ite_true, ite_false, if_true, if_false]
 all_goals try simp only [stepsOf, Int.reduceEq, ite_true, ite_false]
 all_goals simp only [csum_app, wsum_app, csum_own, Kx, J6, Z9, csum_rest, csum_all, wsum_all, csum_file, wsum_file, csum_nil, wsum_nil, wl, ke, sz, e0, sp, List.size_toArray, List.length_cons, List.length_nil]
 all_goals omega
theorem sz_file (v : Int) : ∀ (r : Nat) (l : BA) (x : BA × Int), x ∈ jn (yj v l r) → x.1.size ≤ l.size + 2
 | r, l, x, h => by
   obtain ⟨i, hi⟩ := List.getElem?_of_mem h
   rw [lead_file v r i l x hi]
   show (if i = 0 then l else ⟨#[10, 10]⟩ : BA).size ≤ _
   split
   ·omega
   ·exact Nat.le_add_left 2 _
theorem sz_rest (v : Int) (r : Nat) {x : BA × Int} (h : x ∈ jn (jf v true r)) : x.1.size ≤ 1 := by
 obtain ⟨i, hi⟩ := List.getElem?_of_mem h
 rw [lead_rest v r i x hi]
 show (if i = 0 then e0 else sp : BA).size ≤ 1
 split <;> decide
theorem sz_all (l : BA) (v : Int) (r : Nat) {x : BA × Int} (h : x ∈ jn (allS l v r)) : x.1.size = l.size := by
 obtain ⟨i, hi⟩ := List.getElem?_of_mem h
 rw [lead_all l v r i x hi]
theorem lead_size {k : Int} {t : BA} {nk : Nat} {l : BA} {v : Int} (hk : known k = true) (h0 : 0 ≤ v) (hv : v ≤ 75) (hl : l.size ≤ 80) (h1 : k = 1 → l.size ≤ 70) : ∀ x ∈ jn (stepsOf 0 k t nk l v), x.1.size ≤ 80 := by
 intro x hx
 have hL : (lineP (v + 1)).size ≤ 80 := by rw [Yr]; omega
 have e0s : (e0 : BA).size ≤ 80 := by decide
 have sps : (sp : BA).size ≤ 80 := by decide
 rcases kinds hk with rfl | rfl | rfl | rfl | rfl | rfl | rfl | rfl | rfl | rfl | rfl | rfl | rfl | rfl | rfl | rfl | rfl | rfl | rfl | rfl | rfl | rfl | rfl | rfl | rfl | rfl
 case' inr.inr.inr.inr.inr.inr.inr.inl => by_cases c : t = e0 <;> simp [stepsOf, c, jn] at hx
 case' inr.inr.inr.inr.inr.inr.inr.inr.inr.inr.inr.inr.inr.inl => by_cases c : nk = 0 <;> simp [stepsOf, c, jn] at hx
 all_goals try simp only [stepsOf, Int.reduceEq, ite_false, ite_true, Zp, jn, List.mem_append, List.mem_cons, List.not_mem_nil, or_false, false_or, wl, ke, List.append_nil] at hx
 all_goals first
  | (have a := sz_file _ _ _ _ hx; have := h1 rfl; omega)
  | (have a := sz_rest _ _ hx; omega)
  | (have a := sz_all _ _ _ hx; omega)
  | (rcases hx with rfl | hx
     ·dsimp only; omega
     ·first
      | (have a := sz_rest _ _ hx; omega)
      | (have a := sz_all _ _ _ hx; omega))
  | (rcases hx with rfl | rfl | rfl <;> dsimp only <;> omega)
  | (rcases hx with rfl | rfl <;> dsimp only <;> omega)
  | (subst hx; dsimp only; omega)
theorem sumB (l : List Node) : (l.map (fun m => wq m + 173 * jl m - 2)).sum + 2 * l.length ≤ w8 l + 173 * ya l := by
 induction l with
 | nil => exact Nat.le_refl 0
 | cons a l ih =>
   have := wr a
   rw [List.map_cons, List.sum_cons, List.length_cons, w8, ya]; omega
theorem toks_cost : ∀ (j : Nat) (n : Node), jl n ≤ j → checkErr n = 0 → ∀ (l : BA) (v : Int), l.size ≤ 80 → (n.kind = 1 → l.size ≤ 70) → 0 ≤ v → v + htN n ≤ 71 → cost (toks 0 n l v) + 2 ≤ wq n + 173 * jl n
 | 0, n, h, _, _, _, _, _, _, _ => by have := wr n; omega
 | j + 1, n, h, hc, l, v, hl, hl1, h0, hv => by
   have w := wn hc
   have e := vd n
   have eh := ht_eq n
   have eb := bytesN_eq n
   have ho := own_le 0 l v w.kn w.nk
   obtain ⟨s1, s2⟩ := sums_le (t := n.text) (nk := n.kids.length) (l := l) w.kn h0
   have hld := lead_size (t := n.text) (nk := n.kids.length) w.kn h0 (by omega) hl hl1
   have hc2 := vt (stepsOf 0 n.kind n.text n.kids.length l v) n.gaps (kj 0 n.kids) (n.kids.map (fun m => wq m + 173 * jl m - 2)) (by rw [List.length_map, toksL_len]) (fun i f k l' v' h1 h2 h3 => by
    obtain ⟨m, hm, rfl⟩ := toksL_get 0 _ i f h1
    rw [List.getElem?_map, hm] at h2
    simp only [Option.map_some, Option.some.injEq] at h2
    have hmm := List.mem_of_getElem? hm
    have hs := Qw hmm
    have hh := ht_mem hmm
    obtain ⟨q1, q2⟩ := lev_steps 0 (.inl rfl) w.kn h3
    have := toks_cost j m (by omega) (w.kids m hmm) l' v' (hld _ (Yq h3)) (fun q => absurd q (kid_file hc hmm)) (by omega) (by omega)
    omega)
   have hsb := sumB n.kids
   rw [Qf]
   omega
/-- The words do not depend on the gaps. -/
theorem vu : ∀ (S : List Step) (g : List BA) (ks : List Node), (∀ m ∈ ks, ∀ l v, (toks 0 (kv m) l v).map (·.2) = (toks 0 m l v).map (·.2)) → (jj S [] (kj 0 (kg ks))).map (·.2) = (jj S g (kj 0 ks)).map (·.2)
 | [], g, ks, h => by rw [jj, jj]
 | .own c w :: S, [], ks, h => by rw [jj, jj, List.map_cons, List.map_cons, vu S [] ks h]
 | .own c w :: S, y :: g, ks, h => by rw [jj, jj, List.map_cons, List.map_cons, vu S g ks h]
 | .kid l v :: S, g, [], h => by
   rw [kg, kj, jj, jj]
   have := vu S g [] (fun m hm => by cases hm)
   rw [kg, kj] at this; exact this
 | .kid l v :: S, g, m :: ks, h => by
   rw [kg, kj, kj, jj, jj, List.map_append, List.map_append, h m (List.mem_cons_self ..), vu S g ks (fun m hm => h m (List.mem_cons_of_mem _ hm))]
theorem toks_bare : ∀ (j : Nat) (n : Node), jl n ≤ j → ∀ l v, (toks 0 (kv n) l v).map (·.2) = (toks 0 n l v).map (·.2)
 | 0, n, h, _, _ => by have := wr n; omega
 | j + 1, n, h, l, v => by
   have e := vd n
   rw [bare_eq, Qf, Qf]
   show (jj (stepsOf 0 n.kind n.text (kg n.kids).length l v) [] (kj 0 (kg n.kids))).map _ = _
   rw [bareL_len]
   exact vu _ _ _ (fun m hm l' v' => by have := Qw hm; exact toks_bare j m (by omega) l' v')
end Go.Proofs.YtimcdpioclioiaaGreatDoorW.Ex.Gr
