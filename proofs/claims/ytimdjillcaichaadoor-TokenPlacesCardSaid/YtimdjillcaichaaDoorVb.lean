/- Integers of the language: what the program asks of a run of digits, and what the reference asks. Conditions: those in each theorem. -/
import Derived.Test.YtimdjillcaichaaDoorVa
import Derived.Lib.AtoiAllCases
namespace Go.Proofs.YtimdjillcaichaaDoorW.Ex.Gr
open Go Go.Proofs.YtimdjillcaichaaDoorW.Ex Go.Proofs.YtimdjillcaichaaDoorW.Plain
set_option linter.all false
set_option maxRecDepth 100000
namespace Tk
open Go.Lib (decDigits parseUint10 parseMag atoiAll nDigits)
theorem parse_some : ∀ (l : List UInt8) (acc u : Nat), parseUint10 acc l = .ok u → valueFrom (acc : Int) l = some (u : Int)
  | [], acc, u, h => by rw [parseUint10] at h; cases h; rfl
  | c :: r, acc, u, h => by
    simp only [parseUint10] at h
    split at h
    · rename_i hc
      split at h
      · cases h
      · split at h
        · cases h
        · have := parse_some r _ u h
          rw [valueFrom]
          have hd : digitB (c.toNat : Int) = true := decide_eq_true (by omega)
          rw [if_pos hd, show (acc : Int) * 10 + ((c.toNat : Int) - 48) = ((acc * 10 + (c.toNat - 48) : Nat) : Int) by omega]
          exact this
    · cases h
theorem value_mono : ∀ (l : List UInt8) (acc n : Int), 0 ≤ acc → valueFrom acc l = some n → acc ≤ n
  | [], acc, n, h0, h => by cases h; exact Int.le_refl _
  | c :: r, acc, n, h0, h => by
    rw [valueFrom] at h
    split at h
    · rename_i hd
      have hd := of_decide_eq_true hd
      have := value_mono r _ n (by omega) h
      omega
    · cases h
theorem parse_of : ∀ (l : List UInt8) (acc u : Nat), valueFrom (acc : Int) l = some (u : Int) → u ≤ 1000000000000 → parseUint10 acc l = .ok u
  | [], acc, u, h, hu => by
    rw [valueFrom] at h
    rw [parseUint10]
    have := Option.some.inj h
    rw [Int.ofNat_inj.1 this]
  | c :: r, acc, u, h, hu => by
    rw [valueFrom] at h
    split at h
    · rename_i hd
      have hd := of_decide_eq_true hd
      have hm := value_mono r _ _ (by omega) h
      rw [show (acc : Int) * 10 + ((c.toNat : Int) - 48) = ((acc * 10 + (c.toNat - 48) : Nat) : Int) by omega] at h
      have := parse_of r _ u h hu
      simp only [parseUint10]
      rw [if_pos ⟨by omega, by omega⟩, if_neg (by omega), if_neg (by omega)]
      exact this
    · cases h
theorem digit_back {c : UInt8} (h0 : 48 ≤ c.toNat) (h1 : c.toNat ≤ 57) : UInt8.ofNat (48 + (c.toNat - 48)) = c := by
  apply UInt8.toNat_inj.1
  rw [UInt8.toNat_ofNat']
  omega
theorem dec_step (acc : Nat) (c : UInt8) (h : 0 < acc) (h0 : 48 ≤ c.toNat) (h1 : c.toNat ≤ 57) : decDigits (acc * 10 + (c.toNat - 48)) = decDigits acc ++ [c] := by
  rw [decDigits, dif_neg (by omega), show (acc * 10 + (c.toNat - 48)) / 10 = acc by omega, show (acc * 10 + (c.toNat - 48)) % 10 = c.toNat - 48 by omega, digit_back h0 h1]
theorem dec_value : ∀ (l : List UInt8) (acc u : Nat), 0 < acc → valueFrom (acc : Int) l = some (u : Int) → decDigits u = decDigits acc ++ l
  | [], acc, u, h0, h => by
    rw [valueFrom] at h
    rw [List.append_nil, Int.ofNat_inj.1 (Option.some.inj h)]
  | c :: r, acc, u, h0, h => by
    rw [valueFrom] at h
    split at h
    · rename_i hd
      have hd := of_decide_eq_true hd
      rw [show (acc : Int) * 10 + ((c.toNat : Int) - 48) = ((acc * 10 + (c.toNat - 48) : Nat) : Int) by omega] at h
      rw [dec_value r _ u (by omega) h, dec_step acc c h0 (by omega) (by omega), List.append_assoc]; rfl
    · cases h
/-- Without a leading zero the digits are the numeral. -/
theorem dec_self (c : UInt8) (r : List UInt8) (u : Nat) (h : valueFrom 0 (c :: r) = some (u : Int)) (hc : c ≠ 48) : decDigits u = c :: r := by
  rw [valueFrom] at h
  split at h
  · rename_i hd
    have hd := of_decide_eq_true hd
    have hne : c.toNat ≠ 48 := fun e => hc (UInt8.toNat_inj.1 e)
    rw [show (0 : Int) * 10 + ((c.toNat : Int) - 48) = ((c.toNat - 48 : Nat) : Int) by omega] at h
    rw [dec_value r _ u (by omega) h, Go.Lib.decDigits_one (by omega), digit_back (by omega) (by omega)]; rfl
  · cases h
theorem dec_len : ∀ (r : List UInt8) (u : Nat), r ≠ [] → valueFrom 0 r = some (u : Int) → (decDigits u).length ≤ r.length
  | [], u, h, _ => absurd rfl h
  | c :: r, u, _, h => by
    by_cases hc : c = 48
    · subst hc
      rw [valueFrom] at h
      have hd : digitB ((48 : UInt8).toNat : Int) = true := rfl
      rw [if_pos hd, show (0 : Int) * 10 + (((48 : UInt8).toNat : Int) - 48) = 0 from rfl] at h
      cases r with
      | nil =>
        have hu : u = 0 := by have := Option.some.inj h; omega
        rw [hu, Go.Lib.decDigits_one (by decide)]; decide
      | cons d r =>
        have := dec_len (d :: r) u (by simp) h
        rw [List.length_cons]; omega
    · rw [dec_self c r u h hc]; exact Nat.le_refl _
theorem ndig_le : ∀ (k u : Nat), 0 < k → u < 10 ^ k → nDigits u ≤ k
  | 0, u, h, _ => absurd h (by decide)
  | k + 1, u, _, h => by
    by_cases hu : u < 10
    · rw [Go.Lib.nDigits_small hu]; omega
    · rw [Go.Lib.nDigits_big hu]
      have h1 : u / 10 < 10 ^ k := by rw [Nat.div_lt_iff_lt_mul (by decide)]; rw [Nat.pow_succ] at h; exact h
      have hk : 0 < k := by
        rcases Nat.eq_zero_or_pos k with rfl | h2
        · rw [Nat.pow_zero] at h1; omega
        · exact h2
      have := ndig_le k (u / 10) hk h1
      omega
theorem value_nat : ∀ (l : List UInt8) (acc : Nat) (n : Int), valueFrom (acc : Int) l = some n → ∃ u : Nat, n = (u : Int) := fun l acc n h => ⟨n.toNat, by have := value_mono l acc n (by omega) h; omega⟩
theorem tok_int (c : UInt8) (r : List UInt8) (hd : digC c = true) : tokInt (c :: r) = integerB (c :: r) := by
  have hdc : 48 ≤ c.toNat ∧ c.toNat ≤ 57 := by have := of_decide_eq_true hd; omega
  have hA : atoiAll (c :: r) = Lib.signless (parseMag (c :: r)) := Lib.atoiAll_plain c r (by omega) (by omega)
  have hM : parseMag (c :: r) = parseUint10 0 (c :: r) := by unfold Go.Lib.parseMag; rw [if_neg (by simp)]
  rw [hM] at hA
  have key : ∀ v : Int, atoiAll (c :: r) = .ok v → valueFrom 0 (c :: r) = some v := by
    intro v hv
    rw [hA] at hv
    cases hp : parseUint10 0 (c :: r)
    · rename_i u
      rw [hp] at hv
      simp only [Go.Lib.signless] at hv
      split at hv
      · cases hv
      · injection hv with hv
        rw [← hv]
        exact parse_some _ 0 u hp
    · rw [hp] at hv; cases hv
    · rw [hp] at hv; cases hv
  unfold integerB
  have e0 : (!(c :: r).isEmpty) = true := rfl
  rw [e0, Bool.true_and]
  cases hv : valueFrom 0 (c :: r) with
  | none =>
    rw [Bool.and_false]
    unfold tokInt
    cases ha : atoiAll (c :: r)
    · rw [key _ ha] at hv; cases hv
    · rfl
    · rfl
  | some n =>
    obtain ⟨u, rfl⟩ := value_nat (c :: r) 0 n hv
    by_cases hn : (u : Int) ≤ 1000000000000
    · have hp := parse_of (c :: r) 0 u hv (by omega)
      have ha : atoiAll (c :: r) = .ok (u : Int) := by
        rw [hA, hp]
        unfold Go.Lib.signless
        simp only
        rw [if_neg (by omega)]
      have hi : Lib.itoa (u : Int) = decDigits u := by unfold Go.Lib.itoa; rw [if_neg (by omega), Int.toNat_natCast]
      unfold tokInt
      rw [ha]
      simp only
      rw [decide_eq_true hn, hi, Bool.and_true, Bool.true_and]
      have hlen : (decDigits u).length ≤ 13 := by
        rw [Go.Lib.decDigits_length]; exact ndig_le 13 u (by decide) (by omega)
      by_cases hc : c = 48
      · subst hc
        cases r with
        | nil =>
          have hu : u = 0 := by
            rw [valueFrom] at hv
            have hd : digitB ((48 : UInt8).toNat : Int) = true := rfl
            rw [if_pos hd] at hv
            have := Option.some.inj hv
            have h48 : ((48 : UInt8).toNat : Int) = 48 := rfl
            omega
          rw [hu, Go.Lib.decDigits_one (by decide)]; rfl
        | cons d r =>
          have hl : (decDigits u).length ≤ (d :: r).length := by
            have h2 := hv
            rw [valueFrom] at h2
            have hd : digitB ((48 : UInt8).toNat : Int) = true := rfl
            rw [if_pos hd, show (0 : Int) * 10 + (((48 : UInt8).toNat : Int) - 48) = 0 from rfl] at h2
            exact dec_len (d :: r) u (by simp) h2
          have hne : (decDigits u == 48 :: d :: r) = false := by
            rw [beq_eq_false_iff_ne]
            intro e
            rw [e] at hl
            simp at hl
            omega
          rw [hne]
          have h1 : decide (1 < (48 :: d :: r).length) = true := decide_eq_true (by simp)
          rw [h1]
          simp
      · rw [dec_self c r u hv hc] at hlen ⊢
        have hh : ((c :: r).head? == some 48) = false := by
          rw [beq_eq_false_iff_ne]
          intro e
          exact hc (Option.some.inj e)
        rw [hh, decide_eq_true hlen]
        simp
    · have hf : decide ((u : Int) ≤ 1000000000000) = false := decide_eq_false hn
      simp only [hf, Bool.and_false]
      unfold tokInt
      cases ha : atoiAll (c :: r)
      · have := key _ ha
        rw [hv] at this
        cases this
        simp only [hf, Bool.false_and]
      · rfl
      · rfl
/-! ### The reference's -/
theorem P_R5_integer_l0 : ∀ (l : List UInt8) (s : ByteArray) (k : Nat) (n : Int), (L s).drop k = l → s.size ≤ 13 → k ≤ s.size → 0 ≤ n → n < 10 ^ k →
    F_R5_integer_l0 s n (k : Int) = some (match valueFrom n l with | some v => decide (v ≤ 1000000000000) | none => false)
  | [], s, k, n, h, hs, hk, h0, h1 => by
    have := drop_nil h
    rw [E_F_R5_integer_l0, decide_eq_false (by omega), ff]; rfl
  | c :: l, s, k, n, h, hs, hk, h0, h1 => by
    obtain ⟨h2, h3⟩ := drop_lt h
    have hc := c.toNat_lt
    rw [E_F_R5_integer_l0, decide_eq_true (by omega), tt, sx_cons h, bs, P_Digit, bs, valueFrom]
    have hp : (10 : Int) ^ k ≤ 10 ^ 13 := by
      have : (10 : Nat) ^ k ≤ 10 ^ 13 := Nat.pow_le_pow_right (by decide) (by omega)
      have h := Int.ofNat_le.2 this
      simpa using h
    cases hd : digC c with
    | false =>
      have hd' : digitB (c.toNat : Int) = false := hd
      rw [ntt, hd']; rfl
    | true =>
      have hd' : digitB (c.toNat : Int) = true := hd
      have hdc := of_decide_eq_true hd'
      rw [nff, bs, hd', if_pos rfl, wrap_id (x := n * 10) (by omega) (by omega), wrap_id (x := (c.toNat : Int)) (by omega) (by omega), wrap_id (x := n * 10 + (c.toNat : Int)) (by omega) (by omega), wrap_id (x := n * 10 + (c.toNat : Int) - 48) (by omega) (by omega), wrap_id (x := (k : Int) + 1) (by omega) (by omega),
        show n * 10 + (c.toNat : Int) - 48 = n * 10 + ((c.toNat : Int) - 48) by omega]
      exact P_R5_integer_l0 l s (k + 1) _ h3 hs (by omega) (by omega) (by rw [Int.pow_succ]; omega)
theorem P_R5_integer (s : ByteArray) (hs : s.size ≤ 9223372036854775806) : F_R5_integer s = some (integerB (L s)) := by
  rw [E_F_R5_integer]
  have hl := len_L s
  unfold integerB
  by_cases c0 : s.size = 0
  · rw [decide_eq_true (by omega), tt]
    have : L s = [] := List.length_eq_zero_iff.1 (by omega)
    rw [this]; rfl
  · rw [decide_eq_false (by omega), ff]
    by_cases c1 : 13 < s.size
    · rw [decide_eq_true (by omega), tt, decide_eq_false (show ¬ (L s).length ≤ 13 by omega)]; simp
    · rw [decide_eq_false (by omega), ff]
      have hl0 := P_R5_integer_l0 (L s) s 0 0 rfl (by omega) (by omega) (by omega) (by decide)
      cases hL : L s with
      | nil => rw [hL] at hl; simp at hl; omega
      | cons c r =>
        rw [hL] at hl0 hl
        rw [decide_eq_true (show (c :: r).length ≤ 13 by omega)]
        have hx := sx_cons (k := 0) (show (L s).drop 0 = c :: r from hL)
        rw [show ((0 : Nat) : Int) = 0 from rfl] at hx hl0
        by_cases c2 : 1 < s.size
        · rw [decide_eq_true (by omega), tt, hx, bs, decide_eq_true (show 1 < (c :: r).length by omega)]
          by_cases c3 : c = 48
          · subst c3; rfl
          · have : ¬ ((c.toNat : Int) = 48) := fun e => c3 (UInt8.toNat_inj.1 (by show c.toNat = 48; omega))
            rw [decide_eq_false this, ff, hl0]
            have hh : ((c :: r).head? == some 48) = false := by
              rw [beq_eq_false_iff_ne]
              intro e
              exact c3 (Option.some.inj e)
            rw [hh]; simp; try rfl
        · rw [decide_eq_false (by omega), ff, hl0, decide_eq_false (show ¬ 1 < (c :: r).length by omega)]; simp; try rfl
end Tk
end Go.Proofs.YtimdjillcaichaaDoorW.Ex.Gr
