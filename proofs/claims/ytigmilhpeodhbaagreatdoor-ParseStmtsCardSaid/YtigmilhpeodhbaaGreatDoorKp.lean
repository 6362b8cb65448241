/- What the functions of the token layer return. Conditions: those in each theorem. -/
import Derived.Test.YtigmilhpeodhbaaGreatDoorKt
import Derived.Lib.AtoiAllCases
namespace Go.Proofs.YtigmilhpeodhbaaGreatDoorW.Ex.Gr
open Go Go.Proofs.YtigmilhpeodhbaaGreatDoorW.Ex Go.Proofs.YtigmilhpeodhbaaGreatDoorW.Plain
set_option linter.all false
set_option maxRecDepth 100000
theorem qk6 (t0 : BA) (t5 : (List Token)) (t6 : Int) : vi t0 t5 t6 = (
 if (decide (t6 ≤ (t0.size : Int))) = true then
  qer t0 t6 >>= fun x1 =>
  if (decide ((t0.size : Int) ≤ x1)) = true then
   ssub t0 t6 (t0.size : Int) >>= fun x2 =>
   app 48 t5 ([(Token.mk (4 : Int) x2 (⟨#[]⟩) (t0.size : Int))]) >>= fun x3 =>
   some (x3, (0 : Int), (0 : Int))
  else
   qb4 t0 x1 >>= fun x4 =>
   if (decide (x4.2 = (0 : Int))) = true then
    some (([] : (List Token)), (1 : Int), x1)
   else
    ssub t0 t6 x1 >>= fun x5 =>
    ssub t0 x1 x4.1 >>= fun x6 =>
    app 48 t5 ([(Token.mk x4.2 x5 x6 x1)]) >>= fun x7 =>
    vi t0 x7 x4.1
 else
  some (t5, (0 : Int), (0 : Int))
 : Option ((List Token) × Int × Int)) := vi.eq_def t0 t5 t6
theorem qdi (t0 : BA) (t3 : Int) (t4 : Int) : ua t0 t3 t4 = (
 if (decide (t4 < (t0.size : Int))) = true then
  sx t0 t4 >>= fun x2 =>
  Zm x2 >>= fun x3 =>
  if (!x3) = true then
   some false
  else
   sx t0 t4 >>= fun x4 =>
   ua t0 (IntKind.i64.wrap ((IntKind.i64.wrap ((IntKind.i64.wrap (t3 * (10 : Int))) + (IntKind.i64.wrap x4))) - (48 : Int))) (IntKind.i64.wrap (t4 + (1 : Int)))
 else
  some (decide (t3 ≤ (1000000000000 : Int)))
 : Option Bool) := ua.eq_def t0 t3 t4
theorem qg5 (t0 : Int) (t3 : BA) (t4 : Int) : Q9 t0 t3 t4 = (
 if (decide (t4 < (t3.size : Int))) = true then
  sx t3 t4 >>= fun x1 =>
  if (decide (x1 = t0)) = true then
   some true
  else
   Q9 t0 t3 (IntKind.i64.wrap (t4 + (1 : Int)))
 else
  some false
 : Option Bool) := Q9.eq_def t0 t3 t4
theorem qh1 (t0 : BA) (t5 : Int) : Z6 t0 t5 = (
 if (decide (t5 < (t0.size : Int))) = true then
  sx t0 t5 >>= fun x1 =>
  Y2 x1 >>= fun x2 =>
  if x2 = true then
   Z6 t0 (IntKind.i64.wrap (t5 + (1 : Int)))
  else
   Jr t5
 else
  Jr t5
 : Option Int) := Z6.eq_def t0 t5
theorem qhp (t0 : BA) (t5 : (List Token)) (t6 : Int) : wv t0 t5 t6 = (
 Kb t0 t6 >>= fun x1 =>
 if (decide (x1 = (t0.size : Int))) = true then
  ssub t0 t6 (t0.size : Int) >>= fun x2 =>
  app 48 t5 ([(Token.mk (4 : Int) x2 (⟨#[]⟩) (t0.size : Int))]) >>= fun x3 =>
  some (x3, (0 : Int), (0 : Int))
 else
  ssub t0 x1 (t0.size : Int) >>= fun x4 =>
  Yk x4 >>= fun x5 =>
  if (decide (x5.2 = (0 : Int))) = true then
   some (([] : (List Token)), (1 : Int), x1)
  else
   ssub t0 t6 x1 >>= fun x6 =>
   ssub t0 x1 (IntKind.i64.wrap (x1 + x5.1)) >>= fun x7 =>
   app 48 t5 ([(Token.mk x5.2 x6 x7 x1)]) >>= fun x8 =>
   wv t0 x8 (IntKind.i64.wrap (x1 + x5.1))
 : Option ((List Token) × Int × Int)) := wv.eq_def t0 t5 t6
theorem qes (t0 : BA) (t3 : Int) : vc t0 t3 = (
 if (decide (t3 < (t0.size : Int))) = true then
  sx t0 t3 >>= fun x1 =>
  Yj x1 >>= fun x2 =>
  if x2 = true then
   vc t0 (IntKind.i64.wrap (t3 + (1 : Int)))
  else
   Qk t3
 else
  Qk t3
 : Option Int) := vc.eq_def t0 t3
namespace Tk
open Go.Lib (decDigits parseUint10 parseMag atoiAll nDigits)
theorem qsd (c : UInt8) : Zm (c.toNat : Int) = some (digC c) := by
 rw [Zm.eq_def]
 unfold digC yn
 by_cases h : (48 : Int) ≤ c.toNat
 ·rw [decide_eq_true h, tt]; congr 1; rw [decide_eq_decide]; omega
 ·rw [decide_eq_false h, ff]; congr 1; exact (decide_eq_false (by omega)).symm
theorem quq (c : UInt8) : Y2 (c.toNat : Int) = some (letC c) := by
 rw [Y2.eq_def]
 simp only [qsd, bs]
 unfold letC digC yn uc
 generalize c.toNat = n
 simp only [decide_eq_true_eq]
 (repeat' split) <;> congr 1 <;> apply Bool.eq_iff_iff.2 <;> simp only [Bool.or_eq_true, decide_eq_true_eq, true_iff] <;> omega
theorem qun : ∀ (l : List UInt8) (s : ByteArray) (k : Nat), (L s).drop k = l → s.size ≤ 9223372036854775806 → k ≤ s.size → vc s (k : Int) = some ((k + runL l : Nat) : Int)
 | [], s, k, h, hs, hk => by
   have := drop_nil h
   rw [qes, decide_eq_false (by omega), ff, Qk.eq_def]; rfl
 | c :: l, s, k, h, hs, hk => by
   obtain ⟨h1, h2⟩ := qju h
   rw [qes, decide_eq_true (by omega), tt, qc3 h, bs, q3v, bs, runL]
   cases letC c with
   | false => rw [ff, Qk.eq_def, if_neg (by decide)]; rfl
   | true =>
     rw [tt, if_pos rfl, j6 (by omega) (by omega)]
     have := qun l s (k + 1) h2 hs (by omega)
     rw [show ((k + 1 : Nat) : Int) = (k : Int) + 1 from rfl] at this
     rw [this]
     congr 2; omega
theorem q5o (s : ByteArray) (hs : s.size ≤ 9223372036854775806) : Wh s = some (runL (L s) : Int) := by
 rw [Wh.eq_def]
 have := qun (L s) s 0 rfl hs (by omega)
 rw [Nat.zero_add] at this
 exact this
theorem qlu : ∀ (l : List UInt8) (s : ByteArray) (k : Nat), (L s).drop k = l → s.size ≤ 9223372036854775806 → k ≤ s.size → Z6 s (k : Int) = some ((k + runL l : Nat) : Int)
 | [], s, k, h, hs, hk => by
   have := drop_nil h
   rw [qh1, decide_eq_false (by omega), ff, Jr.eq_def]; rfl
 | c :: l, s, k, h, hs, hk => by
   obtain ⟨h1, h2⟩ := qju h
   rw [qh1, decide_eq_true (by omega), tt, qc3 h, bs, quq, bs, runL]
   cases letC c with
   | false => rw [ff, Jr.eq_def, if_neg (by decide)]; rfl
   | true =>
     rw [tt, if_pos rfl, j6 (by omega) (by omega)]
     have := qlu l s (k + 1) h2 hs (by omega)
     rw [show ((k + 1 : Nat) : Int) = (k : Int) + 1 from rfl] at this
     rw [this]
     congr 2; omega
theorem qj3 (c : UInt8) : ∀ (l : List UInt8) (s : ByteArray) (k : Nat), (L s).drop k = l → s.size ≤ 9223372036854775806 → k ≤ s.size → Q9 (c.toNat : Int) s (k : Int) = some (l.any (fun d => decide (d = c)))
 | [], s, k, h, hs, hk => by
   have := drop_nil h
   rw [qg5, decide_eq_false (by omega), ff]; rfl
 | d :: l, s, k, h, hs, hk => by
   obtain ⟨h1, h2⟩ := qju h
   rw [qg5, decide_eq_true (by omega), tt, qc3 h, bs, qi1, List.any_cons]
   cases decide (d = c) with
   | true => rw [tt]; rfl
   | false =>
     rw [ff, j6 (by omega) (by omega), Bool.false_or]
     exact qj3 c l s (k + 1) h2 hs (by omega)
theorem qzt (c : UInt8) : qeq (c.toNat : Int) = some (qcd c) := by
 rw [qeq.eq_def]
 exact qj3 c q03 _ 0 rfl (by decide) (by decide)
theorem qnp : ∀ (l : List UInt8) (acc u : Nat), parseUint10 acc l = .ok u → jn (acc : Int) l = some (u : Int)
 | [], acc, u, h => by rw [parseUint10] at h; cases h; rfl
 | c :: r, acc, u, h => by
   simp only [parseUint10] at h
   split at h
   ·rename_i hc
    split at h
    ·cases h
    ·split at h
     ·cases h
     ·have := qnp r _ u h
      rw [jn]
      have hd : yn (c.toNat : Int) = true := decide_eq_true (by omega)
      rw [if_pos hd, show (acc : Int) * 10 + ((c.toNat : Int) - 48) = ((acc * 10 + (c.toNat - 48) : Nat) : Int) by omega]
      exact this
   ·cases h
theorem qh3 : ∀ (l : List UInt8) (acc n : Int), 0 ≤ acc → jn acc l = some n → acc ≤ n
 | [], acc, n, h0, h => by cases h; exact Int.le_refl _
 | c :: r, acc, n, h0, h => by
   rw [jn] at h
   split at h
   ·rename_i hd
    have hd := of_decide_eq_true hd
    have := qh3 r _ n (by omega) h
    omega
   ·cases h
theorem qtl : ∀ (l : List UInt8) (acc u : Nat), jn (acc : Int) l = some (u : Int) → u ≤ 1000000000000 → parseUint10 acc l = .ok u
 | [], acc, u, h, hu => by
   rw [jn] at h
   rw [parseUint10]
   have := Option.some.inj h
   rw [Int.ofNat_inj.1 this]
 | c :: r, acc, u, h, hu => by
   rw [jn] at h
   split at h
   ·rename_i hd
    have hd := of_decide_eq_true hd
    have hm := qh3 r _ _ (by omega) h
    rw [show (acc : Int) * 10 + ((c.toNat : Int) - 48) = ((acc * 10 + (c.toNat - 48) : Nat) : Int) by omega] at h
    have := qtl r _ u h hu
    simp only [parseUint10]
    rw [if_pos ⟨by omega, by omega⟩, if_neg (by omega), if_neg (by omega)]
    exact this
   ·cases h
theorem qoj {c : UInt8} (h0 : 48 ≤ c.toNat) (h1 : c.toNat ≤ 57) : UInt8.ofNat (48 + (c.toNat - 48)) = c := by
 apply UInt8.toNat_inj.1
 rw [UInt8.toNat_ofNat']
 omega
theorem q1z (acc : Nat) (c : UInt8) (h : 0 < acc) (h0 : 48 ≤ c.toNat) (h1 : c.toNat ≤ 57) : decDigits (acc * 10 + (c.toNat - 48)) = decDigits acc ++ [c] := by
 rw [decDigits, dif_neg (by omega), show (acc * 10 + (c.toNat - 48)) / 10 = acc by omega, show (acc * 10 + (c.toNat - 48)) % 10 = c.toNat - 48 by omega, qoj h0 h1]
theorem qqr : ∀ (l : List UInt8) (acc u : Nat), 0 < acc → jn (acc : Int) l = some (u : Int) → decDigits u = decDigits acc ++ l
 | [], acc, u, h0, h => by
   rw [jn] at h
   rw [List.append_nil, Int.ofNat_inj.1 (Option.some.inj h)]
 | c :: r, acc, u, h0, h => by
   rw [jn] at h
   split at h
   ·rename_i hd
    have hd := of_decide_eq_true hd
    rw [show (acc : Int) * 10 + ((c.toNat : Int) - 48) = ((acc * 10 + (c.toNat - 48) : Nat) : Int) by omega] at h
    rw [qqr r _ u (by omega) h, q1z acc c h0 (by omega) (by omega), List.append_assoc]; rfl
   ·cases h
/-- Without a leading zero the digits are the numeral. -/
theorem qua (c : UInt8) (r : List UInt8) (u : Nat) (h : jn 0 (c :: r) = some (u : Int)) (hc : c ≠ 48) : decDigits u = c :: r := by
 rw [jn] at h
 split at h
 ·rename_i hd
  have hd := of_decide_eq_true hd
  have hne : c.toNat ≠ 48 := fun e => hc (UInt8.toNat_inj.1 e)
  rw [show (0 : Int) * 10 + ((c.toNat : Int) - 48) = ((c.toNat - 48 : Nat) : Int) by omega] at h
  rw [qqr r _ u (by omega) h, Go.Lib.decDigits_one (by omega), qoj (by omega) (by omega)]; rfl
 ·cases h
theorem qxz : ∀ (r : List UInt8) (u : Nat), r ≠ [] → jn 0 r = some (u : Int) → (decDigits u).length ≤ r.length
 | [], u, h, _ => absurd rfl h
 | c :: r, u, _, h => by
   by_cases hc : c = 48
   ·subst hc
    rw [jn] at h
    have hd : yn ((48 : UInt8).toNat : Int) = true := rfl
    rw [if_pos hd, show (0 : Int) * 10 + (((48 : UInt8).toNat : Int) - 48) = 0 from rfl] at h
    cases r with
    | nil =>
      have hu : u = 0 := by have := Option.some.inj h; omega
      rw [hu, Go.Lib.decDigits_one (by decide)]; decide
    | cons d r =>
      have := qxz (d :: r) u (by simp) h
      rw [List.length_cons]; omega
   ·rw [qua c r u h hc]; exact Nat.le_refl _
theorem qxj : ∀ (k u : Nat), 0 < k → u < 10 ^ k → nDigits u ≤ k
 | 0, u, h, _ => absurd h (by decide)
 | k + 1, u, _, h => by
   by_cases hu : u < 10
   ·rw [Go.Lib.nDigits_small hu]; omega
   ·rw [Go.Lib.nDigits_big hu]
    have h1 : u / 10 < 10 ^ k := by rw [Nat.div_lt_iff_lt_mul (by decide)]; rw [Nat.pow_succ] at h; exact h
    have hk : 0 < k := by
     rcases Nat.eq_zero_or_pos k with rfl | h2
     ·rw [Nat.pow_zero] at h1; omega
     ·exact h2
    have := qxj k (u / 10) hk h1
    omega
theorem qym : ∀ (l : List UInt8) (acc : Nat) (n : Int), jn (acc : Int) l = some n → ∃ u : Nat, n = (u : Int) := fun l acc n h => ⟨n.toNat, by have := qh3 l acc n (by omega) h; omega⟩
theorem q2u (c : UInt8) (r : List UInt8) (hd : digC c = true) : Wn (c :: r) = kp (c :: r) := by
 have hdc : 48 ≤ c.toNat ∧ c.toNat ≤ 57 := by have := of_decide_eq_true hd; omega
 have hA : atoiAll (c :: r) = Lib.signless (parseMag (c :: r)) := Lib.atoiAll_plain c r (by omega) (by omega)
 have hM : parseMag (c :: r) = parseUint10 0 (c :: r) := by unfold Go.Lib.parseMag; rw [if_neg (by simp)]
 rw [hM] at hA
 have key : ∀ v : Int, atoiAll (c :: r) = .ok v → jn 0 (c :: r) = some v := by
  intro v hv
  rw [hA] at hv
  cases hp : parseUint10 0 (c :: r)
  ·rename_i u
   rw [hp] at hv
   simp only [Go.Lib.signless] at hv
   split at hv
   ·cases hv
   ·injection hv with hv
    rw [← hv]
    exact qnp _ 0 u hp
  ·rw [hp] at hv; cases hv
  ·rw [hp] at hv; cases hv
 unfold kp
 have e0 : (!(c :: r).isEmpty) = true := rfl
 rw [e0, Bool.true_and]
 cases hv : jn 0 (c :: r) with
 | none =>
   rw [Bool.and_false]
   unfold Wn
   cases ha : atoiAll (c :: r)
   ·rw [key _ ha] at hv; cases hv
   ·rfl
   ·rfl
 | some n =>
   obtain ⟨u, rfl⟩ := qym (c :: r) 0 n hv
   by_cases hn : (u : Int) ≤ 1000000000000
   ·have hp := qtl (c :: r) 0 u hv (by omega)
    have ha : atoiAll (c :: r) = .ok (u : Int) := by
     rw [hA, hp]
     unfold Go.Lib.signless
     simp only
     rw [if_neg (by omega)]
    have hi : Lib.itoa (u : Int) = decDigits u := by unfold Go.Lib.itoa; rw [if_neg (by omega), Int.toNat_natCast]
    unfold Wn
    rw [ha]
    simp only
    rw [decide_eq_true hn, hi, Bool.and_true, Bool.true_and]
    have hlen : (decDigits u).length ≤ 13 := by
     rw [Go.Lib.decDigits_length]; exact qxj 13 u (by decide) (by omega)
    by_cases hc : c = 48
    ·subst hc
     cases r with
     | nil =>
       have hu : u = 0 := by
        rw [jn] at hv
        have hd : yn ((48 : UInt8).toNat : Int) = true := rfl
        rw [if_pos hd] at hv
        have := Option.some.inj hv
        have h48 : ((48 : UInt8).toNat : Int) = 48 := rfl
        omega
       rw [hu, Go.Lib.decDigits_one (by decide)]; rfl
     | cons d r =>
       have hl : (decDigits u).length ≤ (d :: r).length := by
        have h2 := hv
        rw [jn] at h2
        have hd : yn ((48 : UInt8).toNat : Int) = true := rfl
        rw [if_pos hd, show (0 : Int) * 10 + (((48 : UInt8).toNat : Int) - 48) = 0 from rfl] at h2
        exact qxz (d :: r) u (by simp) h2
       have hne : (decDigits u == 48 :: d :: r) = false := by
        rw [beq_eq_false_iff_ne]
        intro e
        rw [e] at hl
        simp at hl
        omega
       rw [hne]
       have h1 : decide (1 < (48 :: d :: r).length) = true := decide_eq_true (by simp)
       rw [h1]
       simp
    ·rw [qua c r u hv hc] at hlen ⊢
     have hh : ((c :: r).head? == some 48) = false := by
      rw [beq_eq_false_iff_ne]
      intro e
      exact hc (Option.some.inj e)
     rw [hh, decide_eq_true hlen]
     simp
   ·have hf : decide ((u : Int) ≤ 1000000000000) = false := decide_eq_false hn
    simp only [hf, Bool.and_false]
    unfold Wn
    cases ha : atoiAll (c :: r)
    ·have := key _ ha
     rw [hv] at this
     cases this
     simp only [hf, Bool.false_and]
    ·rfl
    ·rfl
theorem qfr : ∀ (l : List UInt8) (s : ByteArray) (k : Nat) (n : Int), (L s).drop k = l → s.size ≤ 13 → k ≤ s.size → 0 ≤ n → n < 10 ^ k →
 ua s n (k : Int) = some (match jn n l with | some v => decide (v ≤ 1000000000000) | none => false)
 | [], s, k, n, h, hs, hk, h0, h1 => by
   have := drop_nil h
   rw [qdi, decide_eq_false (by omega), ff]; rfl
 | c :: l, s, k, n, h, hs, hk, h0, h1 => by
   obtain ⟨h2, h3⟩ := qju h
   have hc := c.toNat_lt
   rw [qdi, decide_eq_true (by omega), tt, qc3 h, bs, qsd, bs, jn]
   have hp : (10 : Int) ^ k ≤ 10 ^ 13 := by
    have : (10 : Nat) ^ k ≤ 10 ^ 13 := Nat.pow_le_pow_right (by decide) (by omega)
    have h := Int.ofNat_le.2 this
    simpa using h
   cases hd : digC c with
   | false =>
     have hd' : yn (c.toNat : Int) = false := hd
     rw [ntt, hd']; rfl
   | true =>
     have hd' : yn (c.toNat : Int) = true := hd
     have hdc := of_decide_eq_true hd'
     rw [nff, bs, hd', if_pos rfl, j6 (x := n * 10) (by omega) (by omega), j6 (x := (c.toNat : Int)) (by omega) (by omega), j6 (x := n * 10 + (c.toNat : Int)) (by omega) (by omega), j6 (x := n * 10 + (c.toNat : Int) - 48) (by omega) (by omega), j6 (x := (k : Int) + 1) (by omega) (by omega),
      show n * 10 + (c.toNat : Int) - 48 = n * 10 + ((c.toNat : Int) - 48) by omega]
     exact qfr l s (k + 1) _ h3 hs (by omega) (by omega) (by rw [Int.pow_succ]; omega)
theorem qsc (s : ByteArray) (hs : s.size ≤ 9223372036854775806) : qaf s = some (kp (L s)) := by
 rw [qaf.eq_def]
 have hl := qgf s
 unfold kp
 by_cases c0 : s.size = 0
 ·rw [decide_eq_true (by omega), tt]
  have : L s = [] := List.length_eq_zero_iff.1 (by omega)
  rw [this]; rfl
 ·rw [decide_eq_false (by omega), ff]
  by_cases c1 : 13 < s.size
  ·rw [decide_eq_true (by omega), tt, decide_eq_false (show ¬ (L s).length ≤ 13 by omega)]; simp
  ·rw [decide_eq_false (by omega), ff]
   have hl0 := qfr (L s) s 0 0 rfl (by omega) (by omega) (by omega) (by decide)
   cases hL : L s with
   | nil => rw [hL] at hl; simp at hl; omega
   | cons c r =>
     rw [hL] at hl0 hl
     rw [decide_eq_true (show (c :: r).length ≤ 13 by omega)]
     have hx := qc3 (k := 0) (show (L s).drop 0 = c :: r from hL)
     rw [show ((0 : Nat) : Int) = 0 from rfl] at hx hl0
     by_cases c2 : 1 < s.size
     ·rw [decide_eq_true (by omega), tt, hx, bs, decide_eq_true (show 1 < (c :: r).length by omega)]
      by_cases c3 : c = 48
      ·subst c3; rfl
      ·have : ¬ ((c.toNat : Int) = 48) := fun e => c3 (UInt8.toNat_inj.1 (by show c.toNat = 48; omega))
       rw [decide_eq_false this, ff, hl0]
       have hh : ((c :: r).head? == some 48) = false := by
        rw [beq_eq_false_iff_ne]
        intro e
        exact c3 (Option.some.inj e)
       rw [hh]; simp; try rfl
     ·rw [decide_eq_false (by omega), ff, hl0, decide_eq_false (show ¬ 1 < (c :: r).length by omega)]; simp; try rfl
theorem qxv (s : ByteArray) (a b c : UInt8) (l : List UInt8) (h : L s = c :: l) : Zx s ⟨#[a, b]⟩ = decide (c = a ∧ l.head? = some b) := by
 have hl := qgf s
 rw [h, List.length_cons] at hl
 unfold Zx
 have e : (s.extract 0 2 = ⟨#[a, b]⟩) = ((c :: l).take 2 = [a, b]) := by
  apply propext
  rw [← h]
  constructor
  ·intro e
   have := congrArg L e
   rw [show L (s.extract 0 2) = (L s).take 2 by unfold L; rw [ByteArray.data_extract, Array.toList_extract, List.extract_eq_take_drop]; rfl] at this
   exact this
  ·intro e
   apply q2m
   rw [show L (s.extract 0 2) = (L s).take 2 by unfold L; rw [ByteArray.data_extract, Array.toList_extract, List.extract_eq_take_drop]; rfl]
   exact e
 have e2 : (⟨#[a, b]⟩ : ByteArray).size = 2 := rfl
 rw [Bool.eq_iff_iff]
 simp only [Bool.and_eq_true, decide_eq_true_eq, e2, e]
 cases l with
 | nil => simp at hl ⊢
 | cons d r => simp; rw [List.length_cons] at hl; omega
theorem q3f {c : UInt8} (hd : digC c = true) : cls c = 1 := by rw [cls, if_pos hd]
theorem q3e {c : UInt8} (hw : letC c = true) (hd : digC c = false) : cls c = 2 := by rw [cls, hd, if_neg (by decide), if_pos hw]
theorem q12 {c : UInt8} (hw : letC c = false) (hd : digC c = false) (hm : qcd c = false) : cls c = 0 := by rw [cls, hd, if_neg (by decide), hw, if_neg (by decide), hm, if_neg (by decide)]
theorem q13 {c : UInt8} (hw : letC c = false) (hd : digC c = false) (hm : qcd c = true) : cls c = 3 := by rw [cls, hd, if_neg (by decide), hw, if_neg (by decide), if_pos hm]
theorem q5p (s p : ByteArray) : vl s p = some (Zx s p) := by
 rw [vl.eq_def, ww.eq_def, Zx]
 by_cases h : p.size ≤ s.size
 ·have h' : (p.size : Int) ≤ (s.size : Int) := by omega
  have hs : ssub s 0 (p.size : Int) = some (s.extract 0 p.size) := by unfold ssub; rw [if_pos ⟨by omega, by omega, by omega⟩]; rfl
  rw [if_pos (decide_eq_true h'), hs, bs, bs, decide_eq_true h, Bool.true_and]
 ·have h' : ¬ (p.size : Int) ≤ (s.size : Int) := by omega
  rw [if_neg (by rw [decide_eq_true_eq]; exact h'), bs, decide_eq_false h, Bool.false_and]
theorem q3w (s : ByteArray) (hs : s.size ≤ 281474976710656) : Yk s = some (((kh (L s)).1 : Int), (kh (L s)).2) := by
 rw [Yk.eq_def]
 cases hL : L s with
 | nil =>
   have : s = ⟨#[]⟩ := q2m hL
   rw [decide_eq_true this, tt]; rfl
 | cons c l =>
   have hne : ¬ s = ⟨#[]⟩ := by
    rintro rfl
    cases hL
   have hx := qc3 (k := 0) (show (L s).drop 0 = c :: l from hL)
   rw [show ((0 : Nat) : Int) = 0 from rfl] at hx
   have hr := qmg (c :: l)
   have hl := qgf s
   rw [hL] at hl
   rw [decide_eq_false hne, ff, hx, bs, qyb, bs]
   have hrun := q5o s (by omega)
   rw [hL] at hrun
   cases hd : digC c with
   | true =>
     rw [q3f hd, qnt l hd, show decide ((1 : Int) = 1) = true from rfl, tt, hrun, bs]
     have hsub := qbx (s := s) (a := 0) (b := runL (c :: l)) (by omega) (by omega)
     rw [show ((0 : Nat) : Int) = 0 from rfl] at hsub
     rw [hsub, bs, List.drop_zero, Nat.sub_zero, hL]
     unfold Ky
     rw [if_pos (by rw [qdy, List.length_take]; omega), bs]
     have : Wn (ofB ((c :: l).take (runL (c :: l)))).data.toList = kp ((c :: l).take (runL (c :: l))) := by
      show Wn ((c :: l).take (runL (c :: l))) = _
      have hp := qrg l (qxm hd)
      obtain ⟨n, hn⟩ : ∃ n, runL (c :: l) = n + 1 := ⟨runL (c :: l) - 1, by omega⟩
      rw [hn, List.take_succ_cons]
      exact q2u c _ hd
     rw [this]
     cases kp ((c :: l).take (runL (c :: l))) with
     | true => rfl
     | false => rw [ff, vd.eq_def]; rfl
   | false =>
     cases hw : letC c with
     | true =>
       rw [q3e hw hd, qns l hw hd, show decide ((2 : Int) = 1) = false from rfl, ff, show decide ((2 : Int) = 2) = true from rfl, tt, hrun, bs]
       by_cases h : runL (c :: l) ≤ 32
       ·rw [decide_eq_true (by omega), tt, if_pos h]
       ·rw [decide_eq_false (by omega), ff, if_neg h, Qo.eq_def, vd.eq_def]; rfl
     | false =>
       cases hm : qcd c with
       | false =>
         rw [q12 hw hd hm, qmi l hw hm, show decide ((0 : Int) = 1) = false from rfl, ff, show decide ((0 : Int) = 2) = false from rfl, ff, show decide ((0 : Int) = 3) = false from rfl, ff, Qo.eq_def, vd.eq_def]; rfl
       | true =>
         rw [q13 hw hd hm, qjc l hw hm, show decide ((3 : Int) = 1) = false from rfl, ff, show decide ((3 : Int) = 2) = false from rfl, ff, show decide ((3 : Int) = 3) = true from rfl, tt]
         simp only [q5p]
         rw [bs, bs, qxv s 47 47 c l hL, qxv s 61 61 c l hL]
         simp only [decide_eq_true_eq]
         by_cases h1 : c = 47 ∧ l.head? = some 47
         ·rw [if_pos h1, if_pos h1]; rfl
         ·rw [if_neg h1, if_neg h1]
          by_cases h2 : c = 61 ∧ l.head? = some 61
          ·rw [if_pos h2, if_pos h2]; rfl
          ·rw [if_neg h2, if_neg h2]; rfl
theorem qzs (s : ByteArray) (k : Nat) (hs : s.size ≤ 281474976710656) (hk : k ≤ s.size) : qb4 s (k : Int) = some (((k + (kh ((L s).drop k)).1 : Nat) : Int), (kh ((L s).drop k)).2) := by
 rw [qb4.eq_def]
 cases hL : (L s).drop k with
 | nil =>
   have := drop_nil hL
   rw [decide_eq_true (by omega), tt]; rfl
 | cons c l =>
   obtain ⟨h1, h2⟩ := qju hL
   have hr := qmg (c :: l)
   have hl := congrArg List.length hL
   rw [List.length_drop, qgf] at hl
   have hrun := qlu (c :: l) s k hL (by omega) hk
   rw [decide_eq_false (by omega), ff, qc3 hL, bs, quq, bs]
   cases hw : letC c with
   | true =>
     rw [tt, qkb.eq_def, hrun, bs, bs, qsd, bs]
     cases hd : digC c with
     | true =>
       rw [tt, qnt l hd, qbx (by omega) (by omega), bs, hL, show k + runL (c :: l) - k = runL (c :: l) by omega, qsc _ (by rw [qdy, List.length_take]; omega), bs, qu1]
       cases kp ((c :: l).take (runL (c :: l))) with
       | true => rfl
       | false => rfl
     | false =>
       rw [ff, qns l hw hd, j6 (by omega) (by omega)]
       by_cases h : runL (c :: l) ≤ 32
       ·rw [decide_eq_true (by omega), tt, if_pos h]
       ·rw [decide_eq_false (by omega), ff, if_neg h]; rfl
   | false =>
     rw [ff, bs, qzt, bs]
     cases hm : qcd c with
     | false => rw [ntt, qmi l hw hm]; rfl
     | true =>
       rw [nff, qjc l hw hm]
       simp only [bs, w9.eq_def]
       have w1 : IntKind.i64.wrap ((k : Int) + 1) = ((k + 1 : Nat) : Int) := j6 (by omega) (by omega)
       have w2 : IntKind.i64.wrap ((k : Int) + 2) = ((k + 2 : Nat) : Int) := j6 (by omega) (by omega)
       rw [w1, w2]
       have e47 : ((c.toNat : Int) = 47) = (c = 47) := by
        apply propext
        constructor
        ·intro h; exact UInt8.toNat_inj.1 (by show c.toNat = 47; omega)
        ·rintro rfl; rfl
       have e61 : ((c.toNat : Int) = 61) = (c = 61) := by
        apply propext
        constructor
        ·intro h; exact UInt8.toNat_inj.1 (by show c.toNat = 61; omega)
        ·rintro rfl; rfl
       simp only [e47, e61]
       cases l with
       | nil =>
         rw [List.length_cons, List.length_nil] at hl
         rw [decide_eq_false (show ¬ ((k + 1 : Nat) : Int) < (s.size : Int) by omega)]
         simp
       | cons d r =>
         rw [List.length_cons, List.length_cons] at hl
         rw [decide_eq_true (show ((k + 1 : Nat) : Int) < (s.size : Int) by omega), qc3 h2]
         have d47 : ((d.toNat : Int) = 47) = (d = 47) := by
          apply propext
          constructor
          ·intro h; exact UInt8.toNat_inj.1 (by show d.toNat = 47; omega)
          ·rintro rfl; rfl
         have d61 : ((d.toNat : Int) = 61) = (d = 61) := by
          apply propext
          constructor
          ·intro h; exact UInt8.toNat_inj.1 (by show d.toNat = 61; omega)
          ·rintro rfl; rfl
         simp only [bs, d47, d61, List.head?_cons, Option.some.injEq]
         by_cases a1 : c = 47
         ·subst a1
          by_cases a2 : d = 47
          ·subst a2; rfl
          ·by_cases a3 : d = 61 <;> simp [a2, a3]
         ·by_cases a2 : c = 61
          ·subst a2
           by_cases a3 : d = 61 <;> simp [a3]
          ·simp [a1, a2]
theorem q4a (s : ByteArray) (k : Nat) (hs : s.size ≤ 9223372036854775807) (hk : k ≤ s.size) : Kb s (k : Int) = some ((s.size - (jc ((L s).drop k)).length : Nat) : Int) ∧ qer s (k : Int) = some ((s.size - (jc ((L s).drop k)).length : Nat) : Int) := by
 unfold Kb qer
 rw [if_pos hs, qjt hk]
 exact ⟨rfl, rfl⟩
theorem qmn {α : Type} {by_ : Nat} {l m : List α} (h : (l.length + m.length) * by_ ≤ 140737488355328) (h2 : l.length + m.length ≤ 9223372036854775807) : app by_ l m = some (l ++ m) := by
 unfold app; rw [if_pos ⟨h, h2⟩]
/-- What is left behind trivia, and where. -/
theorem qw7 (s : ByteArray) (k : Nat) (hk : k ≤ s.size) : (L s).drop (s.size - (jc ((L s).drop k)).length) = jc ((L s).drop k) ∧ k ≤ s.size - (jc ((L s).drop k)).length ∧ (jc ((L s).drop k)).length ≤ s.size := by
 have h1 := qy4 ((L s).drop k)
 have h2 := qlg ((L s).drop k)
 have h3 : ((L s).drop k).length = s.size - k := by rw [List.length_drop, qgf]
 rw [List.drop_drop, h3] at h1
 refine ⟨?_, by omega, by omega⟩
 rw [show k + (s.size - k - (jc ((L s).drop k)).length) = s.size - (jc ((L s).drop k)).length by omega] at h1
 exact h1.symm
theorem qlt (s : ByteArray) (hs : s.size ≤ 65536) : ∀ (f : Nat) (acc : List Token) (k : Nat), k ≤ s.size → s.size - k < f → acc.length + (s.size - k) ≤ 65536 →
 wv s acc (k : Int) = some (endT acc (qf7 s.size f ((L s).drop k)))
 | 0, acc, k, _, h, _ => absurd h (by omega)
 | f + 1, acc, k, hk, hf, ha => by
   obtain ⟨r1, r2, r3⟩ := qw7 s k hk
   have hlen : ((L s).drop k).length = s.size - k := by rw [List.length_drop, qgf]
   rw [qhp, (q4a s k (by omega) hk).1, bs, qf7]
   generalize hr : jc ((L s).drop k) = r at r1 r2 r3
   by_cases h0 : r = []
   ·subst h0
    rw [List.length_nil, decide_eq_true (show ((s.size - 0 : Nat) : Int) = (s.size : Int) by omega), tt, if_pos rfl, qbx hk (Nat.le_refl _), bs, qmn (by rw [List.length_singleton]; omega) (by rw [List.length_singleton]; omega), bs,
     List.take_of_length_le (by omega)]
    rfl
   ·have hp : 0 < r.length := List.length_pos_iff.2 h0
    have hn := qmj r
    rw [decide_eq_false (show ¬ ((s.size - r.length : Nat) : Int) = (s.size : Int) by omega), ff, if_neg h0, qbx (by omega) (Nat.le_refl _), bs, r1, List.take_of_length_le (by omega), q3w _ (by rw [qdy]; omega), bs, qu1]
    simp only
    by_cases h2 : (kh r).2 = 0
    ·rw [decide_eq_true h2, tt, if_pos h2]; rfl
    ·have hpos := qnu r h2
     rw [decide_eq_false h2, ff, if_neg h2, qbx r2 (by omega), bs, j6 (by omega) (by omega), show ((s.size - r.length : Nat) : Int) + ((kh r).1 : Int) = ((s.size - r.length + (kh r).1 : Nat) : Int) by omega,
      qbx (by omega) (by omega), bs, qmn (by rw [List.length_singleton]; omega) (by rw [List.length_singleton]; omega), bs, r1,
      qlt s hs f _ (s.size - r.length + (kh r).1) (by omega) (by omega) (by rw [List.length_append, List.length_singleton]; omega), qt6]
     rw [hlen, ← List.drop_drop, r1, show s.size - r.length + (kh r).1 - (s.size - r.length) = (kh r).1 by omega, show s.size - k - r.length = s.size - r.length - k by omega]
def resT (s : ByteArray) : List Token × Int × Int := if 65536 < s.size then ([], 3, 0) else endT [] (qf7 s.size (s.size + 1) (L s))
theorem qot (s : ByteArray) : uj s = some (resT s) := by
 rw [uj.eq_def]
 unfold resT
 by_cases h : 65536 < s.size
 ·rw [decide_eq_true (by omega), tt, if_pos h]
 ·rw [decide_eq_false (by omega), ff, if_neg h]
  have := qlt s (by omega) (s.size + 1) [] 0 (by omega) (by omega) (by simp; omega)
  rw [List.drop_zero] at this
  exact this
theorem qgx (s : ByteArray) (hs : s.size ≤ 65536) : ∀ (f : Nat) (acc : List Token) (k : Nat), k ≤ s.size → s.size - k < f → acc.length + (s.size - k) ≤ 65536 →
 vi s acc (k : Int) = some (endT acc (qf7 s.size f ((L s).drop k)))
 | 0, acc, k, _, h, _ => absurd h (by omega)
 | f + 1, acc, k, hk, hf, ha => by
   obtain ⟨r1, r2, r3⟩ := qw7 s k hk
   have hlen : ((L s).drop k).length = s.size - k := by rw [List.length_drop, qgf]
   rw [qk6, decide_eq_true (by omega), tt, (q4a s k (by omega) hk).2, bs, qf7]
   generalize hr : jc ((L s).drop k) = r at r1 r2 r3
   by_cases h0 : r = []
   ·subst h0
    rw [List.length_nil, decide_eq_true (show (s.size : Int) ≤ ((s.size - 0 : Nat) : Int) by omega), tt, if_pos rfl, qbx hk (Nat.le_refl _), bs, qmn (by rw [List.length_singleton]; omega) (by rw [List.length_singleton]; omega), bs,
     List.take_of_length_le (by omega)]
    rfl
   ·have hp : 0 < r.length := List.length_pos_iff.2 h0
    have hn := qmj r
    rw [decide_eq_false (show ¬ (s.size : Int) ≤ ((s.size - r.length : Nat) : Int) by omega), ff, if_neg h0, qzs s _ (by omega) (by omega), bs, r1]
    simp only
    by_cases h2 : (kh r).2 = 0
    ·rw [decide_eq_true h2, tt, if_pos h2]; rfl
    ·have hpos := qnu r h2
     rw [decide_eq_false h2, ff, if_neg h2, qbx r2 (by omega), bs,
      qbx (by omega) (by omega), bs, qmn (by rw [List.length_singleton]; omega) (by rw [List.length_singleton]; omega), bs, r1,
      qgx s hs f _ (s.size - r.length + (kh r).1) (by omega) (by omega) (by rw [List.length_append, List.length_singleton]; omega), qt6]
     rw [hlen, ← List.drop_drop, r1, show s.size - r.length + (kh r).1 - (s.size - r.length) = (kh r).1 by omega, show s.size - k - r.length = s.size - r.length - k by omega]
theorem qup (s : ByteArray) : qbc s = some (resT s) := by
 rw [qbc.eq_def]
 unfold resT
 by_cases h : 65536 < s.size
 ·rw [decide_eq_true (by omega), tt, if_pos h]
 ·rw [decide_eq_false (by omega), ff, if_neg h]
  have := qgx s (by omega) (s.size + 1) [] 0 (by omega) (by omega) (by simp; omega)
  rw [List.drop_zero] at this
  exact this
end Tk
end Go.Proofs.YtigmilhpeodhbaaGreatDoorW.Ex.Gr
