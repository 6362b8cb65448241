/- What the program's functions of the token layer return. Conditions: those in each theorem. The law PrintTokens on the printed functions. No conditions beside those in each theorem. -/
import Derived.Test.YtimcdpioclioiaaGreatDoorHv
import Derived.Lib.AtoiAllCases
namespace Go.Proofs.YtimcdpioclioiaaGreatDoorW.Ex.Gr
open Go Go.Proofs.YtimcdpioclioiaaGreatDoorW.Ex Go.Proofs.YtimcdpioclioiaaGreatDoorW.Plain
set_option linter.all false
set_option maxRecDepth 100000
theorem Ze (t0 : BA) (t3 : Int) : F_token_run_l0 t0 t3 = (
 if (decide (t3 < (t0.size : Int))) = true then
  sx t0 t3 >>= fun x1 =>
  F_token_wordy x1 >>= fun x2 =>
  if x2 = true then
   F_token_run_l0 t0 (IntKind.i64.wrap (t3 + (1 : Int)))
  else
   F_token_run_b0 t3
 else
  F_token_run_b0 t3
 : Option Int) := F_token_run_l0.eq_def t0 t3
theorem Y0 (t0 : BA) (t5 : (List Token)) (t6 : Int) : F_token_Tokens_l0 t0 t5 t6 = (
 F_trivia_End t0 t6 >>= fun x1 =>
 if (decide (x1 = (t0.size : Int))) = true then
  ssub t0 t6 (t0.size : Int) >>= fun x2 =>
  app 48 t5 ([(Token.mk (4 : Int) x2 (⟨#[]⟩) (t0.size : Int))]) >>= fun x3 =>
  some (x3, (0 : Int), (0 : Int))
 else
  ssub t0 x1 (t0.size : Int) >>= fun x4 =>
  F_token_first x4 >>= fun x5 =>
  if (decide (x5.2 = (0 : Int))) = true then
   some (([] : (List Token)), (1 : Int), x1)
  else
   ssub t0 t6 x1 >>= fun x6 =>
   ssub t0 x1 (IntKind.i64.wrap (x1 + x5.1)) >>= fun x7 =>
   app 48 t5 ([(Token.mk x5.2 x6 x7 x1)]) >>= fun x8 =>
   F_token_Tokens_l0 t0 x8 (IntKind.i64.wrap (x1 + x5.1))
 : Option ((List Token) × Int × Int)) := F_token_Tokens_l0.eq_def t0 t5 t6
theorem Yf (t1 : LB) (t7 : (List Token)) (t11 : Int) : F_L8_read_l0 t1 t7 t11 = (
 if (decide (t11 < ((t1.map sc).length : Int))) = true then
  ix t7 t11 >>= fun x3 =>
  ix t1 t11 >>= fun x4 =>
  if (!decide (x3.Text = x4)) = true then
   some false
  else
   F_L8_read_l0 t1 t7 (IntKind.i64.wrap (t11 + (1 : Int)))
 else
  some true
 : Option Bool) := F_L8_read_l0.eq_def t1 t7 t11
namespace Tk
open Go.Lib (decDigits parseUint10 parseMag atoiAll nDigits)
theorem P_run_l0 : ∀ (l : List UInt8) (s : ByteArray) (k : Nat), (L s).drop k = l → s.size ≤ 9223372036854775806 → k ≤ s.size → F_token_run_l0 s (k : Int) = some ((k + runL l : Nat) : Int)
 | [], s, k, h, hs, hk => by
   have := drop_nil h
   rw [Ze, decide_eq_false (by omega), ff, F_token_run_b0.eq_def]; rfl
 | c :: l, s, k, h, hs, hk => by
   obtain ⟨h1, h2⟩ := drop_lt h
   rw [Ze, decide_eq_true (by omega), tt, sx_cons h, bs, P_wordy, bs, runL]
   cases letC c with
   | false => rw [ff, F_token_run_b0.eq_def, if_neg (by decide)]; rfl
   | true =>
     rw [tt, if_pos rfl, zr (by omega) (by omega)]
     have := P_run_l0 l s (k + 1) h2 hs (by omega)
     rw [show ((k + 1 : Nat) : Int) = (k : Int) + 1 from rfl] at this
     rw [this]
     congr 2; omega
theorem P_run (s : ByteArray) (hs : s.size ≤ 9223372036854775806) : F_token_run s = some (runL (L s) : Int) := by
 rw [F_token_run.eq_def]
 have := P_run_l0 (L s) s 0 rfl hs (by omega)
 rw [Nat.zero_add] at this
 exact this
theorem parse_some : ∀ (l : List UInt8) (acc u : Nat), parseUint10 acc l = .ok u → zm (acc : Int) l = some (u : Int)
 | [], acc, u, h => by rw [parseUint10] at h; cases h; rfl
 | c :: r, acc, u, h => by
   simp only [parseUint10] at h
   split at h
   ·rename_i hc
    split at h
    ·cases h
    ·split at h
     ·cases h
     ·have := parse_some r _ u h
      rw [zm]
      have hd : z6 (c.toNat : Int) = true := decide_eq_true (by omega)
      rw [if_pos hd, show (acc : Int) * 10 + ((c.toNat : Int) - 48) = ((acc * 10 + (c.toNat - 48) : Nat) : Int) by omega]
      exact this
   ·cases h
theorem Y9 : ∀ (l : List UInt8) (acc n : Int), 0 ≤ acc → zm acc l = some n → acc ≤ n
 | [], acc, n, h0, h => by cases h; exact Int.le_refl _
 | c :: r, acc, n, h0, h => by
   rw [zm] at h
   split at h
   ·rename_i hd
    have hd := of_decide_eq_true hd
    have := Y9 r _ n (by omega) h
    omega
   ·cases h
theorem parse_of : ∀ (l : List UInt8) (acc u : Nat), zm (acc : Int) l = some (u : Int) → u ≤ 1000000000000 → parseUint10 acc l = .ok u
 | [], acc, u, h, hu => by
   rw [zm] at h
   rw [parseUint10]
   have := Option.some.inj h
   rw [Int.ofNat_inj.1 this]
 | c :: r, acc, u, h, hu => by
   rw [zm] at h
   split at h
   ·rename_i hd
    have hd := of_decide_eq_true hd
    have hm := Y9 r _ _ (by omega) h
    rw [show (acc : Int) * 10 + ((c.toNat : Int) - 48) = ((acc * 10 + (c.toNat - 48) : Nat) : Int) by omega] at h
    have := parse_of r _ u h hu
    simp only [parseUint10]
    rw [if_pos ⟨by omega, by omega⟩, if_neg (by omega), if_neg (by omega)]
    exact this
   ·cases h
theorem digit_back {c : UInt8} (h0 : 48 ≤ c.toNat) (h1 : c.toNat ≤ 57) : UInt8.ofNat (48 + (c.toNat - 48)) = c := by
 apply UInt8.toNat_inj.1
 rw [UInt8.toNat_ofNat']
 omega
theorem dec_step (acc : Nat) (c : UInt8) (h : 0 < acc) (h0 : 48 ≤ c.toNat) (h1 : c.toNat ≤ 57) : decDigits (acc * 10 + (c.toNat - 48)) = decDigits acc ++ [c] := by
 rw [decDigits, dif_neg (by omega), show (acc * 10 + (c.toNat - 48)) / 10 = acc by omega, show (acc * 10 + (c.toNat - 48)) % 10 = c.toNat - 48 by omega, digit_back h0 h1]
theorem dec_value : ∀ (l : List UInt8) (acc u : Nat), 0 < acc → zm (acc : Int) l = some (u : Int) → decDigits u = decDigits acc ++ l
 | [], acc, u, h0, h => by
   rw [zm] at h
   rw [List.append_nil, Int.ofNat_inj.1 (Option.some.inj h)]
 | c :: r, acc, u, h0, h => by
   rw [zm] at h
   split at h
   ·rename_i hd
    have hd := of_decide_eq_true hd
    rw [show (acc : Int) * 10 + ((c.toNat : Int) - 48) = ((acc * 10 + (c.toNat - 48) : Nat) : Int) by omega] at h
    rw [dec_value r _ u (by omega) h, dec_step acc c h0 (by omega) (by omega), List.append_assoc]; rfl
   ·cases h
/-- Without a leading zero the digits are the numeral. -/
theorem dec_self (c : UInt8) (r : List UInt8) (u : Nat) (h : zm 0 (c :: r) = some (u : Int)) (hc : c ≠ 48) : decDigits u = c :: r := by
 rw [zm] at h
 split at h
 ·rename_i hd
  have hd := of_decide_eq_true hd
  have hne : c.toNat ≠ 48 := fun e => hc (UInt8.toNat_inj.1 e)
  rw [show (0 : Int) * 10 + ((c.toNat : Int) - 48) = ((c.toNat - 48 : Nat) : Int) by omega] at h
  rw [dec_value r _ u (by omega) h, Go.Lib.decDigits_one (by omega), digit_back (by omega) (by omega)]; rfl
 ·cases h
theorem dec_len : ∀ (r : List UInt8) (u : Nat), r ≠ [] → zm 0 r = some (u : Int) → (decDigits u).length ≤ r.length
 | [], u, h, _ => absurd rfl h
 | c :: r, u, _, h => by
   by_cases hc : c = 48
   ·subst hc
    rw [zm] at h
    have hd : z6 ((48 : UInt8).toNat : Int) = true := rfl
    rw [if_pos hd, show (0 : Int) * 10 + (((48 : UInt8).toNat : Int) - 48) = 0 from rfl] at h
    cases r with
    | nil =>
      have hu : u = 0 := by have := Option.some.inj h; omega
      rw [hu, Go.Lib.decDigits_one (by decide)]; decide
    | cons d r =>
      have := dec_len (d :: r) u (by simp) h
      rw [List.length_cons]; omega
   ·rw [dec_self c r u h hc]; exact Nat.le_refl _
theorem ndig_le : ∀ (k u : Nat), 0 < k → u < 10 ^ k → nDigits u ≤ k
 | 0, u, h, _ => absurd h (by decide)
 | k + 1, u, _, h => by
   by_cases hu : u < 10
   ·rw [Go.Lib.nDigits_small hu]; omega
   ·rw [Go.Lib.nDigits_big hu]
    have h1 : u / 10 < 10 ^ k := by rw [Nat.div_lt_iff_lt_mul (by decide)]; rw [Nat.pow_succ] at h; exact h
    have hk : 0 < k := by
     rcases Nat.eq_zero_or_pos k with rfl | h2
     ·rw [Nat.pow_zero] at h1; omega
     ·exact h2
    have := ndig_le k (u / 10) hk h1
    omega
theorem value_nat : ∀ (l : List UInt8) (acc : Nat) (n : Int), zm (acc : Int) l = some n → ∃ u : Nat, n = (u : Int) := fun l acc n h => ⟨n.toNat, by have := Y9 l acc n (by omega) h; omega⟩
theorem tok_int (c : UInt8) (r : List UInt8) (hd : digC c = true) : ug (c :: r) = jg (c :: r) := by
 have hdc : 48 ≤ c.toNat ∧ c.toNat ≤ 57 := by have := of_decide_eq_true hd; omega
 have hA : atoiAll (c :: r) = Lib.signless (parseMag (c :: r)) := Lib.atoiAll_plain c r (by omega) (by omega)
 have hM : parseMag (c :: r) = parseUint10 0 (c :: r) := by unfold Go.Lib.parseMag; rw [if_neg (by simp)]
 rw [hM] at hA
 have key : ∀ v : Int, atoiAll (c :: r) = .ok v → zm 0 (c :: r) = some v := by
  intro v hv
  rw [hA] at hv
  cases hp : parseUint10 0 (c :: r)
  ·rename_i u
   rw [hp] at hv
   simp only [Go.Lib.signless] at hv
   split at hv
   ·cases hv
   ·injection hv with hv
    rw [← hv]
    exact parse_some _ 0 u hp
  ·rw [hp] at hv; cases hv
  ·rw [hp] at hv; cases hv
 unfold jg
 have e0 : (!(c :: r).isEmpty) = true := rfl
 rw [e0, Bool.true_and]
 cases hv : zm 0 (c :: r) with
 | none =>
   rw [Bool.and_false]
   unfold ug
   cases ha : atoiAll (c :: r)
   ·rw [key _ ha] at hv; cases hv
   ·rfl
   ·rfl
 | some n =>
   obtain ⟨u, rfl⟩ := value_nat (c :: r) 0 n hv
   by_cases hn : (u : Int) ≤ 1000000000000
   ·have hp := parse_of (c :: r) 0 u hv (by omega)
    have ha : atoiAll (c :: r) = .ok (u : Int) := by
     rw [hA, hp]
     unfold Go.Lib.signless
     simp only
     rw [if_neg (by omega)]
    have hi : Lib.itoa (u : Int) = decDigits u := by unfold Go.Lib.itoa; rw [if_neg (by omega), Int.toNat_natCast]
    unfold ug
    rw [ha]
    simp only
    rw [decide_eq_true hn, hi, Bool.and_true, Bool.true_and]
    have hlen : (decDigits u).length ≤ 13 := by
     rw [Go.Lib.decDigits_length]; exact ndig_le 13 u (by decide) (by omega)
    by_cases hc : c = 48
    ·subst hc
     cases r with
     | nil =>
       have hu : u = 0 := by
        rw [zm] at hv
        have hd : z6 ((48 : UInt8).toNat : Int) = true := rfl
        rw [if_pos hd] at hv
        have := Option.some.inj hv
        have h48 : ((48 : UInt8).toNat : Int) = 48 := rfl
        omega
       rw [hu, Go.Lib.decDigits_one (by decide)]; rfl
     | cons d r =>
       have hl : (decDigits u).length ≤ (d :: r).length := by
        have h2 := hv
        rw [zm] at h2
        have hd : z6 ((48 : UInt8).toNat : Int) = true := rfl
        rw [if_pos hd, show (0 : Int) * 10 + (((48 : UInt8).toNat : Int) - 48) = 0 from rfl] at h2
        exact dec_len (d :: r) u (by simp) h2
       have hne : (decDigits u == 48 :: d :: r) = false := by
        rw [beq_eq_false_iff_ne]
        intro e
        rw [e] at hl
        simp at hl
        omega
       rw [hne]
       have h1 : decide (1 < (48 :: d :: r).length) = true := decide_eq_true (by simp)
       rw [h1]
       simp
    ·rw [dec_self c r u hv hc] at hlen ⊢
     have hh : ((c :: r).head? == some 48) = false := by
      rw [beq_eq_false_iff_ne]
      intro e
      exact hc (Option.some.inj e)
     rw [hh, decide_eq_true hlen]
     simp
   ·have hf : decide ((u : Int) ≤ 1000000000000) = false := decide_eq_false hn
    simp only [hf, Bool.and_false]
    unfold ug
    cases ha : atoiAll (c :: r)
    ·have := key _ ha
     rw [hv] at this
     cases this
     simp only [hf, Bool.false_and]
    ·rfl
    ·rfl
theorem has_two (s : ByteArray) (a b c : UInt8) (l : List UInt8) (h : L s = c :: l) : y8 s ⟨#[a, b]⟩ = decide (c = a ∧ l.head? = some b) := by
 have hl := vj s
 rw [h, List.length_cons] at hl
 unfold y8
 have e : (s.extract 0 2 = ⟨#[a, b]⟩) = ((c :: l).take 2 = [a, b]) := by
  apply propext
  rw [← h]
  constructor
  ·intro e
   have := congrArg L e
   rw [show L (s.extract 0 2) = (L s).take 2 by unfold L; rw [ByteArray.data_extract, Array.toList_extract, List.extract_eq_take_drop]; rfl] at this
   exact this
  ·intro e
   apply L_inj
   rw [show L (s.extract 0 2) = (L s).take 2 by unfold L; rw [ByteArray.data_extract, Array.toList_extract, List.extract_eq_take_drop]; rfl]
   exact e
 have e2 : (⟨#[a, b]⟩ : ByteArray).size = 2 := rfl
 rw [Bool.eq_iff_iff]
 simp only [Bool.and_eq_true, decide_eq_true_eq, e2, e]
 cases l with
 | nil => simp at hl ⊢
 | cons d r => simp; rw [List.length_cons] at hl; omega
theorem cls_dig {c : UInt8} (hd : digC c = true) : cls c = 1 := by rw [cls, if_pos hd]
theorem cls_let {c : UInt8} (hw : letC c = true) (hd : digC c = false) : cls c = 2 := by rw [cls, hd, if_neg (by decide), if_pos hw]
theorem cls_none {c : UInt8} (hw : letC c = false) (hd : digC c = false) (hm : vi c = false) : cls c = 0 := by rw [cls, hd, if_neg (by decide), hw, if_neg (by decide), hm, if_neg (by decide)]
theorem cls_mark {c : UInt8} (hw : letC c = false) (hd : digC c = false) (hm : vi c = true) : cls c = 3 := by rw [cls, hd, if_neg (by decide), hw, if_neg (by decide), if_pos hm]
theorem P_has (s p : ByteArray) : F_strings_HasPrefix s p = some (y8 s p) := by
 rw [F_strings_HasPrefix.eq_def, F_internal_stringslite_HasPrefix.eq_def, y8]
 by_cases h : p.size ≤ s.size
 ·have h' : (p.size : Int) ≤ (s.size : Int) := by omega
  have hs : ssub s 0 (p.size : Int) = some (s.extract 0 p.size) := by unfold ssub; rw [if_pos ⟨by omega, by omega, by omega⟩]; rfl
  rw [if_pos (decide_eq_true h'), hs, bs, bs, decide_eq_true h, Bool.true_and]
 ·have h' : ¬ (p.size : Int) ≤ (s.size : Int) := by omega
  rw [if_neg (by rw [decide_eq_true_eq]; exact h'), bs, decide_eq_false h, Bool.false_and]
theorem P_first (s : ByteArray) (hs : s.size ≤ 281474976710656) : F_token_first s = some (((yr (L s)).1 : Int), (yr (L s)).2) := by
 rw [F_token_first.eq_def]
 cases hL : L s with
 | nil =>
   have : s = ⟨#[]⟩ := L_inj hL
   rw [decide_eq_true this, tt]; rfl
 | cons c l =>
   have hne : ¬ s = ⟨#[]⟩ := by
    rintro rfl
    cases hL
   have hx := sx_cons (k := 0) (show (L s).drop 0 = c :: l from hL)
   rw [show ((0 : Nat) : Int) = 0 from rfl] at hx
   have hr := runL_le (c :: l)
   have hl := vj s
   rw [hL] at hl
   rw [decide_eq_false hne, ff, hx, bs, P_class, bs]
   have hrun := P_run s (by omega)
   rw [hL] at hrun
   cases hd : digC c with
   | true =>
     rw [cls_dig hd, nx_dig l hd, show decide ((1 : Int) = 1) = true from rfl, tt, hrun, bs]
     have hsub := Ym (s := s) (a := 0) (b := runL (c :: l)) (by omega) (by omega)
     rw [show ((0 : Nat) : Int) = 0 from rfl] at hsub
     rw [hsub, bs, List.drop_zero, Nat.sub_zero, hL]
     unfold F_token_integer
     rw [if_pos (by rw [K6, List.length_take]; omega), bs]
     have : ug (ofB ((c :: l).take (runL (c :: l)))).data.toList = jg ((c :: l).take (runL (c :: l))) := by
      show ug ((c :: l).take (runL (c :: l))) = _
      have hp := run_pos l (let_dig hd)
      obtain ⟨n, hn⟩ : ∃ n, runL (c :: l) = n + 1 := ⟨runL (c :: l) - 1, by omega⟩
      rw [hn, List.take_succ_cons]
      exact tok_int c _ hd
     rw [this]
     cases jg ((c :: l).take (runL (c :: l))) with
     | true => rfl
     | false => rw [ff, F_token_first_t11.eq_def]; rfl
   | false =>
     cases hw : letC c with
     | true =>
       rw [cls_let hw hd, nx_let l hw hd, show decide ((2 : Int) = 1) = false from rfl, ff, show decide ((2 : Int) = 2) = true from rfl, tt, hrun, bs]
       by_cases h : runL (c :: l) ≤ 32
       ·rw [decide_eq_true (by omega), tt, if_pos h]
       ·rw [decide_eq_false (by omega), ff, if_neg h, F_token_first_t20.eq_def, F_token_first_t11.eq_def]; rfl
     | false =>
       cases hm : vi c with
       | false =>
         rw [cls_none hw hd hm, nx_none l hw hm, show decide ((0 : Int) = 1) = false from rfl, ff, show decide ((0 : Int) = 2) = false from rfl, ff, show decide ((0 : Int) = 3) = false from rfl, ff, F_token_first_t20.eq_def, F_token_first_t11.eq_def]; rfl
       | true =>
         rw [cls_mark hw hd hm, nx_mark l hw hm, show decide ((3 : Int) = 1) = false from rfl, ff, show decide ((3 : Int) = 2) = false from rfl, ff, show decide ((3 : Int) = 3) = true from rfl, tt]
         simp only [P_has]
         rw [bs, bs, has_two s 47 47 c l hL, has_two s 61 61 c l hL]
         simp only [decide_eq_true_eq]
         by_cases h1 : c = 47 ∧ l.head? = some 47
         ·rw [if_pos h1, if_pos h1]; rfl
         ·rw [if_neg h1, if_neg h1]
          by_cases h2 : c = 61 ∧ l.head? = some 61
          ·rw [if_pos h2, if_pos h2]; rfl
          ·rw [if_neg h2, if_neg h2]; rfl
theorem P_End (s : ByteArray) (k : Nat) (hs : s.size ≤ 9223372036854775807) (hk : k ≤ s.size) : F_trivia_End s (k : Int) = some ((s.size - (zk ((L s).drop k)).length : Nat) : Int) := by
 unfold F_trivia_End
 rw [if_pos hs, J5 hk]; rfl
theorem app_ok' {α : Type} {by_ : Nat} {l m : List α} (h : (l.length + m.length) * by_ ≤ 140737488355328) (h2 : l.length + m.length ≤ 9223372036854775807) : app by_ l m = some (l ++ m) := by
 unfold app; rw [if_pos ⟨h, h2⟩]
/-- What is left behind trivia, and where. -/
theorem rest_at (s : ByteArray) (k : Nat) (hk : k ≤ s.size) : (L s).drop (s.size - (zk ((L s).drop k)).length) = zk ((L s).drop k) ∧ k ≤ s.size - (zk ((L s).drop k)).length ∧ (zk ((L s).drop k)).length ≤ s.size := by
 have h1 := rest_drop ((L s).drop k)
 have h2 := trivRest_le ((L s).drop k)
 have h3 : ((L s).drop k).length = s.size - k := by rw [List.length_drop, vj]
 rw [List.drop_drop, h3] at h1
 refine ⟨?_, by omega, by omega⟩
 rw [show k + (s.size - k - (zk ((L s).drop k)).length) = s.size - (zk ((L s).drop k)).length by omega] at h1
 exact h1.symm
theorem P_Tokens_l0 (s : ByteArray) (hs : s.size ≤ 65536) : ∀ (f : Nat) (acc : List Token) (k : Nat), k ≤ s.size → s.size - k < f → acc.length + (s.size - k) ≤ 65536 →
 F_token_Tokens_l0 s acc (k : Int) = some (endT acc (K2 s.size f ((L s).drop k)))
 | 0, acc, k, _, h, _ => absurd h (by omega)
 | f + 1, acc, k, hk, hf, ha => by
   obtain ⟨r1, r2, r3⟩ := rest_at s k hk
   have hlen : ((L s).drop k).length = s.size - k := by rw [List.length_drop, vj]
   rw [Y0, P_End s k (by omega) hk, bs, K2]
   generalize hr : zk ((L s).drop k) = r at r1 r2 r3
   by_cases h0 : r = []
   ·subst h0
    rw [List.length_nil, decide_eq_true (show ((s.size - 0 : Nat) : Int) = (s.size : Int) by omega), tt, if_pos rfl, Ym hk (Nat.le_refl _), bs, app_ok' (by rw [List.length_singleton]; omega) (by rw [List.length_singleton]; omega), bs,
     List.take_of_length_le (by omega)]
    rfl
   ·have hp : 0 < r.length := List.length_pos_iff.2 h0
    have hn := next_le r
    rw [decide_eq_false (show ¬ ((s.size - r.length : Nat) : Int) = (s.size : Int) by omega), ff, if_neg h0, Ym (by omega) (Nat.le_refl _), bs, r1, List.take_of_length_le (by omega), P_first _ (by rw [K6]; omega), bs, L_ofB]
    simp only
    by_cases h2 : (yr r).2 = 0
    ·rw [decide_eq_true h2, tt, if_pos h2]; rfl
    ·have hpos := next_pos r h2
     rw [decide_eq_false h2, ff, if_neg h2, Ym r2 (by omega), bs, zr (by omega) (by omega), show ((s.size - r.length : Nat) : Int) + ((yr r).1 : Int) = ((s.size - r.length + (yr r).1 : Nat) : Int) by omega,
      Ym (by omega) (by omega), bs, app_ok' (by rw [List.length_singleton]; omega) (by rw [List.length_singleton]; omega), bs, r1,
      P_Tokens_l0 s hs f _ (s.size - r.length + (yr r).1) (by omega) (by omega) (by rw [List.length_append, List.length_singleton]; omega), end_cons]
     rw [hlen, ← List.drop_drop, r1, show s.size - r.length + (yr r).1 - (s.size - r.length) = (yr r).1 by omega, show s.size - k - r.length = s.size - r.length - k by omega]
def resT (s : ByteArray) : List Token × Int × Int := if 65536 < s.size then ([], 3, 0) else endT [] (K2 s.size (s.size + 1) (L s))
theorem P_Tokens (s : ByteArray) : F_token_Tokens s = some (resT s) := by
 rw [F_token_Tokens.eq_def]
 unfold resT
 by_cases h : 65536 < s.size
 ·rw [decide_eq_true (by omega), tt, if_pos h]
 ·rw [decide_eq_false (by omega), ff, if_neg h]
  have := P_Tokens_l0 s (by omega) (s.size + 1) [] 0 (by omega) (by omega) (by simp; omega)
  rw [List.drop_zero] at this
  exact this
end Tk
end Go.Proofs.YtimcdpioclioiaaGreatDoorW.Ex.Gr

namespace Go.Proofs.YtimcdpioclioiaaGreatDoorW.Ex.Gr
open Go Go.Proofs.YtimcdpioclioiaaGreatDoorW.Ex Go.Proofs.YtimcdpioclioiaaGreatDoorW.Plain Tk
set_option linter.all false
set_option maxRecDepth 100000
theorem read_l0 (ws : List BA) (m : List Token) (e : List BA) (hm : m.map (·.Text) = ws ++ e) (hb : ws.length ≤ 1000000) : ∀ (l pre : List BA), ws = pre ++ l → F_L8_read_l0 ws m (pre.length : Int) = some true
 | [], pre, h => by rw [Yf, len_end h, yq]
 | w :: l, pre, h => by
   have hl := len_lt h
   have hlen : m.length = ws.length + e.length := by rw [← List.length_append, ← hm, List.length_map]
   have hi : pre.length < m.length := by omega
   have hx : ix m (pre.length : Int) = some m[pre.length] := by rw [J0, List.getElem?_eq_getElem hi]
   have ht : m[pre.length].Text = w := by
    have h1 : (m.map (·.Text))[pre.length]? = some w := by
     rw [hm, h, List.append_assoc, List.getElem?_append_right (Nat.le_refl _), Nat.sub_self]; rfl
    rw [List.getElem?_map, List.getElem?_eq_getElem hi] at h1
    exact Option.some.inj h1
   rw [Yf, len_mid h, yh, hx, bs, ix_mid h, bs, ht, decide_eq_true rfl, nff, Ja (by omega) w]
   exact read_l0 ws m e hm hb l (pre ++ [w]) (Js h)
theorem P_read (T : List Tok) (s : BA) (k : Int) (hs : s = ofB (sfx e0 T)) (hlen : (sfx e0 T).length ≤ 65536) (hT : good T) (hk : (k ≠ 1 ∧ ∀ x ∈ T, Z3 x) ∨ (k = 1 ∧ ∃ T' g, T = T' ++ [(g, e0)] ∧ ∀ x ∈ T', Z3 x)) (hb : T.length ≤ 100000) : F_L8_read s (T.map (·.2)) k = some true := by
 obtain ⟨m, h1, h2⟩ := read_sfx s.size T e0 (s.size + 1) hT (by rw [hs, K6]; omega)
 have hr : F_token_Tokens s = some (m, 0, 0) := by
  rw [P_Tokens, Tk.resT, if_neg (by rw [hs, K6]; omega)]
  have : K2 s.size (s.size + 1) (L s) = .ok m := by rw [← h1]; congr 1; rw [hs, L_ofB]
  rw [this]; rfl
 rw [F_L8_read.eq_def, hr, bs]
 have hz : ((!decide ((0 : Int) = 0)) = true) = False := by simp
 rw [if_neg (by simp)]
 rcases hk with ⟨k1, hg⟩ | ⟨rfl, T', g, rfl, hg⟩
 ·have ht : m.map (·.Text) = T.map (·.2) ++ [e0] := by rw [h2, txt_good T hg]
  have hml : m.length = T.length + 1 := by have := congrArg List.length ht; simpa using this
  have hlast : ix m (T.length : Int) = some (m[T.length]'(by omega)) := by rw [J0, List.getElem?_eq_getElem]
  have hltx : (m[T.length]'(by omega)).Text = e0 := by
   have h3 : (m.map (·.Text))[T.length]? = some e0 := by rw [ht, List.getElem?_append_right (by rw [List.length_map]; exact Nat.le_refl _), List.length_map, Nat.sub_self]; rfl
   rw [List.getElem?_map, List.getElem?_eq_getElem (by omega)] at h3
   exact Option.some.inj h3
  rw [if_pos (by rw [w5]; exact k1), F_L8_read_t23.eq_def]
  simp only [List.length_map]
  rw [zr (by omega) (by omega), if_neg (by rw [w5]; omega), zr (by omega) (by omega), show (T.length : Int) + 1 - 1 = (T.length : Int) by omega, hlast, bs, hltx, decide_eq_true rfl, nff]
  exact read_l0 (T.map (·.2)) m [e0] ht (by rw [List.length_map]; omega) (T.map (·.2)) [] rfl
 ·have ht : m.map (·.Text) = (T' ++ [(g, e0)]).map (·.2) := by rw [h2, txt_end T' g hg]
  have hml : m.length = T'.length + 1 := by have := congrArg List.length ht; simpa using this
  have hlast : ix m (T'.length : Int) = some (m[T'.length]'(by omega)) := by rw [J0, List.getElem?_eq_getElem]
  have hltx : (m[T'.length]'(by omega)).Text = e0 := by
   have h3 : (m.map (·.Text))[T'.length]? = some e0 := by rw [ht, List.map_append, List.getElem?_append_right (by rw [List.length_map]; exact Nat.le_refl _), List.length_map, Nat.sub_self]; rfl
   rw [List.getElem?_map, List.getElem?_eq_getElem (by omega)] at h3
   exact Option.some.inj h3
  rw [List.length_append, List.length_singleton] at hb
  rw [if_neg (by simp), F_L8_read_t23.eq_def]
  simp only [List.length_map, List.length_append, List.length_singleton]
  rw [if_neg (by rw [w5]; omega), zr (by omega) (by omega), show ((T'.length + 1 : Nat) : Int) - 1 = (T'.length : Int) by omega, hlast, bs, hltx, decide_eq_true rfl, nff]
  exact read_l0 ((T' ++ [(g, e0)]).map (·.2)) m [] (by rw [ht, List.append_nil]) (by rw [List.length_map, List.length_append, List.length_singleton]; omega) ((T' ++ [(g, e0)]).map (·.2)) [] rfl
theorem text_short (n : Node) (hs : jl n ≤ 250) (hb : wq n ≤ 3000) (hh : htN n ≤ 70) (hc : checkErr n = 0) : (sfx e0 (toks 0 n e0 0)).length ≤ 65536 ∧ Ji n = (ofB (sfx e0 (toks 0 n e0 0)), 0) := by
 have h1 := toks_cost (jl n) n (Nat.le_refl _) hc e0 0 (by decide) (fun _ => by decide) (Int.le_refl _) (by omega)
 have h2 := sfx_cost (toks 0 n e0 0) e0
 have h3 : (sfx e0 (toks 0 n e0 0)).length ≤ 65536 := by omega
 refine ⟨h3, ?_⟩
 have h4 : (srcL (toks 0 n e0 0) [] e0).1 = sfx e0 (toks 0 n e0 0) := by rw [src_sfx]; rfl
 rw [Ji, if_pos hc, h4, if_neg (by omega)]
theorem L8_Tokens (n : Node) : F_L8_PrintTokens n = some true := by
 obtain ⟨b, e, hb⟩ := P_small3 n
 rw [F_L8_PrintTokens.eq_def, e, bs]
 cases b with
 | false => rw [ntt, P_awake]; rfl
 | true =>
   obtain ⟨h1, h2, h3⟩ := hb rfl
   have hbd := bytes_bd n h2
   have hw := bd_wf n hbd (by omega)
   rw [nff, P_Words n (by omega) hw, bs, P_Text n (by omega) hbd, bs, P_Plain n (by omega) hbd, bs]
   by_cases c : checkErr n = 0
   ·have hcb := like_check (bare_like n) c
    obtain ⟨s1, s2⟩ := text_short n h1 h2 h3 c
    obtain ⟨b1, b2⟩ := text_short (kv n) (by rw [Yy]; exact h1) (Nat.le_trans (bare_bytes n) h2) (by rw [bare_ht]; exact h3) hcb
    obtain ⟨g1, g2, g3⟩ := toks_all n c e0 0 b_e0
    obtain ⟨q1, q2, q3⟩ := toks_all (kv n) hcb e0 0 b_e0
    have hkb : (kv n).kind = n.kind := by rw [bare_eq]; rfl
    have hl := Jh 0 (jl n) n (Nat.le_refl _) c e0 0
    have hl2 := Jh 0 (jl (kv n)) (kv n) (Nat.le_refl _) hcb e0 0
    rw [Yy] at hl2
    have wv : Y4 n = ((toks 0 n e0 0).map (·.2), 0) := by rw [Y4, if_pos c]
    have pv : Kc n = (ofB (sfx e0 (toks 0 (kv n) e0 0)), 0) := by rw [Kc, if_pos c, b2]
    have r1 := P_read (toks 0 n e0 0) _ n.kind rfl s1 g1 (by
     by_cases k : n.kind = 1
     ·exact .inr ⟨k, g3 k⟩
     ·exact .inl ⟨k, g2 k⟩) (by omega)
    have r2 := P_read (toks 0 (kv n) e0 0) _ n.kind rfl b1 q1 (by
     by_cases k : n.kind = 1
     ·exact .inr ⟨k, q3 (hkb.trans k)⟩
     ·exact .inl ⟨k, q2 (fun z => k (hkb.symm.trans z))⟩) (by omega)
    rw [toks_bare (jl n) n (Nat.le_refl _)] at r2
    rw [wv, s2, pv, decide_eq_true rfl, nff, nff, (Yw hw).2, bs, c, decide_eq_true rfl, nff, nff, r1, bs, yh, r2, bs, yh, P_awake]; rfl
   ·have wv : Y4 n = ([], checkErr n) := by rw [Y4, if_neg c]
    have tv : Ji n = (e0, checkErr n) := by rw [Ji, if_neg c]
    have pv : Kc n = (e0, checkErr n) := by rw [Kc, if_neg c]
    rw [wv, tv, pv, decide_eq_true rfl, nff, nff, (Yw hw).2, bs, decide_eq_true rfl, nff, if_pos (by rw [w5]; exact c), P_awake]; rfl
end Go.Proofs.YtimcdpioclioiaaGreatDoorW.Ex.Gr
