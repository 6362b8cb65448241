/- The token at the begin of a text: the program's and the reference's. Conditions: those in each theorem. -/
import Derived.Test.YtimdjillcaichaaDoorVb
namespace Go.Proofs.YtimdjillcaichaaDoorW.Ex.Gr
open Go Go.Proofs.YtimdjillcaichaaDoorW.Ex Go.Proofs.YtimdjillcaichaaDoorW.Plain
set_option linter.all false
set_option maxRecDepth 100000
namespace Tk
/-- The length and the kind of the token with which a text begins; the kind 0 if there is none. -/
def nextL : List UInt8 → Nat × Int
  | [] => (0, 0)
  | c :: l =>
    if letC c = true then
      (if digC c = true then (if integerB ((c :: l).take (runL (c :: l))) = true then (runL (c :: l), 2) else (0, 0))
       else if runL (c :: l) ≤ 32 then (runL (c :: l), 1) else (0, 0))
    else if markC c = false then (0, 0)
    else if c = 47 ∧ l.head? = some 47 then (0, 0)
    else if c = 61 ∧ l.head? = some 61 then (2, 3)
    else (1, 3)
theorem has_two (s : ByteArray) (a b c : UInt8) (l : List UInt8) (h : L s = c :: l) : hasPrefix s ⟨#[a, b]⟩ = decide (c = a ∧ l.head? = some b) := by
  have hl := len_L s
  rw [h, List.length_cons] at hl
  unfold hasPrefix
  have e : (s.extract 0 2 = ⟨#[a, b]⟩) = ((c :: l).take 2 = [a, b]) := by
    apply propext
    rw [← h]
    constructor
    · intro e
      have := congrArg L e
      rw [show L (s.extract 0 2) = (L s).take 2 by unfold L; rw [ByteArray.data_extract, Array.toList_extract, List.extract_eq_take_drop]; rfl] at this
      exact this
    · intro e
      apply L_inj
      rw [show L (s.extract 0 2) = (L s).take 2 by unfold L; rw [ByteArray.data_extract, Array.toList_extract, List.extract_eq_take_drop]; rfl]
      exact e
  have e2 : (⟨#[a, b]⟩ : ByteArray).size = 2 := rfl
  rw [Bool.eq_iff_iff]
  simp only [Bool.and_eq_true, decide_eq_true_eq, e2, e]
  cases l with
  | nil => simp at hl ⊢
  | cons d r => simp; rw [List.length_cons] at hl; omega
theorem let_dig {c : UInt8} (h : digC c = true) : letC c = true := by
  unfold letC
  have : digitB (c.toNat : Int) = true := h
  rw [this]; rfl
theorem run_pos {c : UInt8} (l : List UInt8) (h : letC c = true) : 0 < runL (c :: l) := by rw [runL, if_pos h]; omega
theorem nx_dig {c : UInt8} (l : List UInt8) (hd : digC c = true) : nextL (c :: l) = if integerB ((c :: l).take (runL (c :: l))) = true then (runL (c :: l), 2) else (0, 0) := by
  rw [nextL, if_pos (let_dig hd), if_pos hd]
theorem nx_let {c : UInt8} (l : List UInt8) (hw : letC c = true) (hd : digC c = false) : nextL (c :: l) = if runL (c :: l) ≤ 32 then (runL (c :: l), 1) else (0, 0) := by
  rw [nextL, if_pos hw, hd, if_neg (by decide)]
theorem nx_none {c : UInt8} (l : List UInt8) (hw : letC c = false) (hm : markC c = false) : nextL (c :: l) = (0, 0) := by
  rw [nextL, hw, if_neg (by decide), if_pos hm]
theorem nx_mark {c : UInt8} (l : List UInt8) (hw : letC c = false) (hm : markC c = true) : nextL (c :: l) = if c = 47 ∧ l.head? = some 47 then (0, 0) else if c = 61 ∧ l.head? = some 61 then (2, 3) else (1, 3) := by
  rw [nextL, hw, if_neg (by decide), hm, if_neg (by decide)]
theorem cls_dig {c : UInt8} (hd : digC c = true) : cls c = 1 := by rw [cls, if_pos hd]
theorem cls_let {c : UInt8} (hw : letC c = true) (hd : digC c = false) : cls c = 2 := by rw [cls, hd, if_neg (by decide), if_pos hw]
theorem cls_none {c : UInt8} (hw : letC c = false) (hd : digC c = false) (hm : markC c = false) : cls c = 0 := by rw [cls, hd, if_neg (by decide), hw, if_neg (by decide), hm, if_neg (by decide)]
theorem cls_mark {c : UInt8} (hw : letC c = false) (hd : digC c = false) (hm : markC c = true) : cls c = 3 := by rw [cls, hd, if_neg (by decide), hw, if_neg (by decide), if_pos hm]
theorem P_first (s : ByteArray) (hs : s.size ≤ 281474976710656) : F_token_first s = some (((nextL (L s)).1 : Int), (nextL (L s)).2) := by
  rw [E_F_token_first]
  cases hL : L s with
  | nil =>
    have : s = ⟨#[]⟩ := L_inj hL
    rw [decide_eq_true this, tt]; rfl
  | cons c l =>
    have hne : ¬ s = ⟨#[]⟩ := by
      rintro rfl
      cases hL
    have hx := sx_cons (k := 0) (show (L s).drop 0 = c :: l from hL)
    rw [show ((0 : Nat) : Int) = 0 from rfl] at hx
    have hr := runL_le (c :: l)
    have hl := len_L s
    rw [hL] at hl
    rw [decide_eq_false hne, ff, hx, bs, P_class, bs]
    have hrun := P_run s (by omega)
    rw [hL] at hrun
    cases hd : digC c with
    | true =>
      rw [cls_dig hd, nx_dig l hd, show decide ((1 : Int) = 1) = true from rfl, tt, hrun, bs]
      have hsub := ssub_at (s := s) (a := 0) (b := runL (c :: l)) (by omega) (by omega)
      rw [show ((0 : Nat) : Int) = 0 from rfl] at hsub
      rw [hsub, bs, List.drop_zero, Nat.sub_zero, hL]
      unfold F_token_integer
      rw [if_pos (by rw [size_ofB, List.length_take]; omega), bs]
      have : tokInt (ofB ((c :: l).take (runL (c :: l)))).data.toList = integerB ((c :: l).take (runL (c :: l))) := by
        show tokInt ((c :: l).take (runL (c :: l))) = _
        have hp := run_pos l (let_dig hd)
        obtain ⟨n, hn⟩ : ∃ n, runL (c :: l) = n + 1 := ⟨runL (c :: l) - 1, by omega⟩
        rw [hn, List.take_succ_cons]
        exact tok_int c _ hd
      rw [this]
      cases integerB ((c :: l).take (runL (c :: l))) with
      | true => rfl
      | false => rw [ff, E_F_token_first_t11]; rfl
    | false =>
      cases hw : letC c with
      | true =>
        rw [cls_let hw hd, nx_let l hw hd, show decide ((2 : Int) = 1) = false from rfl, ff, show decide ((2 : Int) = 2) = true from rfl, tt, hrun, bs]
        by_cases h : runL (c :: l) ≤ 32
        · rw [decide_eq_true (by omega), tt, if_pos h]
        · rw [decide_eq_false (by omega), ff, if_neg h, E_F_token_first_t20, E_F_token_first_t11]; rfl
      | false =>
        cases hm : markC c with
        | false =>
          rw [cls_none hw hd hm, nx_none l hw hm, show decide ((0 : Int) = 1) = false from rfl, ff, show decide ((0 : Int) = 2) = false from rfl, ff, show decide ((0 : Int) = 3) = false from rfl, ff, E_F_token_first_t20, E_F_token_first_t11]; rfl
        | true =>
          rw [cls_mark hw hd hm, nx_mark l hw hm, show decide ((3 : Int) = 1) = false from rfl, ff, show decide ((3 : Int) = 2) = false from rfl, ff, show decide ((3 : Int) = 3) = true from rfl, tt]
          unfold F_strings_HasPrefix
          rw [bs, bs, has_two s 47 47 c l hL, has_two s 61 61 c l hL]
          simp only [decide_eq_true_eq]
          by_cases h1 : c = 47 ∧ l.head? = some 47
          · rw [if_pos h1, if_pos h1]; rfl
          · rw [if_neg h1, if_neg h1]
            by_cases h2 : c = 61 ∧ l.head? = some 61
            · rw [if_pos h2, if_pos h2]; rfl
            · rw [if_neg h2, if_neg h2]; rfl
theorem P_R5_next (s : ByteArray) (k : Nat) (hs : s.size ≤ 281474976710656) (hk : k ≤ s.size) : F_R5_next s (k : Int) = some (((k + (nextL ((L s).drop k)).1 : Nat) : Int), (nextL ((L s).drop k)).2) := by
  rw [E_F_R5_next]
  cases hL : (L s).drop k with
  | nil =>
    have := drop_nil hL
    rw [decide_eq_true (by omega), tt]; rfl
  | cons c l =>
    obtain ⟨h1, h2⟩ := drop_lt hL
    have hr := runL_le (c :: l)
    have hl := congrArg List.length hL
    rw [List.length_drop, len_L] at hl
    have hrun := P_R5_run_l0 (c :: l) s k hL (by omega) hk
    rw [decide_eq_false (by omega), ff, sx_cons hL, bs, P_Letter, bs]
    cases hw : letC c with
    | true =>
      rw [tt, E_F_R5_run, hrun, bs, bs, P_Digit, bs]
      cases hd : digC c with
      | true =>
        rw [tt, nx_dig l hd, ssub_at (by omega) (by omega), bs, hL, show k + runL (c :: l) - k = runL (c :: l) by omega, P_R5_integer _ (by rw [size_ofB, List.length_take]; omega), bs, L_ofB]
        cases integerB ((c :: l).take (runL (c :: l))) with
        | true => rfl
        | false => rfl
      | false =>
        rw [ff, nx_let l hw hd, wrap_id (by omega) (by omega)]
        by_cases h : runL (c :: l) ≤ 32
        · rw [decide_eq_true (by omega), tt, if_pos h]
        · rw [decide_eq_false (by omega), ff, if_neg h]; rfl
    | false =>
      rw [ff, bs, P_R5_mark, bs]
      cases hm : markC c with
      | false => rw [ntt, nx_none l hw hm]; rfl
      | true =>
        rw [nff, nx_mark l hw hm]
        simp only [bs, E_F_R5_next_t79]
        have w1 : IntKind.i64.wrap ((k : Int) + 1) = ((k + 1 : Nat) : Int) := wrap_id (by omega) (by omega)
        have w2 : IntKind.i64.wrap ((k : Int) + 2) = ((k + 2 : Nat) : Int) := wrap_id (by omega) (by omega)
        rw [w1, w2]
        have e47 : ((c.toNat : Int) = 47) = (c = 47) := by
          apply propext
          constructor
          · intro h; exact UInt8.toNat_inj.1 (by show c.toNat = 47; omega)
          · rintro rfl; rfl
        have e61 : ((c.toNat : Int) = 61) = (c = 61) := by
          apply propext
          constructor
          · intro h; exact UInt8.toNat_inj.1 (by show c.toNat = 61; omega)
          · rintro rfl; rfl
        simp only [e47, e61]
        cases l with
        | nil =>
          rw [List.length_cons, List.length_nil] at hl
          rw [decide_eq_false (show ¬ ((k + 1 : Nat) : Int) < (s.size : Int) by omega)]
          simp
        | cons d r =>
          rw [List.length_cons, List.length_cons] at hl
          rw [decide_eq_true (show ((k + 1 : Nat) : Int) < (s.size : Int) by omega), sx_cons h2]
          have d47 : ((d.toNat : Int) = 47) = (d = 47) := by
            apply propext
            constructor
            · intro h; exact UInt8.toNat_inj.1 (by show d.toNat = 47; omega)
            · rintro rfl; rfl
          have d61 : ((d.toNat : Int) = 61) = (d = 61) := by
            apply propext
            constructor
            · intro h; exact UInt8.toNat_inj.1 (by show d.toNat = 61; omega)
            · rintro rfl; rfl
          simp only [bs, d47, d61, List.head?_cons, Option.some.injEq]
          by_cases a1 : c = 47
          · subst a1
            by_cases a2 : d = 47
            · subst a2; rfl
            · by_cases a3 : d = 61 <;> simp [a2, a3]
          · by_cases a2 : c = 61
            · subst a2
              by_cases a3 : d = 61 <;> simp [a3]
            · simp [a1, a2]
def kindL (l : List UInt8) : Int := if (nextL l).1 = l.length then (nextL l).2 else 0
theorem P_Kind (s : ByteArray) (hs : s.size ≤ 281474976710656) : F_token_Kind s = some (kindL (L s)) := by
  rw [E_F_token_Kind, P_first s hs, bs]
  have hl := len_L s
  unfold kindL
  by_cases h : (nextL (L s)).1 = (L s).length
  · rw [decide_eq_true (show ((nextL (L s)).1 : Int) = (s.size : Int) by omega), nff, if_pos h]
  · rw [decide_eq_false (show ¬ ((nextL (L s)).1 : Int) = (s.size : Int) by omega), ntt, if_neg h]
theorem P_R5_Kind (s : ByteArray) (hs : s.size ≤ 281474976710656) : F_R5_Kind s = some (kindL (L s)) := by
  have hn := P_R5_next s 0 hs (by omega)
  rw [show ((0 : Nat) : Int) = 0 from rfl, List.drop_zero, Nat.zero_add] at hn
  rw [E_F_R5_Kind, hn, bs]
  have hl := len_L s
  unfold kindL
  by_cases h : (nextL (L s)).1 = (L s).length
  · rw [decide_eq_true (show ((nextL (L s)).1 : Int) = (s.size : Int) by omega), nff, if_pos h]
  · rw [decide_eq_false (show ¬ ((nextL (L s)).1 : Int) = (s.size : Int) by omega), ntt, if_neg h]
/-- Would two tokens without a gap be read differently? -/
def glueL (a b : List UInt8) : Bool :=
  if a = [] ∨ b = [] then false
  else if letC (a.getLastD 0) = true ∧ letC (b.headD 0) = true then true
  else (decide (a = [61]) && (decide (b = [61]) || decide (b = [61, 61]))) || (decide (a = [47]) && decide (b = [47]))
theorem lit_eq (s : ByteArray) (l : List UInt8) : decide (s = ⟨l.toArray⟩) = decide (L s = l) := by
  rw [decide_eq_decide]
  constructor
  · rintro rfl; rfl
  · intro h; exact L_inj h
theorem sx_last {s : ByteArray} (h : L s ≠ []) (hs : s.size ≤ 9223372036854775807) : sx s (IntKind.i64.wrap ((s.size : Int) - 1)) = some (((L s).getLastD 0).toNat : Int) := by
  have hl := len_L s
  have h0 : 0 < s.size := by rw [← hl]; exact List.length_pos_iff.2 h
  rw [wrap_id (by omega) (by omega), show (s.size : Int) - 1 = ((s.size - 1 : Nat) : Int) by omega]
  refine sx_at ?_
  rw [← hl, List.getLastD_eq_getLast?, ← List.getLast?_eq_getElem?]
  cases e : (L s).getLast? with
  | none => exact absurd (List.getLast?_eq_none_iff.1 e) h
  | some c => rfl
theorem P_Glue (a b : ByteArray) (ha : a.size ≤ 281474976710656) : F_token_Glue a b = some (glueL (L a) (L b)) ∧ F_R5_Glue a b = some (glueL (L a) (L b)) := by
  rw [E_F_token_Glue, E_F_R5_Glue]
  simp only [E_F_token_Glue_t11, E_F_R5_Glue_t21]
  have q0 := lit_eq a []; have q1 := lit_eq b []; have q2 := lit_eq a [61]; have q3 := lit_eq b [61]; have q4 := lit_eq b [61, 61]; have q5 := lit_eq a [47]; have q6 := lit_eq b [47]
  simp only [q0, q1, q2, q3, q4, q5, q6]
  unfold glueL
  cases hA : L a with
  | nil => simp
  | cons c l =>
    cases hB : L b with
    | nil => simp
    | cons d r =>
      have hx := sx_cons (k := 0) (show (L b).drop 0 = d :: r from hB)
      rw [show ((0 : Nat) : Int) = 0 from rfl] at hx
      have hy := sx_last (s := a) (by rw [hA]; simp) (by omega)
      rw [hA] at hy
      rw [hx, hy]
      simp only [bs, P_wordy, P_Letter, List.headD_cons, reduceCtorEq, false_or, if_false, decide_false, Bool.false_eq_true, or_self]
      obtain ⟨x, w1⟩ : ∃ x, letC ((c :: l).getLastD 0) = x := ⟨_, rfl⟩
      obtain ⟨y, w2⟩ : ∃ y, letC d = y := ⟨_, rfl⟩
      simp only [w1, w2]
      clear w1 w2 hy hx hA hB
      obtain ⟨A, hA⟩ : ∃ A, c :: l = A := ⟨_, rfl⟩
      obtain ⟨B, hB⟩ : ∃ B, d :: r = B := ⟨_, rfl⟩
      simp only [hA, hB]
      clear hA hB
      have n1 : ¬ ([61] : List UInt8) = [47] := by decide
      have n2 : ¬ ([61] : List UInt8) = [61, 61] := by decide
      have n3 : ¬ ([47] : List UInt8) = [61, 61] := by decide
      have n4 : ¬ ([47] : List UInt8) = [61] := by decide
      cases x <;> cases y <;> by_cases h1 : A = [61] <;> by_cases h4 : A = [47] <;> by_cases h2 : B = [61] <;> by_cases h3 : B = [61, 61] <;> by_cases h5 : B = [47] <;> simp_all
end Tk
end Go.Proofs.YtimdjillcaichaaDoorW.Ex.Gr
