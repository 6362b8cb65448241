/- What Replace, Insert and Remove return, in plain words: the program's and the reference's. Conditions: those in each theorem. -/
import Derived.Test.YtimdjillcaichaaDoorRc
import Derived.Test.YtimdjillcaichaaDoorGq
namespace Go.Proofs.YtimdjillcaichaaDoorW.Ex.Gr
open Go Go.Proofs.YtimdjillcaichaaDoorW.Ex
set_option linter.all false
set_option maxRecDepth 100000
theorem chk_of {n : Node} (h : checkErr n = 0) : chk n = (n, 0) := by unfold chk; rw [if_pos h]
theorem fits_ok (a b c : Int) : F_grammar_Fits a b c = some (fits a b c) := rfl
theorem rfits_ok (a b c : Int) : F_R7_Fits a b c = some (fits a b c) := rfl
/-- The last step of a path. -/
theorem snoc_cases (p : List Int) : p = [] ∨ ∃ q k, p = q ++ [k] := by
  rcases List.eq_nil_or_concat p with h | ⟨q, k, h⟩
  · exact .inl h
  · exact .inr ⟨q, k, by rw [h, List.concat_eq_append]⟩
theorem getN_up {n : Node} {q : List Int} {k : Int} {x : Node} (h : getN n (q ++ [k]) = some x) : ∃ m, getN n q = some m ∧ 0 ≤ k ∧ k < (m.kids.length : Int) ∧ x = kid m k.toNat := by
  rw [getN_snoc] at h
  cases e : getN n q with
  | none => rw [e] at h; cases h
  | some m =>
    rw [e] at h
    simp only [Option.bind_some] at h
    split at h
    · rename_i hc; cases h; exact ⟨m, rfl, hc.1, hc.2, rfl⟩
    · cases h
theorem nil0 : decide ((([] : List Int).map Ex.ic).length = (0 : Nat)) = true := rfl
theorem nilI : decide (((([] : List Int).map Ex.ic).length : Int) = (0 : Int)) = true := rfl
theorem bnot_ff {α : Type} {A B : α} : (if ((!true) = true) then A else B) = B := rfl
theorem bnot_tt {α : Type} {A B : α} : (if ((!false) = true) then A else B) = A := rfl
theorem pair_id {α β : Type} (x : α × β) : (some x >>= fun y => some (y.1, y.2)) = some x := rfl
/-! ### The program's -/
theorem P_path_checked2 (n : Node) (z : Sz n) (hs : sizeN n ≤ 1000000) : (F_path_checked n >>= fun y => some (y.1, y.2)) = some (chk n) := by rw [P_path_checked n z hs]; rfl
theorem P_Replace_none (n : Node) (p : List Int) (x : Node) (h : getN n p = none) : F_path_Replace n p x = some (zeroN, 5) := by
  rw [E_F_path_Replace, P_path_get, bs]
  unfold getP
  rw [h]; rfl
theorem P_Replace_nil (n x : Node) (z : Sz x) (hs : sizeN x ≤ 1000000) : F_path_Replace n [] x = some (chk x) := by
  rw [E_F_path_Replace, P_path_get, bs]
  unfold getP
  rw [getN]
  simp only [Bool.not_true, ite_ff, nilI, ite_tt]
  exact P_path_checked2 x z hs
theorem P_Replace_snoc (n : Node) (q : List Int) (k : Int) (x m y : Node) (z : Sz n) (zx : Sz x) (hs : sizeN n ≤ 10000) (hx : sizeN x ≤ 1000) (hp : (q ++ [k]).length ≤ 9223372036854775807)
    (hm : getN n q = some m) (hy : getN n (q ++ [k]) = some y) : F_path_Replace n (q ++ [k]) x = some (if fits m.kind k x.kind = true then chk (modP n (q ++ [k]) (fun _ => x)) else (zeroN, 7)) := by
  have hy2 := hy
  rw [getN_snoc, hm, Option.bind_some] at hy2
  split at hy2
  · rename_i hc
    rw [E_F_path_Replace, P_path_get, bs]
    unfold getP
    rw [hy]
    simp only [Bool.not_true, ite_ff]
    rw [len_snoc, ite_ff, wrap_last q k hp, ix_last, bs, lsub_last, bs, P_path_get, bs]
    unfold getP
    rw [hm]
    simp only
    rw [fits_ok, bs]
    cases hf : fits m.kind k x.kind with
    | false => rfl
    | true =>
      rw [bnot_ff, if_pos rfl, bs]
      have hl : q.length ≤ 9223372036854775807 := by rw [List.length_append] at hp; omega
      rw [P_changed_Replace q n m k x hm hc.1 hc.2 (by omega) hx hl, bs]
      have e : modP n q (fun m => withK m (m.kids.take k.toNat ++ [x] ++ m.kids.drop (k.toNat + 1))) = modP n (q ++ [k]) (fun _ => x) := by
        rw [modP_snoc q n m k _ hm hc.1 hc.2]
        refine modP_congr q n m _ _ hm ?_
        refine withK_len _ _ ?_
        simp only [List.length_append, List.length_take, List.length_drop, List.length_singleton]; omega
      rw [e]
      have hsz := size_modP (q ++ [k]) n y (fun _ => x) hy
      exact P_path_checked2 _ (sz_modP _ n y _ hy z zx) (by omega)
  · cases hy2
theorem P_Insert_nil (n x : Node) : F_path_Insert n [] x = some (zeroN, 5) := by
  rw [E_F_path_Insert, nilI, ite_tt]
theorem P_Insert_none (n : Node) (q : List Int) (k : Int) (x : Node) (hp : (q ++ [k]).length ≤ 9223372036854775807) (hm : getN n q = none) : F_path_Insert n (q ++ [k]) x = some (zeroN, 5) := by
  rw [E_F_path_Insert, len_snoc, ite_ff, wrap_last q k hp, ix_last, bs, lsub_last, bs, P_path_get, bs]
  unfold getP
  rw [hm]; rfl
def insK (m : Node) (k : Int) (x : Node) : List Node := m.kids.take k.toNat ++ [x] ++ m.kids.drop k.toNat
def remK (m : Node) (k : Int) : List Node := m.kids.take k.toNat ++ m.kids.drop (k.toNat + 1)
def insE (n : Node) (q : List Int) (k : Int) (m x : Node) : Node × Int :=
  if k < 0 ∨ (m.kids.length : Int) < k then (zeroN, 5) else if fits m.kind k x.kind = true then chk (modP n q (fun m => withK m (insK m k x))) else (zeroN, 7)
theorem sz_ins {m x : Node} {k : Int} (z : Sz m) (zx : Sz x) : ∀ y ∈ insK m k x, Sz y := by
  intro y hy
  unfold insK at hy
  rw [List.mem_append, List.mem_append] at hy
  rcases hy with (h | h) | h
  · exact z.kid (List.mem_of_mem_take h)
  · rw [List.mem_singleton] at h; rw [h]; exact zx
  · exact z.kid (List.mem_of_mem_drop h)
theorem sz_rem {m : Node} {k : Int} (z : Sz m) : ∀ y ∈ remK m k, Sz y := by
  intro y hy
  unfold remK at hy
  rw [List.mem_append] at hy
  rcases hy with h | h
  · exact z.kid (List.mem_of_mem_take h)
  · exact z.kid (List.mem_of_mem_drop h)
theorem P_Insert_snoc (n : Node) (q : List Int) (k : Int) (x m : Node) (z : Sz n) (zx : Sz x) (hs : sizeN n ≤ 10000) (hx : sizeN x ≤ 1000) (hp : (q ++ [k]).length ≤ 9223372036854775807)
    (hm : getN n q = some m) : F_path_Insert n (q ++ [k]) x = some (insE n q k m x) := by
  rw [E_F_path_Insert, len_snoc, ite_ff, wrap_last q k hp, ix_last, bs, lsub_last, bs, P_path_get, bs]
  unfold getP insE
  rw [hm]
  simp only [Bool.not_true, ite_ff]
  by_cases c1 : k < 0
  · rw [decide_eq_true c1, ite_tt, if_pos (.inl c1)]
  · rw [decide_eq_false c1, ite_ff, List.length_map]
    by_cases c2 : (m.kids.length : Int) < k
    · rw [decide_eq_true c2, ite_tt, if_pos (.inr c2)]
    · rw [decide_eq_false c2, ite_ff, if_neg (by omega), fits_ok, bs]
      cases hf : fits m.kind k x.kind with
      | false => rfl
      | true =>
        rw [bnot_ff, if_pos rfl, bs]
        have hl : q.length ≤ 9223372036854775807 := by rw [List.length_append] at hp; omega
        rw [P_changed_Insert q n m k x hm (by omega) (by omega) (by omega) hx hl, bs]
        have hg := get_sz q n m hm z
        have h2 := size_modP q n m (fun m => withK m (insK m k x)) hm
        simp only [sizeN_withK] at h2
        have h3 := size_Insert m k x
        have e1 := sizeN_eq m
        exact P_path_checked2 _ (sz_modP _ n m _ hm z (sz_withK hg.1 (sz_ins hg.1 zx))) (by unfold insK at h2; omega)
theorem P_Remove_none (n : Node) (p : List Int) (h : getN n p = none) : F_path_Remove n p = some (zeroN, 5) := by
  rw [E_F_path_Remove, P_path_get, bs]
  unfold getP
  rw [h]; rfl
theorem P_Remove_nil (n : Node) : F_path_Remove n [] = some (zeroN, 5) := by
  rw [E_F_path_Remove, P_path_get, bs]
  unfold getP
  rw [getN]; rfl
theorem P_Remove_snoc (n : Node) (q : List Int) (k : Int) (m y : Node) (z : Sz n) (hs : sizeN n ≤ 10000) (hp : (q ++ [k]).length ≤ 9223372036854775807)
    (hm : getN n q = some m) (hy : getN n (q ++ [k]) = some y) : F_path_Remove n (q ++ [k]) = some (chk (modP n q (fun m => withK m (remK m k)))) := by
  have hy2 := hy
  rw [getN_snoc, hm, Option.bind_some] at hy2
  split at hy2
  · rename_i hc
    rw [E_F_path_Remove, P_path_get, bs]
    unfold getP
    rw [hy]
    simp only [Bool.not_true, ite_ff]
    rw [len_snoc, ite_ff, wrap_last q k hp, ix_last, bs, lsub_last, bs]
    have hl : q.length ≤ 9223372036854775807 := by rw [List.length_append] at hp; omega
    rw [P_changed_Remove q n m k hm hc.1 hc.2 (by omega) hl, bs]
    have hg := get_sz q n m hm z
    have h2 := size_modP q n m (fun m => withK m (remK m k)) hm
    simp only [sizeN_withK] at h2
    have h3 := size_Remove m k
    have e1 := sizeN_eq m
    exact P_path_checked2 _ (sz_modP _ n m _ hm z (sz_withK hg.1 (sz_rem hg.1))) (by unfold remK at h2; omega)
  · cases hy2
/-! ### The reference's -/
theorem P_R10_checked2 (n : Node) (z : Sz n) (hs : sizeN n ≤ 1000000) : (F_R10_checked n >>= fun y => some (y.1, y.2)) = some (chk n) := by rw [P_R10_checked n z hs]; rfl
theorem P_R10_fits_snoc (n : Node) (q : List Int) (k c : Int) (m : Node) (hp : (q ++ [k]).length ≤ 9223372036854775807) (hm : getN n q = some m) : F_R10_fits n (q ++ [k]) c = some (fits m.kind k c) := by
  have hl : q.length ≤ 9223372036854775807 := by rw [List.length_append] at hp; omega
  rw [E_F_R10_fits, len_snoc, ite_ff, wrap_last q k hp, lsub_last, bs, P_R10_Get n q hl, bs]
  unfold getE
  rw [hm]
  simp only [decide_true]
  rw [if_pos trivial, ix_last, bs, rfits_ok, bs]
theorem P_R10_Replace_none (n : Node) (p : List Int) (x : Node) (hp : p.length ≤ 9223372036854775807) (h : getN n p = none) : F_R10_Replace n p x = some (zeroN, 5) := by
  rw [E_F_R10_Replace, P_R10_Get n p hp, bs]
  unfold getE
  rw [h]; rfl
theorem P_R10_Replace_nil (n x : Node) (z : Sz x) (hn : sizeN n ≤ 10000) (hs : sizeN x ≤ 10000) : F_R10_Replace n [] x = some (chk x) := by
  rw [E_F_R10_Replace, P_R10_Get n [] (by decide), bs]
  unfold getE
  rw [getN]
  simp only [decide_true, Bool.not_true, ite_ff]
  rw [E_F_R10_fits, nilI, ite_tt, bs, bnot_ff, P_R10_put n [] n x rfl (by omega) (by omega) (by decide), bs, modP]
  exact P_R10_checked2 x z (by omega)
theorem P_R10_Replace_snoc (n : Node) (q : List Int) (k : Int) (x m y : Node) (z : Sz n) (zx : Sz x) (hs : sizeN n ≤ 10000) (hx : sizeN x ≤ 1000) (hp : (q ++ [k]).length ≤ 9223372036854775807)
    (hm : getN n q = some m) (hy : getN n (q ++ [k]) = some y) : F_R10_Replace n (q ++ [k]) x = some (if fits m.kind k x.kind = true then chk (modP n (q ++ [k]) (fun _ => x)) else (zeroN, 7)) := by
  rw [E_F_R10_Replace, P_R10_Get n _ hp, bs]
  unfold getE
  rw [hy]
  simp only [decide_true, Bool.not_true, ite_ff]
  rw [P_R10_fits_snoc n q k _ m hp hm, bs]
  cases hf : fits m.kind k x.kind with
  | false => rfl
  | true =>
    rw [bnot_ff, if_pos rfl, P_R10_put n _ y x hy (by omega) (by omega) hp, bs]
    have hsz := size_modP (q ++ [k]) n y (fun _ => x) hy
    exact P_R10_checked2 _ (sz_modP _ n y _ hy z zx) (by omega)
theorem P_R10_Insert_end (n m : Node) (q : List Int) (k : Int) (x : Node) (ks : List Node) (z : Sz n) (hs : sizeN n ≤ 10000) (hp : (q ++ [k]).length ≤ 9223372036854775807) (hm : getN n q = some m) (hk : sizeNL ks ≤ 20000) (hz : ∀ y ∈ ks, Sz y) :
    F_R10_Insert_l0 (q ++ [k]) (q.length : Int) ks ((m.kids.length : Int) + 1) n x m = some (chk (modP n q (fun m => withK m ks))) := by
  have hg := get_sz q n m hm z
  have hl : q.length ≤ 9223372036854775807 := by rw [List.length_append] at hp; omega
  rw [E_F_R10_Insert_l0, decide_eq_false (by rw [List.length_map]; omega), ite_ff, lsub_last, bs, P_R10_With m ks (by omega) (by omega), bs,
    P_R10_put n q m _ hm (by omega) (by rw [sizeN_withK]; omega) hl, bs, modP_congr q n m (fun _ => withK m ks) (fun m => withK m ks) hm rfl]
  have h2 := size_modP q n m (fun m => withK m ks) hm
  simp only [sizeN_withK] at h2
  exact P_R10_checked2 _ (sz_modP _ n m _ hm z (sz_withK hg.1 hz)) (by omega)
theorem P_R10_Insert_l0 (n m : Node) (q : List Int) (k : Int) (x : Node) (z : Sz n) (zx : Sz x) (hs : sizeN n ≤ 10000) (hx : sizeN x ≤ 1000) (hp : (q ++ [k]).length ≤ 9223372036854775807) (hm : getN n q = some m) (h0 : 0 ≤ k) (h1 : k ≤ (m.kids.length : Int)) :
    ∀ (l pre : List Node), m.kids = pre ++ l →
    (if (pre.length : Int) ≤ k then F_R10_Insert_l0 (q ++ [k]) (q.length : Int) pre (pre.length : Int) n x m = some (chk (modP n q (fun m => withK m (insK m k x))))
     else F_R10_Insert_l0 (q ++ [k]) (q.length : Int) (pre.take k.toNat ++ [x] ++ pre.drop k.toNat) (pre.length : Int) n x m = some (chk (modP n q (fun m => withK m (insK m k x)))))
  | [], pre, hk => by
    have hg := get_sz q n m hm z
    have hpre : pre = m.kids := by rw [hk, List.append_nil]
    subst hpre
    have e1 := sizeN_eq m
    have e2 := sizeNL_len m.kids
    have h3 := size_Insert m k x
    have he : F_R10_Insert_l0 (q ++ [k]) (q.length : Int) (insK m k x) ((m.kids.length : Int) + 1) n x m = some (chk (modP n q (fun m => withK m (insK m k x)))) := by
      rw [P_R10_Insert_end n m q k x (insK m k x) z hs hp hm (by unfold insK; omega) (sz_ins hg.1 zx)]
      rw [modP_congr q n m (fun m_1 => withK m_1 (insK m k x)) (fun m => withK m (insK m k x)) hm rfl]
    split
    · rename_i c
      have hk : k = (m.kids.length : Int) := by omega
      have hI : insK m k x = m.kids ++ [x] := by unfold insK; rw [hk, Int.toNat_natCast, List.take_of_length_le (Nat.le_refl _), List.drop_of_length_le (Nat.le_refl _), List.append_nil]
      rw [E_F_R10_Insert_l0, decide_eq_true (by rw [List.length_map]; omega), ite_tt, ix_last, bs, decide_eq_true hk.symm, ite_tt, app_ok (by rw [List.length_singleton]; omega) (by rw [List.length_singleton]; omega), bs,
        E_F_R10_Insert_t66, decide_eq_false (by rw [List.length_map]; omega), ite_ff, E_F_R10_Insert_t75, wrap_id (by omega) (by omega), ← hI]
      exact he
    · rename_i c
      have hk : ¬ (m.kids.length : Int) = k := by omega
      rw [E_F_R10_Insert_l0, decide_eq_true (by rw [List.length_map]; omega), ite_tt, ix_last, bs, decide_eq_false hk, ite_ff,
        E_F_R10_Insert_t66, decide_eq_false (by rw [List.length_map]; omega), ite_ff, E_F_R10_Insert_t75, wrap_id (by omega) (by omega)]
      exact he
  | a :: l, pre, hk => by
    have hg := get_sz q n m hm z
    have e1 := sizeN_eq m
    have e2 := sizeNL_len m.kids
    have hln : m.kids.length = pre.length + (l.length + 1) := by rw [hk, List.length_append, List.length_cons]
    have ih := P_R10_Insert_l0 n m q k x z zx hs hx hp hm h0 h1 l (pre ++ [a]) (mid_snoc hk)
    have hw := wrap_len (pre := pre) (by omega) a
    by_cases c : (pre.length : Int) ≤ k
    · rw [if_pos c, E_F_R10_Insert_l0, decide_eq_true (by rw [List.length_map]; omega), ite_tt, ix_last, bs]
      by_cases c2 : (pre.length : Int) = k
      · rw [decide_eq_true c2, ite_tt, app_ok (by rw [List.length_singleton]; omega) (by rw [List.length_singleton]; omega), bs,
          E_F_R10_Insert_t66, decide_eq_true (by rw [List.length_map]; omega), ite_tt, ix_mid hk, bs, app_ok (by simp only [List.length_append, List.length_singleton]; omega) (by simp only [List.length_append, List.length_singleton]; omega), bs, E_F_R10_Insert_t75, hw]
        rw [if_neg (by rw [List.length_append, List.length_singleton]; omega)] at ih
        have e6 : (pre ++ [a]).take k.toNat = pre := by rw [← c2, Int.toNat_natCast, List.take_left']; rfl
        have e7 : (pre ++ [a]).drop k.toNat = [a] := by rw [← c2, Int.toNat_natCast, List.drop_left']; rfl
        rw [e6, e7] at ih
        exact ih
      · rw [decide_eq_false c2, ite_ff, E_F_R10_Insert_t66, decide_eq_true (by rw [List.length_map]; omega), ite_tt, ix_mid hk, bs, app_ok (by simp only [List.length_append, List.length_singleton]; omega) (by simp only [List.length_append, List.length_singleton]; omega), bs, E_F_R10_Insert_t75, hw]
        rw [if_pos (by rw [List.length_append, List.length_singleton]; omega)] at ih
        exact ih
    · rw [if_neg c, E_F_R10_Insert_l0, decide_eq_true (by rw [List.length_map]; omega), ite_tt, ix_last, bs, decide_eq_false (show ¬ (pre.length : Int) = k by omega), ite_ff,
        E_F_R10_Insert_t66, decide_eq_true (by rw [List.length_map]; omega), ite_tt, ix_mid hk, bs,
        app_ok (by simp only [List.length_append, List.length_take, List.length_drop, List.length_singleton]; omega) (by simp only [List.length_append, List.length_take, List.length_drop, List.length_singleton]; omega), bs, E_F_R10_Insert_t75, hw]
      rw [if_neg (by rw [List.length_append, List.length_singleton]; omega)] at ih
      rw [List.take_append_of_le_length (by omega), List.drop_append_of_le_length (by omega)] at ih
      simpa [List.append_assoc] using ih
theorem P_R10_Insert_nil (n x : Node) : F_R10_Insert n [] x = some (zeroN, 5) := by
  rw [E_F_R10_Insert, show decide (IntKind.i64.wrap (((([] : List Int).map Ex.ic).length : Int) - 1) < 0) = true by decide, ite_tt]
theorem wrap_neg (q : List Int) (k : Int) (hp : (q ++ [k]).length ≤ 9223372036854775807) : decide (IntKind.i64.wrap ((((q ++ [k]).map Ex.ic).length : Int) - 1) < 0) = false := by
  rw [wrap_last q k hp]; exact decide_eq_false (by omega)
theorem P_R10_Insert_none (n : Node) (q : List Int) (k : Int) (x : Node) (hp : (q ++ [k]).length ≤ 9223372036854775807) (hm : getN n q = none) : F_R10_Insert n (q ++ [k]) x = some (zeroN, 5) := by
  have hl : q.length ≤ 9223372036854775807 := by rw [List.length_append] at hp; omega
  rw [E_F_R10_Insert, wrap_neg q k hp, ite_ff, wrap_last q k hp, lsub_last, bs, P_R10_Get n q hl, bs]
  unfold getE
  rw [hm]; rfl
theorem P_R10_Insert_snoc (n : Node) (q : List Int) (k : Int) (x m : Node) (z : Sz n) (zx : Sz x) (hs : sizeN n ≤ 10000) (hx : sizeN x ≤ 1000) (hp : (q ++ [k]).length ≤ 9223372036854775807)
    (hm : getN n q = some m) : F_R10_Insert n (q ++ [k]) x = some (insE n q k m x) := by
  have hl : q.length ≤ 9223372036854775807 := by rw [List.length_append] at hp; omega
  rw [E_F_R10_Insert, wrap_neg q k hp, ite_ff, wrap_last q k hp, lsub_last, bs, P_R10_Get n q hl, bs]
  unfold getE insE
  rw [hm]
  simp only [decide_true, Bool.not_true, ite_ff]
  rw [ix_last, bs]
  by_cases c1 : k < 0
  · rw [decide_eq_true c1, ite_tt, if_pos (.inl c1)]
  · rw [decide_eq_false c1, ite_ff, bs, List.length_map]
    by_cases c2 : (m.kids.length : Int) < k
    · rw [decide_eq_true c2, ite_tt, if_pos (.inr c2)]
    · rw [decide_eq_false c2, ite_ff, if_neg (by omega), P_R10_fits_snoc n q k _ m hp hm, bs]
      cases hf : fits m.kind k x.kind with
      | false => rfl
      | true =>
        rw [bnot_ff, if_pos rfl]
        have := P_R10_Insert_l0 n m q k x z zx hs hx hp hm (by omega) (by omega) m.kids [] rfl
        rw [if_pos (show ((([] : List Node).length : Nat) : Int) ≤ k by simp; omega)] at this
        exact this
theorem P_R10_Remove_nil (n : Node) : F_R10_Remove n [] = some (zeroN, 5) := by
  rw [E_F_R10_Remove, P_R10_Get n [] (by decide), bs, show decide (IntKind.i64.wrap (((([] : List Int).map Ex.ic).length : Int) - 1) < 0) = true by decide, ite_tt]
theorem P_R10_Remove_none (n : Node) (p : List Int) (hp : p.length ≤ 9223372036854775807) (h : getN n p = none) : F_R10_Remove n p = some (zeroN, 5) := by
  rw [E_F_R10_Remove, P_R10_Get n p hp, bs]
  unfold getE
  rw [h]
  simp only
  split
  · rfl
  · rfl
theorem P_R10_Remove_l0 (n m : Node) (q : List Int) (k : Int) (z : Sz n) (hs : sizeN n ≤ 10000) (hp : (q ++ [k]).length ≤ 9223372036854775807) (hm : getN n q = some m) (h0 : 0 ≤ k) (h1 : k < (m.kids.length : Int)) :
    ∀ (l pre : List Node), m.kids = pre ++ l →
    (if (pre.length : Int) ≤ k then F_R10_Remove_l0 (q ++ [k]) (q.length : Int) pre (pre.length : Int) n m = some (chk (modP n q (fun m => withK m (remK m k))))
     else F_R10_Remove_l0 (q ++ [k]) (q.length : Int) (pre.take k.toNat ++ pre.drop (k.toNat + 1)) (pre.length : Int) n m = some (chk (modP n q (fun m => withK m (remK m k)))))
  | [], pre, hk => by
    have hg := get_sz q n m hm z
    have hpre : pre = m.kids := by rw [hk, List.append_nil]
    subst hpre
    have e1 := sizeN_eq m
    have e2 := sizeNL_len m.kids
    have h3 := size_Remove m k
    have hl : q.length ≤ 9223372036854775807 := by rw [List.length_append] at hp; omega
    have h2 := size_modP q n m (fun m => withK m (remK m k)) hm
    simp only [sizeN_withK] at h2
    rw [if_neg (by omega), E_F_R10_Remove_l0, decide_eq_false (by rw [List.length_map]; omega), ite_ff, lsub_last, bs]
    show (F_R10_With m (remK m k) >>= _) = _
    unfold remK at h2
    rw [P_R10_With m (remK m k) (by omega) (by unfold remK; omega), bs, P_R10_put n q m _ hm (by omega) (by rw [sizeN_withK]; unfold remK; omega) hl, bs, modP_congr q n m (fun _ => withK m (remK m k)) (fun m => withK m (remK m k)) hm rfl]
    exact P_R10_checked2 _ (sz_modP _ n m _ hm z (sz_withK hg.1 (sz_rem hg.1))) (by unfold remK; omega)
  | a :: l, pre, hk => by
    have hg := get_sz q n m hm z
    have e1 := sizeN_eq m
    have e2 := sizeNL_len m.kids
    have hln : m.kids.length = pre.length + (l.length + 1) := by rw [hk, List.length_append, List.length_cons]
    have ih := P_R10_Remove_l0 n m q k z hs hp hm h0 h1 l (pre ++ [a]) (mid_snoc hk)
    have hw := wrap_len (pre := pre) (by omega) a
    by_cases c : (pre.length : Int) ≤ k
    · rw [if_pos c, E_F_R10_Remove_l0, decide_eq_true (by rw [List.length_map]; omega), ite_tt, ix_last, bs]
      by_cases c2 : (pre.length : Int) = k
      · rw [decide_eq_true c2, bnot_ff, E_F_R10_Remove_t49, hw]
        rw [if_neg (by rw [List.length_append, List.length_singleton]; omega)] at ih
        have e6 : (pre ++ [a]).take k.toNat = pre := by rw [← c2, Int.toNat_natCast, List.take_left']; rfl
        have e7 : (pre ++ [a]).drop (k.toNat + 1) = [] := by rw [← c2, Int.toNat_natCast, List.drop_of_length_le]; simp
        rw [e6, e7, List.append_nil] at ih
        exact ih
      · rw [decide_eq_false c2, bnot_tt, ix_mid hk, bs, app_ok (by simp only [List.length_append, List.length_singleton]; omega) (by simp only [List.length_append, List.length_singleton]; omega), bs, E_F_R10_Remove_t49, hw]
        rw [if_pos (by rw [List.length_append, List.length_singleton]; omega)] at ih
        exact ih
    · rw [if_neg c, E_F_R10_Remove_l0, decide_eq_true (by rw [List.length_map]; omega), ite_tt, ix_last, bs, decide_eq_false (show ¬ (pre.length : Int) = k by omega), bnot_tt, ix_mid hk, bs,
        app_ok (by simp only [List.length_append, List.length_take, List.length_drop, List.length_singleton]; omega) (by simp only [List.length_append, List.length_take, List.length_drop, List.length_singleton]; omega), bs, E_F_R10_Remove_t49, hw]
      rw [if_neg (by rw [List.length_append, List.length_singleton]; omega)] at ih
      rw [List.take_append_of_le_length (by omega), List.drop_append_of_le_length (by omega)] at ih
      simpa [List.append_assoc] using ih
theorem P_R10_Remove_snoc (n : Node) (q : List Int) (k : Int) (m y : Node) (z : Sz n) (hs : sizeN n ≤ 10000) (hp : (q ++ [k]).length ≤ 9223372036854775807)
    (hm : getN n q = some m) (hy : getN n (q ++ [k]) = some y) : F_R10_Remove n (q ++ [k]) = some (chk (modP n q (fun m => withK m (remK m k)))) := by
  have hl : q.length ≤ 9223372036854775807 := by rw [List.length_append] at hp; omega
  have hy2 := hy
  rw [getN_snoc, hm, Option.bind_some] at hy2
  split at hy2
  · rename_i hc
    rw [E_F_R10_Remove, P_R10_Get n _ hp, bs, wrap_neg q k hp, ite_ff]
    unfold getE
    rw [hy]
    simp only [decide_true, Bool.not_true, ite_ff]
    rw [wrap_last q k hp, lsub_last, bs, P_R10_Get n q hl, bs]
    unfold getE
    rw [hm]
    have := P_R10_Remove_l0 n m q k z hs hp hm hc.1 hc.2 m.kids [] rfl
    rw [if_pos (show ((([] : List Node).length : Nat) : Int) ≤ k by simp; exact hc.1)] at this
    exact this
  · cases hy2
end Go.Proofs.YtimdjillcaichaaDoorW.Ex.Gr
