/- Of, Index and Get return what the reference returns: the table of a tree, walked up and down. Conditions: those in each theorem. -/
import Derived.Test.YtimdjillcaichaaDoorRg
import Derived.Test.YtimdjillcaichaaDoorGs
namespace Go.Proofs.YtimdjillcaichaaDoorW.Ex.Gr
open Go Go.Proofs.YtimdjillcaichaaDoorW.Ex
set_option linter.all false
set_option maxRecDepth 100000
/-! ### The table of a tree -/
/-- The indexes of kids that lie one behind the other. -/
def kidIdx : Nat → List Node → List Int
  | _, [] => []
  | b, m :: l => (b : Int) :: kidIdx (b + sizeN m) l
mutual
def rowsN : Nat → Int → Node → List Row
  | b, par, .mk k t g l => Row.mk par k t g (kidIdx (b + 1) l) :: rowsL (b + 1) (b : Int) l
def rowsL : Nat → Int → List Node → List Row
  | _, _, [] => []
  | b, par, m :: l => rowsN b par m ++ rowsL (b + sizeN m) par l
end
theorem rowsN_eq (b : Nat) (par : Int) (n : Node) : rowsN b par n = Row.mk par n.kind n.text n.gaps (kidIdx (b + 1) n.kids) :: rowsL (b + 1) (b : Int) n.kids := by cases n; rw [rowsN]; rfl
mutual
theorem rowsN_len : ∀ (n : Node) (b : Nat) (par : Int), (rowsN b par n).length = sizeN n
  | .mk k t g l, b, par => by rw [rowsN, List.length_cons, rowsL_len l, sizeN]
theorem rowsL_len : ∀ (l : List Node) (b : Nat) (par : Int), (rowsL b par l).length = sizeNL l
  | [], b, par => by rw [rowsL, sizeNL]; rfl
  | m :: l, b, par => by rw [rowsL, List.length_append, rowsN_len m, rowsL_len l, sizeNL]
end
theorem kidIdx_snoc : ∀ (l : List Node) (b : Nat) (m : Node), kidIdx b (l ++ [m]) = kidIdx b l ++ [((b + sizeNL l : Nat) : Int)]
  | [], b, m => by simp [kidIdx, sizeNL]
  | x :: l, b, m => by
    rw [List.cons_append, kidIdx, kidIdx_snoc l, kidIdx, sizeNL, List.cons_append]
    simp only [Nat.add_assoc]
theorem kidIdx_len : ∀ (l : List Node) (b : Nat), (kidIdx b l).length = l.length
  | [], b => rfl
  | x :: l, b => by rw [kidIdx, List.length_cons, List.length_cons, kidIdx_len l]
theorem kidIdx_get : ∀ (l : List Node) (b i : Nat), i < l.length → (kidIdx b l)[i]? = some ((b + sizeNL (l.take i) : Nat) : Int)
  | [], b, i, h => by simp at h
  | x :: l, b, 0, h => by rw [kidIdx, List.take_zero, sizeNL]; rfl
  | x :: l, b, i + 1, h => by
    rw [kidIdx, List.getElem?_cons_succ, kidIdx_get l _ i (by simpa using h), List.take_succ_cons, sizeNL, Nat.add_assoc]
theorem rowsL_split : ∀ (p : List Node) (q : List Node) (b : Nat) (par : Int), rowsL b par (p ++ q) = rowsL b par p ++ rowsL (b + sizeNL p) par q
  | [], q, b, par => by simp [rowsL, sizeNL]
  | x :: p, q, b, par => by rw [List.cons_append, rowsL, rowsL_split p, rowsL, sizeNL, List.append_assoc, Nat.add_assoc]
theorem set_mid {α : Type} (pre : List α) (x y : α) (l : List α) : (pre ++ x :: l).set pre.length y = pre ++ y :: l := by
  induction pre with
  | nil => rfl
  | cons a p ih => rw [List.cons_append, List.length_cons, List.set_cons_succ, ih]; rfl
mutual
theorem P_rows : ∀ (n : Node) (L : List Row) (par : Int), L.length + sizeN n ≤ 1000000 → F_R6_rows_s1 L n par = some (L ++ rowsN L.length par n)
  | .mk k t g l, L, par, h => by
    rw [sizeN] at h
    rw [E_F_R6_rows_s1, app_ok (by simp; omega) (by simp; omega), bs]
    have := P_rows_l0 l [] (.mk k t g l) L [] par rfl (by rw [sizeNL]; rfl) (by show L.length + 1 + sizeNL l ≤ 1000000; omega)
    rw [kidIdx, List.nil_append, List.length_nil, Nat.add_zero] at this
    rw [rowsN]
    exact this
theorem P_rows_l0 : ∀ (l pre : List Node) (n : Node) (L R : List Row) (par : Int), n.kids = pre ++ l → R.length = sizeNL pre → L.length + 1 + sizeNL n.kids ≤ 1000000 →
    F_R6_rows_s1_l0 (L ++ Row.mk par n.kind n.text n.gaps [] :: R) (L.length : Int) (kidIdx (L.length + 1) pre) (pre.length : Int) n = some (L ++ Row.mk par n.kind n.text n.gaps (kidIdx (L.length + 1) n.kids) :: (R ++ rowsL (L.length + 1 + R.length) (L.length : Int) l))
  | [], pre, n, L, R, par, hk, hR, hb => by
    rw [E_F_R6_rows_s1_l0, len_end hk, ite_ff, ix_pre, bs, Int.toNat_natCast, set_mid, rowsL, List.append_nil, hk, List.append_nil]
  | m :: l, pre, n, L, R, par, hk, hR, hb => by
    have hm := sizeNL_mid hk
    have hp := sizeNL_len pre
    rw [E_F_R6_rows_s1_l0, len_mid hk, ite_tt, app_ok (by rw [kidIdx_len]; simp; omega) (by rw [kidIdx_len]; simp; omega), bs, ix_mid hk, bs]
    have e1 : (L ++ Row.mk par n.kind n.text n.gaps [] :: R).length = L.length + 1 + sizeNL pre := by rw [List.length_append, List.length_cons, hR]; omega
    rw [P_rows m _ _ (by rw [e1]; omega), bs, wrap_len (by omega) m, e1, ← kidIdx_snoc]
    have := P_rows_l0 l (pre ++ [m]) n L (R ++ rowsN (L.length + 1 + sizeNL pre) (L.length : Int) m) par (mid_snoc hk) (by rw [List.length_append, rowsN_len, hR, sizeNL_append, sizeNL, sizeNL]; omega) hb
    rw [List.append_assoc, List.cons_append, this, rowsL, List.length_append, rowsN_len, hR]
    simp only [List.append_assoc, Nat.add_assoc]
end
theorem P_Rows (n : Node) (h : sizeN n ≤ 1000000) : F_R6_Rows n = some (rowsN 0 (-1) n) := by
  rw [E_F_R6_Rows, P_rows n [] (-1) (by simpa using h), bs]; rfl
/-! ### Where a tree lies in the table -/
def At (T : List Row) (b : Nat) (par : Int) (m : Node) : Prop := ∃ pre post, T = pre ++ (rowsN b par m ++ post) ∧ pre.length = b
theorem at_root (n : Node) : At (rowsN 0 (-1) n) 0 (-1) n := ⟨[], [], by simp, rfl⟩
theorem at_row {T : List Row} {b : Nat} {par : Int} {m : Node} (h : At T b par m) : ix T (b : Int) = some (Row.mk par m.kind m.text m.gaps (kidIdx (b + 1) m.kids)) := by
  obtain ⟨pre, post, rfl, rfl⟩ := h
  rw [rowsN_eq, List.cons_append, ix_pre]
theorem at_kid {T : List Row} {b : Nat} {par : Int} {m : Node} (h : At T b par m) {i : Nat} (hi : i < m.kids.length) : At T (b + 1 + sizeNL (m.kids.take i)) (b : Int) (kid m i) := by
  obtain ⟨pre, post, rfl, rfl⟩ := h
  obtain ⟨p, x, q, e, hl, hx⟩ := kids_split hi
  have ek : kid m i = x := by rw [← hl]; exact (kid_pre e).1
  have et : m.kids.take i = p := by rw [← hl]; exact (kid_pre e).2.1
  rw [ek, et]
  refine ⟨pre ++ (Row.mk par m.kind m.text m.gaps (kidIdx (pre.length + 1) m.kids) :: rowsL (pre.length + 1) (pre.length : Int) p), rowsL (pre.length + 1 + sizeNL p + sizeN x) (pre.length : Int) q ++ post, ?_, ?_⟩
  · rw [rowsN_eq, e, rowsL_split, rowsL]
    simp only [List.append_assoc, List.cons_append]
  · rw [List.length_append, List.length_cons, rowsL_len]; omega
theorem at_path {T : List Row} : ∀ (p : List Int) (n m : Node) (b : Nat) (par : Int), At T b par n → getN n p = some m → ∃ (c : Nat) (par' : Int), indexN n p (b : Int) = some (c : Int) ∧ At T c par' m
  | [], n, m, b, par, h, hg => by cases hg; exact ⟨b, par, rfl, h⟩
  | k :: p, n, m, b, par, h, hg => by
    rw [getN] at hg
    split at hg
    · rename_i hk
      obtain ⟨c, par', e, ha⟩ := at_path p _ m _ _ (at_kid h (i := k.toNat) (by omega)) hg
      refine ⟨c, par', ?_, ha⟩
      rw [indexN, if_pos hk, ← e]
      congr 1
    · cases hg
theorem idx_snoc : ∀ (q : List Int) (n m : Node) (a c k : Int), getN n q = some m → indexN n q a = some c → 0 ≤ k → k < (m.kids.length : Int) → indexN n (q ++ [k]) a = some (c + 1 + sizeNL (m.kids.take k.toNat))
  | [], n, m, a, c, k, hg, hi, h0, h1 => by
    cases hg; cases hi
    rw [List.nil_append, indexN, if_pos ⟨h0, h1⟩, indexN]
  | j :: q, n, m, a, c, k, hg, hi, h0, h1 => by
    rw [getN] at hg
    rw [indexN] at hi
    split at hg
    · rename_i hj
      rw [if_pos hj] at hi
      rw [List.cons_append, indexN, if_pos hj]
      exact idx_snoc q _ m _ c k hg hi h0 h1
    · cases hg
/-! ### Index -/
theorem P_RIndex_l0 {T : List Row} : ∀ (r pre p : List Int) (m : Node) (b : Nat) (par : Int), p = pre ++ r → p.length ≤ 9223372036854775807 → At T b par m → F_R10_Index_l0 p T (b : Int) (pre.length : Int) = some (indexE m r (b : Int))
  | [], pre, p, m, b, par, hp, hl, ha => by rw [E_F_R10_Index_l0, len_end hp, ite_ff]; rfl
  | k :: r, pre, p, m, b, par, hp, hl, ha => by
    have hl2 := hl
    rw [hp, List.length_append, List.length_cons] at hl2
    rw [E_F_R10_Index_l0, len_mid hp, ite_tt, ix_mid hp, bs]
    unfold indexE
    rw [indexN]
    by_cases c1 : k < 0
    · rw [decide_eq_true c1, ite_tt, if_neg (by omega)]
    · rw [decide_eq_false c1, ite_ff, bs, at_row ha, bs]
      rw [show (Row.mk par m.kind m.text m.gaps (kidIdx (b + 1) m.kids)).Kids = kidIdx (b + 1) m.kids from rfl, List.length_map, kidIdx_len]
      by_cases c2 : (m.kids.length : Int) ≤ k
      · rw [decide_eq_true c2, ite_tt, if_neg (by omega)]
      · have hk : k.toNat < m.kids.length := by omega
        have hg := kidIdx_get m.kids (b + 1) k.toNat hk
        have hix : ix (kidIdx (b + 1) m.kids) k = some ((b + 1 + sizeNL (m.kids.take k.toNat) : Nat) : Int) := by unfold ix; rw [if_pos (by omega), hg]
        rw [decide_eq_false c2, ite_ff, bs, bs, hix, bs, wrap_len (by omega) k, P_RIndex_l0 r (pre ++ [k]) p _ _ _ (mid_snoc hp) hl (at_kid ha hk), if_pos (by omega)]
        rfl
theorem P_R10_Index (n : Node) (p : List Int) (hs : sizeN n ≤ 1000000) (hl : p.length ≤ 9223372036854775807) : F_R10_Index n p = some (indexE n p 0) := by
  rw [E_F_R10_Index, P_Rows n hs, bs]
  exact P_RIndex_l0 p [] p n 0 (-1) rfl hl (at_root n)
/-! ### Of -/
theorem take_lt : ∀ (l : List Node) (i j : Nat), i < j → j ≤ l.length → sizeNL (l.take i) < sizeNL (l.take j)
  | [], i, j, h, hj => by simp at hj; omega
  | x :: l, i, 0, h, hj => by omega
  | x :: l, 0, j + 1, h, hj => by rw [List.take_zero, List.take_succ_cons, sizeNL, sizeNL]; have := sizeN_pos x; omega
  | x :: l, i + 1, j + 1, h, hj => by
    rw [List.take_succ_cons, List.take_succ_cons, sizeNL, sizeNL]
    have := take_lt l i j (by omega) (by simpa using hj)
    omega
theorem P_ROf_l1 {T : List Row} {m : Node} {b k : Nat} (hk : k < m.kids.length) (hs : m.kids.length ≤ 1000000) (back : List Int) : ∀ (d j : Nat), j + d = k → F_R10_Of_l1 T back ((b + 1 + sizeNL (m.kids.take k) : Nat) : Int) (kidIdx (b + 1) m.kids) (j : Int) = F_R10_Of_l1 T back ((b + 1 + sizeNL (m.kids.take k) : Nat) : Int) (kidIdx (b + 1) m.kids) (k : Int)
  | 0, j, h => by rw [show j = k by omega]
  | d + 1, j, h => by
    rw [E_F_R10_Of_l1, ix_nat, kidIdx_get m.kids (b + 1) j (by omega), bs]
    have := take_lt m.kids j k (by omega) (by omega)
    rw [decide_eq_false (by omega), show (!false) = true from rfl, ite_tt, wrap_id (by omega) (by omega)]
    exact P_ROf_l1 hk hs back d (j + 1) (by omega)
theorem P_ROf_l2 : ∀ (pre suf out : List Int), (pre ++ suf).length ≤ 1000000 → out.length + pre.length ≤ 1000000 → F_R10_Of_l2 (pre ++ suf) out ((pre.length : Int) - 1) = some (out ++ pre.reverse, true) := by
  intro pre
  induction hn : pre.length generalizing pre with
  | zero =>
    intro suf out h1 h2
    have : pre = [] := List.length_eq_zero_iff.1 hn
    subst this
    rw [E_F_R10_Of_l2, decide_eq_false (by simp), ite_ff, List.reverse_nil, List.append_nil]
  | succ d ih =>
    intro suf out h1 h2
    rcases snoc_cases pre with rfl | ⟨q, x, rfl⟩
    · simp at hn
    · rw [List.length_append, List.length_singleton] at hn
      have hq : q.length = d := by omega
      rw [E_F_R10_Of_l2, decide_eq_true (by omega), ite_tt]
      have e1 : (((d + 1 : Nat) : Int) - 1) = (q.length : Int) := by omega
      rw [e1, List.append_assoc, List.singleton_append, ix_pre, bs, app_ok (by simp; omega) (by simp; omega), bs, wrap_id (by omega) (by omega)]
      have := ih q hq (x :: suf) (out ++ [x]) (by simp at h1 ⊢; omega) (by simp; omega)
      rw [hq]
      rw [this, List.reverse_append, List.reverse_singleton, List.append_assoc]
theorem P_ROf_l0 {T : List Row} (n : Node) (hr : At T 0 (-1) n) (hs : sizeN n ≤ 1000000) : ∀ (d : Nat) (p : List Int), p.length = d → ∀ (back : List Int) (m : Node) (b : Int), getN n p = some m → indexN n p 0 = some b → back.length + p.length ≤ 1000000 → F_R10_Of_l0 T back b = F_R10_Of_l2 (back ++ p.reverse) [] (((back ++ p.reverse).length : Int) - 1) := by
  intro d
  induction d with
  | zero =>
    intro p hp back m b hg hi hb
    have : p = [] := List.length_eq_zero_iff.1 hp
    subst this
    cases hi
    rw [E_F_R10_Of_l0, decide_eq_false (by decide), ite_ff, List.reverse_nil, List.append_nil, wrap_id (by omega) (by omega)]
  | succ d ih =>
    intro p hp back m b hg hi hb
    rcases snoc_cases p with rfl | ⟨q, k, rfl⟩
    · simp at hp
    · rw [List.length_append, List.length_singleton] at hp hb
      obtain ⟨m', hm', h0, h1, hx⟩ := getN_up hg
      obtain ⟨c, par', hc, ha⟩ := at_path q n m' 0 (-1) hr hm'
      have hi2 := idx_snoc q n m' 0 c k hm' hc h0 h1
      rw [hi] at hi2
      obtain ⟨i, rfl⟩ := Int.eq_ofNat_of_zero_le h0
      have hil : i < m'.kids.length := by exact_mod_cast h1
      rw [Int.toNat_natCast] at hi2
      obtain rfl : b = ((c + 1 + sizeNL (m'.kids.take i) : Nat) : Int) := by injection hi2 with e
      have hak := at_kid ha hil
      have hsm : sizeN m' ≤ sizeN n := by
        have : ∀ (q : List Int) (n m : Node), getN n q = some m → sizeN m ≤ sizeN n := by
          intro q
          induction q with
          | nil => intro n m h; cases h; exact Nat.le_refl _
          | cons j q ihq =>
            intro n m h
            rw [getN] at h
            split at h
            · rename_i hj
              have e1 := ihq _ _ h
              have e2 := size_kid (kid_mem (n := n) (i := j.toNat) (by omega))
              have e3 := sizeN_eq n
              omega
            · cases h
        exact this q n m' hm'
      have hlen := sizeNL_len m'.kids
      have hse := sizeN_eq m'
      rw [E_F_R10_Of_l0, decide_eq_true (by omega), ite_tt, at_row hak, bs]
      rw [show (Row.mk (c : Int) (kid m' i).kind (kid m' i).text (kid m' i).gaps (kidIdx (c + 1 + sizeNL (m'.kids.take i) + 1) (kid m' i).kids)).Parent = (c : Int) from rfl, at_row ha, bs]
      rw [show (Row.mk par' m'.kind m'.text m'.gaps (kidIdx (c + 1) m'.kids)).Kids = kidIdx (c + 1) m'.kids from rfl]
      have hsearch := P_ROf_l1 (T := T) (b := c) hil (by omega) back i 0 (by omega)
      rw [show ((0 : Int)) = ((0 : Nat) : Int) from rfl, hsearch, E_F_R10_Of_l1, ix_nat, kidIdx_get m'.kids (c + 1) i hil, bs, decide_eq_true rfl, show (!true) = false from rfl, ite_ff, app_ok (by simp; omega) (by simp; omega), bs, at_row hak, bs]
      have := ih q (by omega) (back ++ [(i : Int)]) m' (c : Int) hm' hc (by simp; omega)
      rw [this, List.reverse_append, List.reverse_singleton, List.append_assoc]
theorem P_R10_Of (n : Node) (hs : sizeN n ≤ 1000000) (i : Int) : F_R10_Of n i = some (if 0 ≤ i ∧ i < sizeN n then ((ofL n i.toNat).map Int.ofNat, true) else ([], false)) := by
  rw [E_F_R10_Of, P_Rows n hs, bs, List.length_map, rowsN_len]
  by_cases c0 : i < 0
  · rw [decide_eq_true c0, ite_tt, if_neg (by omega)]
  · rw [decide_eq_false c0, ite_ff]
    by_cases c1 : (sizeN n : Int) ≤ i
    · rw [decide_eq_true c1, ite_tt, if_neg (by omega)]
    · rw [decide_eq_false c1, ite_ff, if_pos (by omega)]
      have sp := of_spec n i.toNat (by omega)
      have hi := sp.2 0
      rw [show (0 : Int) + (i.toNat : Int) = i by omega] at hi
      have hl : ((ofL n i.toNat).map Int.ofNat).length ≤ 1000000 := by
        have : ∀ (p : List Int) (n m : Node), getN n p = some m → p.length < sizeN n := by
          intro p
          induction p with
          | nil => intro n m _; exact sizeN_pos n
          | cons j q ih =>
            intro n m h
            rw [getN] at h
            split at h
            · rename_i hj
              have e1 := ih _ _ h
              have e2 := size_kid (kid_mem (n := n) (i := j.toNat) (by omega))
              have e3 := sizeN_eq n
              rw [List.length_cons]; omega
            · cases h
        have := this _ _ _ sp.1
        omega
      rw [P_ROf_l0 n (at_root n) hs _ _ rfl [] _ i sp.1 hi (by simpa using hl), List.nil_append]
      have := P_ROf_l2 ((ofL n i.toNat).map Int.ofNat).reverse [] [] (by simpa using hl) (by simpa using hl)
      rw [List.append_nil, List.nil_append, List.reverse_reverse] at this
      exact this
theorem P_Ints_l0 (a : List Int) (hl : a.length ≤ 9223372036854775807) : ∀ (l pre : List Int), a = pre ++ l → F_R3_Ints_l0 a a (pre.length : Int) = some true
  | [], pre, h => by rw [E_F_R3_Ints_l0, len_end h, ite_ff]
  | x :: l, pre, h => by
    have hl2 := hl
    rw [h, List.length_append, List.length_cons] at hl2
    rw [E_F_R3_Ints_l0, len_mid h, ite_tt, ix_mid h, bs, bs, decide_eq_true rfl, show (!true) = false from rfl, ite_ff, wrap_len (by omega) x]
    exact P_Ints_l0 a hl l (pre ++ [x]) (mid_snoc h)
theorem P_Ints_self (a : List Int) (hl : a.length ≤ 9223372036854775807) : F_R3_Ints a a = some true := by
  rw [E_F_R3_Ints, decide_eq_true rfl, show (!true) = false from rfl, ite_ff]
  exact P_Ints_l0 a hl a [] rfl
theorem P_PathFinds (n : Node) (i : Int) (p : List Int) (z : Sz n) (hi : i ≤ 9223372036854775807) (hp : p.length ≤ 9223372036854775807) : F_L10_PathFinds n i p = some true := by
  obtain ⟨b, hb, hsz⟩ := P_small n
  rw [E_F_L10_PathFinds, hb, bs]
  cases b with
  | false => rw [bnot_tt]; exact awk
  | true =>
    have hs := hsz rfl
    rw [bnot_ff, P_path_Of n (by omega) i hi, bs, P_R10_Of n (by omega) i, bs, P_path_Index n p (by omega), bs, P_R10_Index n p (by omega) hp, bs, P_path_Get n p z (by omega), bs, P_R10_Get n p hp, bs]
    have hl : ((if 0 ≤ i ∧ i < (sizeN n : Int) then ((ofL n i.toNat).map Int.ofNat, true) else ([], false)) : List Int × Bool).1.length ≤ 9223372036854775807 := by
      split
      · rename_i h
        have sp := (of_spec n i.toNat (by omega)).1
        have : ∀ (p : List Int) (n m : Node), getN n p = some m → p.length < sizeN n := by
          intro p
          induction p with
          | nil => intro n m _; exact sizeN_pos n
          | cons j q ih =>
            intro n m h
            rw [getN] at h
            split at h
            · rename_i hj
              have e1 := ih _ _ h
              have e2 := size_kid (kid_mem (n := n) (i := j.toNat) (by omega))
              have e3 := sizeN_eq n
              rw [List.length_cons]; omega
            · cases h
        have := this _ _ _ sp
        show ((ofL n i.toNat).map Int.ofNat).length ≤ _
        omega
      · simp
    rw [P_Ints_self _ hl, bs, ite_tt]
    simp only [BEq.rfl, decide_true, ite_tt]
    have hE : F_R6_Equal (getE n p).1 (getE n p).1 = some true := by
      unfold getE
      split
      · rename_i m hm
        have := get_sz p n m hm z
        show F_R6_Equal m m = some true
        exact eq_self this.1 (by omega)
      · exact eq_self sz_zero size_zeroN
    rw [hE, bs, ite_tt]
    exact awk
theorem L10_PathFinds (n0 : Node) (z0 : Sz n0) (i1 : Int) (w1 : (Lit.int .i64 i1).wf = true) (p2 : List Int) (w2 : p2.length ≤ maxLen ∧ ∀ a ∈ p2, (Lit.int .i64 a).wf = true) : M_F_L10_PathFinds n0 i1 p2 true :=
  H_F_L10_PathFinds n0 i1 p2 true (P_PathFinds n0 i1 p2 z0 (by
    simp only [Lit.wf, IntKind.min, IntKind.max, IntKind.signed, IntKind.bits, Bool.and_eq_true, decide_eq_true_eq, if_true] at w1
    omega) w2.1)
section
open Go.RowKit Go.Proofs.YtimdjillcaichaaDoor
theorem shape_of_var {P : Program} {W : World} {nm : String} {g : Nat} {vs : Array Value} (hg : P.globalNamed nm = some g) (hv : W.var? P nm = some vs) : ∃ e, W.shape? g = some (e, vs.size) := by
  unfold World.var? at hv
  rw [hg, Option.bind_some] at hv
  cases hb : W.heap[g]? with
  | none => rw [hb] at hv; cases hv
  | some o =>
    rw [hb] at hv
    cases o with
    | cells c t fr =>
      simp only [Option.some.injEq] at hv
      subst hv
      refine ⟨t, ?_⟩
      unfold World.shape?
      rw [hb]
    | _ => cases hv
theorem glaidV {W : World} (hL : laidMetH Tryd.prog [("treemerge/grammar.shapes", Rows.laid_treemerge_grammar_shapes)] W) : ∀ g β n, GV W (· < W.heap.size) β n g (G g) := by
  intro g β n
  refine ⟨glaid hL g β n, fun hne => ?_⟩
  unfold G at hne ⊢
  split
  · rename_i hg
    subst hg
    rw [MakeChecks.laidMetH_plain _ _ _ (by kernel_rfl)] at hL
    obtain ⟨ps, ⟨g0, t0, cs0, f0, p0, q0, hg0, ht0, hv0, hd0, _, _⟩, _, _⟩ := hL
    obtain rfl := Option.some.inj (globS.symm.trans hg0)
    obtain rfl := Option.some.inj (gtypeS.symm.trans ht0)
    obtain ⟨e, he⟩ := shape_of_var globS hv0
    obtain ⟨xs, m, _, _, hl, _, _⟩ := DataW.trod_array Tryd.underlying102 hd0
    refine ⟨e, ?_⟩
    rw [he]
    rw [Array.length_toList] at hl
    rw [hl]
    congr 2
  · rename_i hg
    rw [if_neg hg] at hne
    exact absurd rfl hne
end
end Go.Proofs.YtimdjillcaichaaDoorW.Ex.Gr
