/- What the printed functions of paths and of equality return, in plain words. Conditions: those in each theorem. -/
import Derived.Test.YtimdjillcaichaaDoorRa
import Derived.Test.YtimdjillcaichaaDoorPf
namespace Go.Proofs.YtimdjillcaichaaDoorW.Ex.Gr
open Go Go.Proofs.YtimdjillcaichaaDoorW.Ex
set_option linter.all false
set_option maxRecDepth 100000
/-! ### Paths of indexes -/
theorem kids_split {l : List Node} {k : Nat} (h : k < l.length) : ∃ pre m post, l = pre ++ m :: post ∧ pre.length = k ∧ m = l[k] := ⟨l.take k, l[k], l.drop (k + 1), by rw [← List.drop_eq_getElem_cons h, List.take_append_drop], by rw [List.length_take]; omega, rfl⟩
/-- The place of the kid in which an index lies: its number, and the index in it. -/
def place : List Node → Nat → Nat → Option (Nat × Nat)
  | [], _, _ => none
  | m :: l, i, k => if i < sizeN m then some (k, i) else place l (i - sizeN m) (k + 1)
theorem P_Of_l1 : ∀ (l pre : List Node) (n : Node) (i : Nat) (p : List Int), n.kids = pre ++ l → sizeNL n.kids ≤ 1000000 → i ≤ 9223372036854775807 →
    (∀ k j, place l i pre.length = some (k, j) → F_path_Of_l1 i p (pre.length : Int) n = F_path_Of_b2 j p k n) ∧ (place l i pre.length = none → F_path_Of_l1 i p (pre.length : Int) n = some ([], false))
  | [], pre, n, i, p, hk, hb, hi => by
    rw [E_F_path_Of_l1, len_end hk, ite_ff]
    refine ⟨fun k j h => (by cases h), fun _ => ?_⟩
    rw [E_F_path_Of_b2, hk, List.append_nil, List.length_map, decide_eq_true rfl, ite_tt]
  | m :: l, pre, n, i, p, hk, hb, hi => by
    have hm := sizeNL_mid hk
    have hp := sizeNL_len pre
    rw [E_F_path_Of_l1, len_mid hk, ite_tt, ix_mid hk, bs, P_tree_Size m (by omega), bs, place]
    by_cases c : i < sizeN m
    · rw [decide_eq_true (show (i : Int) < sizeN m by omega), ite_tt, if_pos c]
      exact ⟨fun k j h => by cases h; rfl, fun h => by cases h⟩
    · rw [decide_eq_false (show ¬ (i : Int) < sizeN m by omega), ite_ff, if_neg c, wrap_id (by omega) (by omega), wrap_len (by omega) m]
      have := P_Of_l1 l (pre ++ [m]) n (i - sizeN m) p (mid_snoc hk) hb (by omega)
      rw [show (((i - sizeN m : Nat)) : Int) = (i : Int) - sizeN m by omega] at this
      rw [show (pre ++ [m]).length = pre.length + 1 by simp] at this
      rw [show (pre ++ [m]).length = pre.length + 1 by simp]
      exact this
theorem place_spec : ∀ (l : List Node) (i k q j : Nat), place l i k = some (q, j) → ofK l i k = q :: ofL (l.getD (q - k) nodeD) j ∧ k ≤ q ∧ q - k < l.length ∧ j < sizeN (l.getD (q - k) nodeD)
  | [], _, _, _, _, h => by cases h
  | m :: l, i, k, q, j, h => by
    rw [place] at h
    rw [ofK]
    split at h
    · rename_i c
      cases h
      rw [if_pos c, Nat.sub_self]
      exact ⟨rfl, Nat.le_refl _, by simp, c⟩
    · rename_i c
      obtain ⟨h1, h2, h3, h4⟩ := place_spec l _ _ q j h
      rw [if_neg c, h1]
      have e : q - k = (q - (k + 1)) + 1 := by omega
      rw [e, List.getD_cons_succ]
      exact ⟨rfl, by omega, by rw [List.length_cons]; omega, h4⟩
theorem place_none : ∀ (l : List Node) (i k : Nat), (place l i k = none) ↔ sizeNL l ≤ i
  | [], i, k => by simp [place, sizeNL]
  | m :: l, i, k => by
    rw [place, sizeNL]
    split
    · simp; omega
    · rw [place_none l]; omega
theorem P_Of_l0 (n : Node) : sizeN n ≤ 1000000 → ∀ (i : Nat) (p : List Int), i ≤ 9223372036854775807 → p.length + sizeN n ≤ 2000000 →
    F_path_Of_l0 i p n = some (if i < sizeN n then (p ++ (ofL n i).map Int.ofNat, true) else ([], false)) := by
  intro hs i p hi hp
  induction hd : sizeN n using Nat.strongRecOn generalizing n i p with
  | _ s ih =>
    subst hd
    rw [E_F_path_Of_l0]
    by_cases c : i = 0
    · subst c
      have hpos := sizeN_pos n
      have e : ofL n 0 = [] := by rw [ofL_eq]; rfl
      rw [if_pos hpos, e, List.map_nil, List.append_nil]
      rfl
    · rw [decide_eq_true (show (0 : Int) < (i : Int) by omega), ite_tt, wrap_id (by omega) (by omega), show ((i : Int) - 1) = ((i - 1 : Nat) : Int) by omega]
      have hsz := sizeN_eq n
      obtain ⟨h1, h2⟩ := P_Of_l1 n.kids [] n (i - 1) p rfl (by omega) (by omega)
      have z0 : ((0 : Int)) = ((([] : List Node).length : Nat) : Int) := rfl
      rw [z0]
      cases hpl : place n.kids (i - 1) ([] : List Node).length with
      | none =>
        rw [h2 hpl]
        have := (place_none _ _ _).1 hpl
        rw [if_neg (by omega)]
      | some x =>
        obtain ⟨q, j⟩ := x
        rw [h1 q j hpl]
        obtain ⟨e1, e2, e3, e4⟩ := place_spec _ _ _ _ _ hpl
        simp only [List.length_nil, Nat.sub_zero] at e1 e2 e3 e4 hpl
        have hlt : ¬ sizeNL n.kids ≤ i - 1 := fun hh => by rw [(place_none _ _ _).2 hh] at hpl; cases hpl
        rw [if_pos (by omega), ofL_eq, if_neg c, e1, E_F_path_Of_b2, List.length_map, decide_eq_false (show ¬ ((q : Nat) : Int) = (n.kids.length : Int) by omega), ite_ff]
        have hpl2 := sizeNL_len n.kids
        rw [app_ok (by simp; omega) (by simp; omega), bs, ix_kid (by omega) (by omega), bs]
        have hkm := kid_mem (n := n) e3
        have hks := size_kid hkm
        have hkk : kid n ((q : Nat) : Int).toNat = n.kids.getD q nodeD := rfl
        have hkk2 : kid n q = n.kids.getD q nodeD := rfl
        rw [hkk2] at hks
        rw [hkk, ih _ (by omega) _ (by omega) j (p ++ [(q : Int)]) (by omega) (by rw [List.length_append, List.length_singleton]; omega) rfl, if_pos e4, List.map_cons, List.append_assoc]
        rfl
theorem P_path_Of (n : Node) (hs : sizeN n ≤ 1000000) (i : Int) (hi : i ≤ 9223372036854775807) : F_path_Of n i = some (if 0 ≤ i ∧ i < sizeN n then ((ofL n i.toNat).map Int.ofNat, true) else ([], false)) := by
  rw [E_F_path_Of]
  by_cases c : i < 0
  · rw [decide_eq_true c, ite_tt, if_neg (by omega)]
  · obtain ⟨j, rfl⟩ := Int.eq_ofNat_of_zero_le (show 0 ≤ i by omega)
    rw [decide_eq_false c, ite_ff, P_Of_l0 n hs j [] (by omega) (by simp; omega), List.nil_append, Int.toNat_natCast]
    by_cases c2 : j < sizeN n
    · rw [if_pos c2, if_pos (by omega)]
    · rw [if_neg c2, if_neg (by omega)]
/-! ### Indexes of paths -/
theorem P_Index_l1 : ∀ (l : List Node) (p : List Int) (a k : Int) (n : Node), 0 ≤ k → k < (n.kids.length : Int) → 0 ≤ a → a + sizeNL l ≤ 9223372036854775807 → sizeNL l ≤ 1000000 → F_path_Index_l1 p l a k n = F_path_Index_l0 p (a + sizeNL l) (kid n k.toNat)
  | [], p, a, k, n, h0, h1, _, _, _ => by rw [E_F_path_Index_l1]; simp only; rw [ix_kid h0 h1, bs]; simp [sizeNL]
  | m :: l, p, a, k, n, h0, h1, ha, hb, hs => by
    rw [E_F_path_Index_l1]
    simp only
    rw [sizeNL] at hb hs ⊢
    rw [P_tree_Size m (by omega), bs, wrap_id (by omega) (by omega), P_Index_l1 l p _ k n h0 h1 (by omega) (by omega) (by omega)]
    congr 1; omega
theorem take_le : ∀ (l : List Node) (k : Nat), sizeNL (l.take k) ≤ sizeNL l
  | [], k => by simp
  | m :: l, 0 => by simp [sizeNL]
  | m :: l, k + 1 => by rw [List.take_succ_cons, sizeNL, sizeNL]; have := take_le l k; omega
theorem take_kid : ∀ (l : List Node) (k : Nat), k < l.length → sizeNL (l.take k) + sizeN (l.getD k nodeD) ≤ sizeNL l
  | [], k, h => by simp at h
  | m :: l, 0, h => by simp [sizeNL]
  | m :: l, k + 1, h => by rw [List.take_succ_cons, sizeNL, sizeNL, List.getD_cons_succ]; have := take_kid l k (by simpa using h); omega
def indexE (n : Node) (p : List Int) (a : Int) : Int × Bool := match indexN n p a with | some i => (i, true) | none => (0, false)
theorem P_Index_l0 : ∀ (p : List Int) (n : Node) (a : Int), 0 ≤ a → a + sizeN n ≤ 9000000 → sizeN n ≤ 1000000 → F_path_Index_l0 p a n = some (indexE n p a)
  | [], n, a, _, _, _ => by rw [E_F_path_Index_l0]; rfl
  | k :: p, n, a, h0, h1, hs => by
    rw [E_F_path_Index_l0]
    simp only
    unfold indexE
    rw [indexN, List.length_map]
    by_cases c1 : k < 0
    · rw [decide_eq_true c1, ite_tt, if_neg (by omega)]
    · rw [decide_eq_false c1, ite_ff]
      by_cases c2 : (n.kids.length : Int) ≤ k
      · rw [decide_eq_true c2, ite_tt, if_neg (by omega)]
      · rw [decide_eq_false c2, ite_ff, if_pos (by omega)]
        have e : lsub n.kids 0 k = some (n.kids.take k.toNat) := by unfold lsub; rw [if_pos ⟨by omega, by omega, by omega⟩]; rfl
        have hsz := sizeN_eq n
        have ht := take_kid n.kids k.toNat (by omega)
        rw [e, bs, wrap_id (by omega) (by omega), P_Index_l1 _ p (a + 1) k n (by omega) (by omega) (by omega) (by omega) (by omega)]
        exact P_Index_l0 p _ _ (by omega) (by show _ + ((sizeN (n.kids.getD k.toNat nodeD) : Nat) : Int) ≤ _; omega) (by show sizeN (n.kids.getD k.toNat nodeD) ≤ _; omega)
theorem P_path_Index (n : Node) (p : List Int) (hs : sizeN n ≤ 1000000) : F_path_Index n p = some (indexE n p 0) := by
  rw [E_F_path_Index, P_Index_l0 p n 0 (by omega) (by omega) hs]
/-! ### The node of an index -/
mutual
theorem P_R6_find : ∀ (n : Node) (i : Nat), sizeN n ≤ 1000000 → i ≤ 9223372036854775807 → F_R6_find n i = some (if i < sizeN n then (nodeAt n i, 0, true) else (zeroN, ((i - sizeN n : Nat) : Int), false))
  | .mk k t g l, i, hs, hi => by
    rw [E_F_R6_find]
    rw [sizeN] at hs ⊢
    rw [nodeAt]
    by_cases c : i = 0
    · subst c
      rw [decide_eq_true (show ((0 : Nat) : Int) = 0 from rfl), ite_tt, if_pos (by omega), if_pos rfl]
    · rw [decide_eq_false (show ¬ (i : Int) = 0 by omega), ite_ff, wrap_id (by omega) (by omega), show ((i : Int) - 1) = ((i - 1 : Nat) : Int) by omega, if_neg c]
      have h0 : F_R6_find_l0 ((i - 1 : Nat) : Int) 0 (.mk k t g l) = _ := P_R6_find_l0 l [] (.mk k t g l) (i - 1) rfl (show sizeNL l ≤ 1000000 by omega) (by omega)
      rw [h0]
      by_cases c2 : i - 1 < sizeNL l
      · rw [if_pos c2, if_pos (by omega)]
      · rw [if_neg c2, if_neg (by omega)]
        congr 3; omega
theorem P_R6_find_l0 : ∀ (l pre : List Node) (n : Node) (i : Nat), n.kids = pre ++ l → sizeNL n.kids ≤ 1000000 → i ≤ 9223372036854775807 → F_R6_find_l0 i (pre.length : Int) n = some (if i < sizeNL l then (nodeAtL l i, 0, true) else (zeroN, ((i - sizeNL l : Nat) : Int), false))
  | [], pre, n, i, hk, hb, hi => by
    rw [E_F_R6_find_l0, len_end hk, ite_ff]
    simp [sizeNL]
  | m :: l, pre, n, i, hk, hb, hi => by
    have hm := sizeNL_mid hk
    have hp := sizeNL_len pre
    rw [E_F_R6_find_l0, len_mid hk, ite_tt, ix_mid hk, bs, P_R6_find m i (by omega) hi, bs, sizeNL, nodeAtL]
    by_cases c : i < sizeN m
    · simp only [if_pos c, if_pos (show i < sizeN m + sizeNL l by omega), if_true]
    · simp only [if_neg c, ite_ff]
      rw [wrap_len (by omega) m, P_R6_find_l0 l (pre ++ [m]) n (i - sizeN m) (mid_snoc hk) hb (by omega)]
      by_cases c2 : i - sizeN m < sizeNL l
      · rw [if_pos c2, if_pos (by omega)]
      · rw [if_neg c2, if_neg (by omega)]
        congr 3; omega
end
theorem P_R6_At (n : Node) (i : Nat) (hs : sizeN n ≤ 1000000) (hi : i ≤ 9223372036854775807) : F_R6_At n i = some (if i < sizeN n then (nodeAt n i, true) else (zeroN, false)) := by
  rw [E_F_R6_At, decide_eq_false (show ¬ (i : Int) < 0 by omega), ite_ff, P_R6_find n i hs hi, bs]
  by_cases c : i < sizeN n
  · rw [if_pos c, if_pos c]
  · rw [if_neg c, if_neg c]
/-! ### Equality -/
theorem P_R3_Strings_l0 : ∀ (l l' pre pre' a b : List ByteArray), a = pre ++ l → b = pre' ++ l' → pre.length = pre'.length → l.length = l'.length → a.length ≤ 9223372036854775807 → F_R3_Strings_l0 a b (pre.length : Int) = some (decide (l = l'))
  | [], [], pre, pre', a, b, ha, hb, hp, hl, hm => by
    rw [E_F_R3_Strings_l0, len_end ha, ite_ff]; rfl
  | [], _ :: _, _, _, _, _, _, _, _, h, _ => by cases h
  | _ :: _, [], _, _, _, _, _, _, _, h, _ => by cases h
  | x :: l, y :: l', pre, pre', a, b, ha, hb, hp, hl, hm => by
    have hm2 := hm
    rw [ha, List.length_append, List.length_cons] at hm2
    rw [E_F_R3_Strings_l0, len_mid ha, ite_tt, ix_mid ha, bs, hp, ix_mid hb, bs, ← hp]
    by_cases c : x = y
    · subst c
      rw [decide_eq_true rfl, Bool.not_true, ite_ff, wrap_len (by omega) x, P_R3_Strings_l0 l l' (pre ++ [x]) (pre' ++ [x]) a b (mid_snoc ha) (mid_snoc hb) (by simp [hp]) (by simpa using hl) hm]
      simp
    · rw [decide_eq_false c, Bool.not_false, ite_tt]
      simp [c]
theorem P_R3_Strings (a b : List ByteArray) (hm : a.length ≤ 9223372036854775807) : F_R3_Strings a b = some (decide (a = b)) := by
  rw [E_F_R3_Strings, List.length_map, List.length_map]
  by_cases c : a.length = b.length
  · rw [decide_eq_true (show (a.length : Int) = b.length by omega), Bool.not_true, ite_ff]
    exact P_R3_Strings_l0 a b [] [] a b rfl rfl rfl c hm
  · rw [decide_eq_false (show ¬ (a.length : Int) = b.length by omega), Bool.not_false, ite_tt]
    congr 1
    exact (decide_eq_false (fun e => c (by rw [e]))).symm
mutual
theorem P_R6_Equal : ∀ (a b : Node), Sz a → sizeN a ≤ 1000000 → F_R6_Equal a b = some (eqN a b)
  | .mk k t g l, b, z, hs => by
    have hg : g.length ≤ 9223372036854775807 := by cases z with | mk _ hg _ _ _ => have hg' : g.length * 16 ≤ 140737488355328 := hg; omega
    rw [sizeN] at hs
    rw [E_F_R6_Equal, eqN_eq]
    show (if (!decide (k = b.kind)) = true then some false else if (!decide (t = b.text)) = true then some false else F_R3_Strings g b.gaps >>= fun x1 => if (!x1) = true then some false else
      if (!decide (((l.map Node.cells).length : Int) = ((b.kids.map Node.cells).length : Int))) = true then some false else F_R6_Equal_l0 0 (.mk k t g l) b) = some (decide (k = b.kind) && (decide (t = b.text) && (decide (g = b.gaps) && eqNL l b.kids)))
    rw [P_R3_Strings g b.gaps hg, bs]
    cases decide (k = b.kind) with
    | false => rfl
    | true =>
    cases decide (t = b.text) with
    | false => rfl
    | true =>
    cases decide (g = b.gaps) with
    | false => rfl
    | true =>
    simp only [Bool.not_true, ite_ff, Bool.true_and, List.length_map]
    by_cases c : l.length = b.kids.length
    · rw [decide_eq_true (show (l.length : Int) = b.kids.length by omega), Bool.not_true, ite_ff]
      have hz : ∀ m ∈ l, Sz m := fun m hm => z.kid hm
      exact P_R6_Equal_l0 l b.kids [] [] (.mk k t g l) b rfl rfl rfl c hz (show sizeNL l ≤ 1000000 by omega)
    · rw [decide_eq_false (show ¬ (l.length : Int) = b.kids.length by omega), Bool.not_false, ite_tt]
      congr 1
      cases e : eqNL l b.kids with
      | false => rfl
      | true => exact absurd (eqNL_len _ _ e) c
theorem P_R6_Equal_l0 : ∀ (l l' pre pre' : List Node) (a b : Node), a.kids = pre ++ l → b.kids = pre' ++ l' → pre.length = pre'.length → l.length = l'.length → (∀ m ∈ l, Sz m) → sizeNL a.kids ≤ 1000000 → F_R6_Equal_l0 (pre.length : Int) a b = some (eqNL l l')
  | [], [], pre, pre', a, b, ha, hb, hp, hl, _, hm => by
    rw [E_F_R6_Equal_l0, len_end ha, ite_ff]; rfl
  | [], _ :: _, _, _, _, _, _, _, _, h, _, _ => by cases h
  | _ :: _, [], _, _, _, _, _, _, _, h, _, _ => by cases h
  | x :: l, y :: l', pre, pre', a, b, ha, hb, hp, hl, hz, hm => by
    have h1 := sizeNL_mid ha
    have h2 := sizeNL_len pre
    rw [E_F_R6_Equal_l0, len_mid ha, ite_tt, ix_mid ha, bs, hp, ix_mid hb, bs, ← hp, P_R6_Equal x y (hz x (List.mem_cons_self ..)) (by omega), bs, eqNL]
    cases eqN x y with
    | false => rfl
    | true =>
      rw [Bool.not_true, ite_ff, wrap_len (by omega) x, Bool.true_and]
      exact P_R6_Equal_l0 l l' (pre ++ [x]) (pre' ++ [y]) a b (mid_snoc ha) (mid_snoc hb) (by simp [hp]) (by simpa using hl) (fun m hm => hz m (List.mem_cons_of_mem _ hm)) hm
end
mutual
/-- The same tree, but for the gaps. -/
def sameN : Node → Node → Bool
  | .mk k t _ l, .mk k' t' _ l' => decide (k = k') && (decide (t = t') && sameNL l l')
def sameNL : List Node → List Node → Bool
  | [], [] => true
  | a :: l, b :: l' => sameN a b && sameNL l l'
  | [], _ :: _ => false
  | _ :: _, [] => false
end
theorem sameN_eq (n m : Node) : sameN n m = (decide (n.kind = m.kind) && (decide (n.text = m.text) && sameNL n.kids m.kids)) := by
  cases n; cases m; rw [sameN]; rfl
theorem sameNL_len : ∀ (l l' : List Node), sameNL l l' = true → l.length = l'.length
  | [], [], _ => rfl
  | a :: l, b :: l', h => by
    simp only [sameNL, Bool.and_eq_true] at h
    rw [List.length_cons, List.length_cons, sameNL_len l l' h.2]
  | [], _ :: _, h => by cases h
  | _ :: _, [], h => by cases h
mutual
theorem P_R6_Same : ∀ (a b : Node), sizeN a ≤ 1000000 → F_R6_Same a b = some (sameN a b)
  | .mk k t g l, b, hs => by
    rw [sizeN] at hs
    rw [E_F_R6_Same, sameN_eq]
    show (if (!decide (k = b.kind)) = true then some false else if (!decide (t = b.text)) = true then some false else
      if (!decide (((l.map Node.cells).length : Int) = ((b.kids.map Node.cells).length : Int))) = true then some false else F_R6_Same_l0 0 (.mk k t g l) b) = some (decide (k = b.kind) && (decide (t = b.text) && sameNL l b.kids))
    cases decide (k = b.kind) with
    | false => rfl
    | true =>
    cases decide (t = b.text) with
    | false => rfl
    | true =>
    simp only [Bool.not_true, ite_ff, Bool.true_and, List.length_map]
    by_cases c : l.length = b.kids.length
    · rw [decide_eq_true (show (l.length : Int) = b.kids.length by omega), Bool.not_true, ite_ff]
      exact P_R6_Same_l0 l b.kids [] [] (.mk k t g l) b rfl rfl rfl c (show sizeNL l ≤ 1000000 by omega)
    · rw [decide_eq_false (show ¬ (l.length : Int) = b.kids.length by omega), Bool.not_false, ite_tt]
      congr 1
      cases e : sameNL l b.kids with
      | false => rfl
      | true => exact absurd (sameNL_len _ _ e) c
theorem P_R6_Same_l0 : ∀ (l l' pre pre' : List Node) (a b : Node), a.kids = pre ++ l → b.kids = pre' ++ l' → pre.length = pre'.length → l.length = l'.length → sizeNL a.kids ≤ 1000000 → F_R6_Same_l0 (pre.length : Int) a b = some (sameNL l l')
  | [], [], pre, pre', a, b, ha, hb, hp, hl, hm => by
    rw [E_F_R6_Same_l0, len_end ha, ite_ff]; rfl
  | [], _ :: _, _, _, _, _, _, _, _, h, _ => by cases h
  | _ :: _, [], _, _, _, _, _, _, _, h, _ => by cases h
  | x :: l, y :: l', pre, pre', a, b, ha, hb, hp, hl, hm => by
    have h1 := sizeNL_mid ha
    have h2 := sizeNL_len pre
    rw [E_F_R6_Same_l0, len_mid ha, ite_tt, ix_mid ha, bs, hp, ix_mid hb, bs, ← hp, P_R6_Same x y (by omega), bs, sameNL]
    cases sameN x y with
    | false => rfl
    | true =>
      rw [Bool.not_true, ite_ff, wrap_len (by omega) x, Bool.true_and]
      exact P_R6_Same_l0 l l' (pre ++ [x]) (pre' ++ [y]) a b (mid_snoc ha) (mid_snoc hb) (by simp [hp]) (by simpa using hl) hm
end
end Go.Proofs.YtimdjillcaichaaDoorW.Ex.Gr
