/- Trees with another node at a path: plain facts. Conditions: those in each theorem. -/
import Derived.Test.YtimdjillcaichaaDoorRe
namespace Go.Proofs.YtimdjillcaichaaDoorW.Ex.Gr
open Go Go.Proofs.YtimdjillcaichaaDoorW.Ex
set_option linter.all false
set_option maxRecDepth 100000
theorem eq_self {a : Node} (z : Sz a) (h : sizeN a ≤ 1000000) : F_R6_Equal a a = some true := by rw [P_R6_Equal a a z h, eqN_refl]
theorem get_len : ∀ (p : List Int) (n m : Node), getN n p = some m → p.length + sizeN m ≤ sizeN n
  | [], n, m, h => by cases h; simp
  | k :: p, n, m, h => by
    rw [getN] at h
    split at h
    · rename_i hc
      have := get_len p _ m h
      have := size_kid (kid_mem (n := n) (i := k.toNat) (by omega))
      rw [sizeN_eq n, List.length_cons]; omega
    · cases h
theorem take_mid {l : List Node} {k : Nat} (h : k < l.length) (y : Node) : (l.take k ++ [y] ++ l.drop (k + 1)).length = l.length := by
  simp only [List.length_append, List.length_take, List.length_drop, List.length_singleton]; omega
theorem kid_mid {n : Node} {k i : Nat} (h : k < n.kids.length) (y : Node) (n' : Node) (hn : n'.kids = n.kids.take k ++ [y] ++ n.kids.drop (k + 1)) : kid n' i = if i = k then y else kid n i := by
  unfold kid
  rw [hn]
  simp only [List.getD_eq_getElem?_getD]
  have hl : (n.kids.take k).length = k := by rw [List.length_take]; omega
  by_cases c : i = k
  · subst c
    rw [if_pos rfl, List.append_assoc, List.getElem?_append_right (by omega), hl, Nat.sub_self]; rfl
  · rw [if_neg c]
    congr 1
    by_cases c2 : i < k
    · rw [List.append_assoc, List.getElem?_append_left (by omega), List.getElem?_take, if_pos c2]
    · rw [List.getElem?_append_right (by rw [List.length_append, hl, List.length_singleton]; omega), List.length_append, hl, List.length_singleton, List.getElem?_drop]
      congr 1; omega
theorem get_modP : ∀ (p : List Int) (n m : Node) (f : Node → Node), getN n p = some m → getN (modP n p f) p = some (f m)
  | [], n, m, f, h => by cases h; rfl
  | k :: p, n, m, f, h => by
    rw [getN] at h
    split at h
    · rename_i hc
      have hk : k.toNat < n.kids.length := by omega
      rw [modP, getN]
      have hl := take_mid hk (modP (kid n k.toNat) p f)
      rw [if_pos ⟨hc.1, by show k < (((n.kids.take k.toNat ++ [modP (kid n k.toNat) p f] ++ n.kids.drop (k.toNat + 1)).length : Nat) : Int); rw [hl]; exact hc.2⟩, kid_mid hk _ _ rfl, if_pos rfl]
      exact get_modP p _ m f h
    · cases h
/-- Does the first path begin with the second one? -/
def beg : List Int → List Int → Bool
  | _, [] => true
  | [], _ :: _ => false
  | a :: p, b :: q => decide (a = b) && beg p q
theorem get_other : ∀ (p r : List Int) (n m : Node) (f : Node → Node), getN n p = some m → beg p r = false → beg r p = false → getN (modP n p f) r = getN n r
  | _, [], n, m, f, h, h1, h2 => by rw [beg] at h1; cases h1
  | [], _ :: _, n, m, f, h, h1, h2 => by rw [beg] at h2; cases h2
  | k :: p, j :: r, n, m, f, h, h1, h2 => by
    rw [getN] at h
    split at h
    · rename_i hc
      have hk : k.toNat < n.kids.length := by omega
      have hl := take_mid hk (modP (kid n k.toNat) p f)
      rw [modP, getN, getN, kid_mid hk (modP (kid n k.toNat) p f) (Node.mk n.kind n.text n.gaps (n.kids.take k.toNat ++ [modP (kid n k.toNat) p f] ++ n.kids.drop (k.toNat + 1))) rfl]
      have hlen : (Node.mk n.kind n.text n.gaps (n.kids.take k.toNat ++ [modP (kid n k.toNat) p f] ++ n.kids.drop (k.toNat + 1))).kids.length = n.kids.length := hl
      rw [hlen]
      by_cases c : 0 ≤ j ∧ j < (n.kids.length : Int)
      · rw [if_pos c, if_pos c]
        by_cases c2 : k = j
        · subst c2
          rw [if_pos rfl]
          rw [beg, decide_eq_true rfl, Bool.true_and] at h1 h2
          exact get_other p r _ m f h h1 h2
        · rw [if_neg (by omega)]
      · rw [if_neg c, if_neg c]
    · cases h
theorem modP_modP : ∀ (p : List Int) (n m : Node) (f g : Node → Node), getN n p = some m → modP (modP n p f) p g = modP n p (fun x => g (f x))
  | [], n, m, f, g, h => rfl
  | k :: p, n, m, f, g, h => by
    rw [getN] at h
    split at h
    · rename_i hc
      have hk : k.toNat < n.kids.length := by omega
      have hl : (n.kids.take k.toNat).length = k.toNat := by rw [List.length_take]; omega
      rw [modP, modP, modP, kid_mid hk (modP (kid n k.toNat) p f) (Node.mk n.kind n.text n.gaps (n.kids.take k.toNat ++ [modP (kid n k.toNat) p f] ++ n.kids.drop (k.toNat + 1))) rfl, if_pos rfl, modP_modP p _ m f g h]
      show Node.mk n.kind n.text n.gaps ((n.kids.take k.toNat ++ [modP (kid n k.toNat) p f] ++ n.kids.drop (k.toNat + 1)).take k.toNat ++ [modP (kid n k.toNat) p fun x => g (f x)] ++ (n.kids.take k.toNat ++ [modP (kid n k.toNat) p f] ++ n.kids.drop (k.toNat + 1)).drop (k.toNat + 1)) = _
      rw [List.append_assoc (n.kids.take k.toNat), List.take_left' hl, ← List.append_assoc, List.drop_left' (by rw [List.length_append, hl, List.length_singleton])]
    · cases h
theorem modP_self : ∀ (p : List Int) (n m : Node), getN n p = some m → modP n p (fun _ => m) = n
  | [], n, m, h => by cases h; rfl
  | k :: p, n, m, h => by
    rw [getN] at h
    split at h
    · rename_i hc
      rw [modP, modP_self p _ m h]
      have := split_kid (n := n) (k := k.toNat) (by omega)
      cases n with
      | mk kd t g l =>
        show Node.mk kd t g (l.take k.toNat ++ [kid (.mk kd t g l) k.toNat] ++ l.drop (k.toNat + 1)) = .mk kd t g l
        rw [List.append_assoc, List.singleton_append]
        exact congrArg _ this.symm
    · cases h
theorem get_check : ∀ (p : List Int) (n m : Node), getN n p = some m → checkErr n = 0 → checkErr m = 0
  | [], n, m, h, c => by cases h; exact c
  | k :: p, n, m, h, c => by
    rw [getN] at h
    split at h
    · rename_i hc
      have hk : k.toNat < n.kids.length := by omega
      have : n.kids[k.toNat]? = some (kid n k.toNat) := by unfold kid; rw [List.getD_eq_getElem?_getD, List.getElem?_eq_getElem hk]; rfl
      exact get_check p _ m h ((parts n c).2.2 _ _ this).1
    · cases h
theorem kid_fits {n : Node} {k : Int} (c : checkErr n = 0) (h0 : 0 ≤ k) (h1 : k < (n.kids.length : Int)) : fits n.kind k (kid n k.toNat).kind = true := by
  have hk : k.toNat < n.kids.length := by omega
  have : n.kids[k.toNat]? = some (kid n k.toNat) := by unfold kid; rw [List.getD_eq_getElem?_getD, List.getElem?_eq_getElem hk]; rfl
  have := ((parts n c).2.2 _ _ this).2
  rwa [Int.toNat_of_nonneg h0] at this
theorem like_modP : ∀ (p : List Int) (n m : Node) (f : Node → Node), getN n p = some m → Like m (f m) → Like n (modP n p f)
  | [], n, m, f, h, l => by cases h; exact l
  | k :: p, n, m, f, h, l => by
    rw [getN] at h
    split at h
    · rename_i hc
      have ih := like_modP p _ m f h l
      have hs := split_kid (n := n) (k := k.toNat) (by omega)
      rw [modP]
      refine like_node rfl rfl (.inl rfl) ?_
      show LikeL n.kids (n.kids.take k.toNat ++ [modP (kid n k.toNat) p f] ++ n.kids.drop (k.toNat + 1))
      have : LikeL (n.kids.take k.toNat ++ [kid n k.toNat] ++ n.kids.drop (k.toNat + 1)) (n.kids.take k.toNat ++ [modP (kid n k.toNat) p f] ++ n.kids.drop (k.toNat + 1)) :=
        ((LikeL.refl _).app (.cons ih .nil)).app (.refl _)
      rwa [List.append_assoc, List.singleton_append, ← hs] at this
    · cases h
mutual
theorem same_refl : ∀ n : Node, sameN n n = true
  | .mk k t g l => by rw [sameN, sameNL_refl l]; simp
theorem sameNL_refl : ∀ l : List Node, sameNL l l = true
  | [] => rfl
  | n :: l => by rw [sameNL, same_refl n, sameNL_refl l]; rfl
end
theorem sameNL_app : ∀ (a b c d : List Node), sameNL a b = true → sameNL c d = true → sameNL (a ++ c) (b ++ d) = true
  | [], [], c, d, h, g => g
  | x :: a, y :: b, c, d, h, g => by
    simp only [sameNL, Bool.and_eq_true] at h
    rw [List.cons_append, List.cons_append, sameNL, h.1, sameNL_app a b c d h.2 g]; rfl
  | [], _ :: _, _, _, h, _ => by cases h
  | _ :: _, [], _, _, h, _ => by cases h
theorem same_modP : ∀ (p : List Int) (n m : Node) (f : Node → Node), getN n p = some m → sameN (f m) m = true → sameN (modP n p f) n = true
  | [], n, m, f, h, l => by cases h; exact l
  | k :: p, n, m, f, h, l => by
    rw [getN] at h
    split at h
    · rename_i hc
      have ih := same_modP p _ m f h l
      have hs := split_kid (n := n) (k := k.toNat) (by omega)
      rw [modP, sameN_eq]
      have e : sameNL (n.kids.take k.toNat ++ [modP (kid n k.toNat) p f] ++ n.kids.drop (k.toNat + 1)) (n.kids.take k.toNat ++ [kid n k.toNat] ++ n.kids.drop (k.toNat + 1)) = true :=
        sameNL_app _ _ _ _ (sameNL_app _ _ _ _ (sameNL_refl _) (by rw [sameNL, ih]; rfl)) (sameNL_refl _)
      rw [List.append_assoc (n.kids.take k.toNat) [kid n k.toNat], List.singleton_append, ← hs] at e
      have e2 : sameNL (Node.mk n.kind n.text n.gaps (n.kids.take k.toNat ++ [modP (kid n k.toNat) p f] ++ n.kids.drop (k.toNat + 1))).kids n.kids = true := e
      rw [e2]
      show (decide (n.kind = n.kind) && (decide (n.text = n.text) && true)) = true
      simp
    · cases h
/-! ### begins -/
theorem P_begins_l0 : ∀ (q p pre pre' a b : List Int), a = pre ++ p → b = pre' ++ q → pre.length = pre'.length → q.length ≤ p.length → a.length ≤ 9223372036854775807 → F_L10_begins_l0 a b (pre.length : Int) = some (beg p q)
  | [], p, pre, pre', a, b, ha, hb, hp, hl, hm => by
    rw [E_F_L10_begins_l0, hp, len_end hb, ite_ff]
    cases p <;> rfl
  | y :: q, [], _, _, _, _, _, _, _, h, _ => by simp at h
  | y :: q, x :: p, pre, pre', a, b, ha, hb, hp, hl, hm => by
    have hm2 := hm
    rw [ha, List.length_append, List.length_cons] at hm2
    rw [E_F_L10_begins_l0, hp, len_mid hb, ite_tt, ← hp, ix_mid ha, bs, hp, ix_mid hb, bs, ← hp, beg]
    by_cases c : x = y
    · rw [decide_eq_true c, Bool.not_true, ite_ff, wrap_len (by omega) x, Bool.true_and]
      exact P_begins_l0 q p (pre ++ [x]) (pre' ++ [y]) a b (mid_snoc ha) (mid_snoc hb) (by simp [hp]) (by simpa using hl) hm
    · rw [decide_eq_false c]; rfl
theorem beg_len : ∀ (p q : List Int), beg p q = true → q.length ≤ p.length
  | p, [], h => Nat.zero_le _
  | [], _ :: _, h => by rw [beg] at h; cases h
  | a :: p, b :: q, h => by
    rw [beg, Bool.and_eq_true] at h
    have := beg_len p q h.2
    rw [List.length_cons, List.length_cons]; omega
theorem P_begins (a b : List Int) (hm : a.length ≤ 9223372036854775807) : F_L10_begins a b = some (beg a b) := by
  rw [E_F_L10_begins, List.length_map, List.length_map]
  by_cases c : (a.length : Int) < b.length
  · rw [decide_eq_true c, ite_tt]
    cases e : beg a b with
    | false => rfl
    | true => have := beg_len a b e; omega
  · rw [decide_eq_false c, ite_ff]
    exact P_begins_l0 b a [] [] a b rfl rfl rfl (by omega) hm
end Go.Proofs.YtimdjillcaichaaDoorW.Ex.Gr
