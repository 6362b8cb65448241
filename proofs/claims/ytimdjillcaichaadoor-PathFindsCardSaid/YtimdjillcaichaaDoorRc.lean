/- What the printed functions that change trees return, in plain words: the program's and the reference's. Conditions: those in each theorem. -/
import Derived.Test.YtimdjillcaichaaDoorRb
namespace Go.Proofs.YtimdjillcaichaaDoorW.Ex.Gr
open Go Go.Proofs.YtimdjillcaichaaDoorW.Ex
set_option linter.all false
set_option maxRecDepth 100000
theorem own_congr (k : Int) (t : ByteArray) (g g' : List ByteArray) (l l' : List Node) (h : l.length = l'.length) : own (.mk k t g l) = own (.mk k t g' l') := by
  unfold own
  simp only [Node.kind, Node.text, Node.kids, h]
  try rfl
/-- A node with other kids; without gaps if the number of its own tokens changes. -/
def withK (n : Node) (ks : List Node) : Node := .mk n.kind n.text (if own (.mk n.kind n.text n.gaps ks) = own n then n.gaps else []) ks
theorem withK_len (n : Node) (ks : List Node) (h : ks.length = n.kids.length) : withK n ks = .mk n.kind n.text n.gaps ks := by
  unfold withK
  have : own (.mk n.kind n.text n.gaps ks) = own n := by
    cases n with | mk k t g l => exact own_congr k t g g ks l h
  rw [if_pos this]
/-- The tree with another node at a path. -/
def modP : Node → List Int → (Node → Node) → Node
  | n, [], f => f n
  | n, k :: p, f => .mk n.kind n.text n.gaps (n.kids.take k.toNat ++ [modP (kid n k.toNat) p f] ++ n.kids.drop (k.toNat + 1))
theorem modP_congr : ∀ (p : List Int) (n m : Node) (f g : Node → Node), getN n p = some m → f m = g m → modP n p f = modP n p g
  | [], n, m, f, g, h, e => by cases h; exact e
  | k :: p, n, m, f, g, h, e => by
    rw [getN] at h
    split at h
    · rw [modP, modP, modP_congr p _ m f g h e]
    · cases h
theorem getN_snoc : ∀ (q : List Int) (n : Node) (k : Int), getN n (q ++ [k]) = (getN n q).bind fun m => if 0 ≤ k ∧ k < (m.kids.length : Int) then some (kid m k.toNat) else none
  | [], n, k => rfl
  | a :: q, n, k => by
    rw [List.cons_append, getN, getN]
    split
    · exact getN_snoc q _ k
    · rfl
theorem modP_snoc : ∀ (q : List Int) (n m : Node) (k : Int) (f : Node → Node), getN n q = some m → 0 ≤ k → k < (m.kids.length : Int) →
    modP n (q ++ [k]) f = modP n q (fun m => .mk m.kind m.text m.gaps (m.kids.take k.toNat ++ [f (kid m k.toNat)] ++ m.kids.drop (k.toNat + 1)))
  | [], n, m, k, f, h, h0, h1 => rfl
  | a :: q, n, m, k, f, h, h0, h1 => by
    rw [getN] at h
    split at h
    · rw [List.cons_append, modP, modP, modP_snoc q _ m k f h h0 h1]
    · cases h
theorem split_kid {n : Node} {k : Nat} (h : k < n.kids.length) : n.kids = n.kids.take k ++ kid n k :: n.kids.drop (k + 1) := by
  have : kid n k = n.kids[k] := by unfold kid; rw [List.getD_eq_getElem?_getD, List.getElem?_eq_getElem h]; rfl
  rw [this, ← List.drop_eq_getElem_cons h, List.take_append_drop]
theorem size_split {n : Node} {k : Nat} (h : k < n.kids.length) : sizeNL n.kids = sizeNL (n.kids.take k) + sizeN (kid n k) + sizeNL (n.kids.drop (k + 1)) := sizeNL_mid (split_kid h)
theorem size_modP : ∀ (p : List Int) (n m : Node) (f : Node → Node), getN n p = some m → sizeN (modP n p f) + sizeN m = sizeN n + sizeN (f m)
  | [], n, m, f, h => by cases h; rw [modP]; omega
  | k :: p, n, m, f, h => by
    rw [getN] at h
    split at h
    · rename_i hc
      have ih := size_modP p _ m f h
      have hs := size_split (n := n) (k := k.toNat) (by omega)
      rw [modP, sizeN, sizeN_eq n, sizeNL_append, sizeNL_append, sizeNL, sizeNL]
      omega
    · cases h
theorem sz_modP : ∀ (p : List Int) (n m : Node) (f : Node → Node), getN n p = some m → Sz n → Sz (f m) → Sz (modP n p f)
  | [], n, m, f, h, z, zf => by cases h; exact zf
  | k :: p, n, m, f, h, z, zf => by
    rw [getN] at h
    split at h
    · rename_i hc
      have hm := kid_mem (n := n) (i := k.toNat) (by omega)
      have ih := sz_modP p _ m f h (z.kid hm) zf
      cases z with | mk _ hg ht hs hk =>
      refine .mk _ hg ht hs (fun x hx => ?_)
      have hx' : x ∈ n.kids.take k.toNat ++ [modP (kid n k.toNat) p f] ++ n.kids.drop (k.toNat + 1) := hx
      rw [List.mem_append, List.mem_append] at hx'
      rcases hx' with (hx | hx) | hx
      · exact hk x (List.mem_of_mem_take hx)
      · rw [List.mem_singleton] at hx; rw [hx]; exact ih
      · exact hk x (List.mem_of_mem_drop hx)
    · cases h
theorem sz_withK {n : Node} {ks : List Node} (z : Sz n) (h : ∀ m ∈ ks, Sz m) : Sz (withK n ks) := by
  cases z with | mk _ hg ht hs hk =>
  unfold withK
  by_cases c : own (.mk n.kind n.text n.gaps ks) = own n
  · rw [if_pos c]; exact .mk _ hg ht hs h
  · rw [if_neg c]; exact .mk _ (by show (0 : Nat) * 16 ≤ _; decide) ht (fun g h => by cases h) h
theorem sizeN_withK (n : Node) (ks : List Node) : sizeN (withK n ks) = sizeNL ks + 1 := by unfold withK; rw [sizeN]
theorem lsub_take {α : Type} {l : List α} {k : Int} (h0 : 0 ≤ k) (h1 : k ≤ (l.length : Int)) : lsub l 0 k = some (l.take k.toNat) := by
  unfold lsub; rw [if_pos ⟨by omega, h0, h1⟩]; rfl
theorem lsub_drop {α β : Type} {C : α → β} {l : List α} {k : Int} (h0 : 0 ≤ k) (h1 : k ≤ (l.length : Int)) : lsub l k ((l.map C).length : Int) = some (l.drop k.toNat) := by
  unfold lsub; rw [List.length_map, if_pos ⟨h0, h1, by omega⟩]
  rw [Int.toNat_natCast, List.take_of_length_le (Nat.le_refl _)]
theorem len_drop_take {l : List Node} (k : Nat) : (l.take k).length ≤ l.length ∧ (l.drop k).length ≤ l.length := by
  rw [List.length_take, List.length_drop]; omega
theorem P_withK (n : Node) (ks : List Node) (hn : sizeN n ≤ 1000000) (hk : sizeNL ks + 1 ≤ 1000000) (F : Node → Option Node) (hF : ∀ m, F m = some m) :
    (F_grammar_Own n >>= fun x9 => F_grammar_Own (Node.mk n.kind n.text n.gaps ks) >>= fun x11 => if (!decide (x11 = x9)) = true then F (Node.mk n.kind n.text ([] : List ByteArray) ks) else F (Node.mk n.kind n.text n.gaps ks)) = some (withK n ks) := by
  rw [P_Own n hn, bs, P_Own _ (by rw [sizeN]; exact hk), bs]
  unfold withK
  by_cases c : own (.mk n.kind n.text n.gaps ks) = own n
  · rw [decide_eq_true c, Bool.not_true, ite_ff, if_pos c, hF]
  · rw [decide_eq_false c, Bool.not_false, ite_tt, if_neg c, hF]
theorem P_R10_With (n : Node) (ks : List Node) (hn : sizeN n ≤ 1000000) (hk : sizeNL ks + 1 ≤ 1000000) : F_R10_With n ks = some (withK n ks) := by
  rw [E_F_R10_With, P_R7_Own _ (by rw [sizeN]; exact hk), bs, P_R7_Own n hn, bs]
  unfold withK
  by_cases c : own (.mk n.kind n.text n.gaps ks) = own n
  · rw [decide_eq_true c, Bool.not_true, ite_ff, if_pos c, E_F_R10_With_t18]
  · rw [decide_eq_false c, Bool.not_false, ite_tt, if_neg c, E_F_R10_With_t18]
theorem P_path_Replace_1 (m : Node) (k : Int) (x : Node) (h0 : 0 ≤ k) (h1 : k < (m.kids.length : Int)) (hs : m.kids.length ≤ 100000) : F_path_Replace_1 m.kids k x = some (m.kids.take k.toNat ++ [x] ++ m.kids.drop (k.toNat + 1)) := by
  rw [E_F_path_Replace_1, lsub_take h0 (by omega), bs, app_ok (by simp only [List.length_take, List.length_singleton]; omega) (by simp only [List.length_take, List.length_singleton]; omega), bs, wrap_id (by omega) (by omega), lsub_drop (by omega) (by omega), bs, app_ok (by simp only [List.length_append, List.length_take, List.length_drop, List.length_singleton]; omega) (by simp only [List.length_append, List.length_take, List.length_drop, List.length_singleton]; omega), bs, show (k + 1).toNat = k.toNat + 1 by omega]
theorem size_Replace (m : Node) (k : Int) (x : Node) : sizeNL (m.kids.take k.toNat ++ [x] ++ m.kids.drop (k.toNat + 1)) ≤ sizeNL m.kids + sizeN x := by
  have h1 := sizeNL_append (m.kids.take k.toNat) (m.kids.drop k.toNat)
  rw [List.take_append_drop] at h1
  have h2 : sizeNL (m.kids.drop (k.toNat + 1)) ≤ sizeNL (m.kids.drop k.toNat) := by
    rw [← List.drop_drop]
    cases m.kids.drop k.toNat with
    | nil => simp
    | cons a l => rw [List.drop_one, List.tail_cons, sizeNL]; omega
  simp only [sizeNL_append, sizeNL]
  omega
theorem P_changed_Replace : ∀ (p : List Int) (n m : Node) (k : Int) (x : Node), getN n p = some m → 0 ≤ k → k < (m.kids.length : Int) → sizeN n ≤ 100000 → sizeN x ≤ 1000 → p.length ≤ 9223372036854775807 →
    F_path_changed_path_Replace_1 n p k x = some (modP n p (fun m => withK m (m.kids.take k.toNat ++ [x] ++ m.kids.drop (k.toNat + 1))))
  | [], n, m, k, x, h, h0, h1, hs, hx, hp => by
    cases h
    have e1 := sizeN_eq n
    have e2 := sizeNL_len n.kids
    have e3 := size_Replace n k x
    rw [E_F_path_changed_path_Replace_1, decide_eq_false (show ¬ (0 : Int) < ((([] : List Int).map Ex.ic).length : Int) by decide), ite_ff, P_path_Replace_1 n k x h0 h1 (by omega), modP]
    exact P_withK n _ (by omega) (by omega) _ (fun m => E_F_path_changed_path_Replace_1_t51 m)
  | a :: p, n, m, k, x, h, h0, h1, hs, hx, hp => by
    rw [getN] at h
    split at h
    · rename_i hc
      rw [List.length_cons] at hp
      have e1 := sizeN_eq n
      have e2 := sizeNL_len n.kids
      have e4 := size_kid (kid_mem (n := n) (i := a.toNat) (by omega))
      have e5 : lsub (a :: p) 1 (((a :: p).map Ex.ic).length : Int) = some p := by rw [lsub_drop (by omega) (by rw [List.length_cons]; omega)]; rfl
      rw [E_F_path_changed_path_Replace_1, decide_eq_true (show (0 : Int) < (((a :: p).map Ex.ic).length : Int) by rw [List.length_map, List.length_cons]; omega), ite_tt, show ix (a :: p) 0 = some a from rfl, bs, lsub_take (by omega) (by omega), bs, ix_kid (by omega) (by omega), bs, e5, bs,
        P_changed_Replace p _ m k x h h0 h1 (by omega) hx (by omega), bs, app_ok (by simp only [List.length_take, List.length_singleton]; omega) (by simp only [List.length_take, List.length_singleton]; omega), bs, wrap_id (by omega) (by omega), lsub_drop (by omega) (by omega), bs,
        app_ok (by simp only [List.length_append, List.length_take, List.length_drop, List.length_singleton]; omega) (by simp only [List.length_append, List.length_take, List.length_drop, List.length_singleton]; omega), bs, show (a + 1).toNat = a.toNat + 1 by omega, modP]
    · cases h
theorem P_path_Insert_1 (m : Node) (k : Int) (x : Node) (h0 : 0 ≤ k) (h1 : k ≤ (m.kids.length : Int)) (hs : m.kids.length ≤ 100000) : F_path_Insert_1 m.kids k x = some (m.kids.take k.toNat ++ [x] ++ m.kids.drop k.toNat) := by
  rw [E_F_path_Insert_1, lsub_take h0 (by omega), bs, app_ok (by simp only [List.length_take, List.length_singleton]; omega) (by simp only [List.length_take, List.length_singleton]; omega), bs, lsub_drop (by omega) (by omega), bs, app_ok (by simp only [List.length_append, List.length_take, List.length_drop, List.length_singleton]; omega) (by simp only [List.length_append, List.length_take, List.length_drop, List.length_singleton]; omega), bs]
theorem size_Insert (m : Node) (k : Int) (x : Node) : sizeNL (m.kids.take k.toNat ++ [x] ++ m.kids.drop k.toNat) ≤ sizeNL m.kids + sizeN x := by
  have h1 := sizeNL_append (m.kids.take k.toNat) (m.kids.drop k.toNat)
  rw [List.take_append_drop] at h1
  have h2 : sizeNL (m.kids.drop (k.toNat + 1)) ≤ sizeNL (m.kids.drop k.toNat) := by
    rw [← List.drop_drop]
    cases m.kids.drop k.toNat with
    | nil => simp
    | cons a l => rw [List.drop_one, List.tail_cons, sizeNL]; omega
  simp only [sizeNL_append, sizeNL]
  omega
theorem P_changed_Insert : ∀ (p : List Int) (n m : Node) (k : Int) (x : Node), getN n p = some m → 0 ≤ k → k ≤ (m.kids.length : Int) → sizeN n ≤ 100000 → sizeN x ≤ 1000 → p.length ≤ 9223372036854775807 →
    F_path_changed_path_Insert_1 n p k x = some (modP n p (fun m => withK m (m.kids.take k.toNat ++ [x] ++ m.kids.drop k.toNat)))
  | [], n, m, k, x, h, h0, h1, hs, hx, hp => by
    cases h
    have e1 := sizeN_eq n
    have e2 := sizeNL_len n.kids
    have e3 := size_Insert n k x
    rw [E_F_path_changed_path_Insert_1, decide_eq_false (show ¬ (0 : Int) < ((([] : List Int).map Ex.ic).length : Int) by decide), ite_ff, P_path_Insert_1 n k x h0 h1 (by omega), modP]
    exact P_withK n _ (by omega) (by omega) _ (fun m => E_F_path_changed_path_Insert_1_t51 m)
  | a :: p, n, m, k, x, h, h0, h1, hs, hx, hp => by
    rw [getN] at h
    split at h
    · rename_i hc
      rw [List.length_cons] at hp
      have e1 := sizeN_eq n
      have e2 := sizeNL_len n.kids
      have e4 := size_kid (kid_mem (n := n) (i := a.toNat) (by omega))
      have e5 : lsub (a :: p) 1 (((a :: p).map Ex.ic).length : Int) = some p := by rw [lsub_drop (by omega) (by rw [List.length_cons]; omega)]; rfl
      rw [E_F_path_changed_path_Insert_1, decide_eq_true (show (0 : Int) < (((a :: p).map Ex.ic).length : Int) by rw [List.length_map, List.length_cons]; omega), ite_tt, show ix (a :: p) 0 = some a from rfl, bs, lsub_take (by omega) (by omega), bs, ix_kid (by omega) (by omega), bs, e5, bs,
        P_changed_Insert p _ m k x h h0 h1 (by omega) hx (by omega), bs, app_ok (by simp only [List.length_take, List.length_singleton]; omega) (by simp only [List.length_take, List.length_singleton]; omega), bs, wrap_id (by omega) (by omega), lsub_drop (by omega) (by omega), bs,
        app_ok (by simp only [List.length_append, List.length_take, List.length_drop, List.length_singleton]; omega) (by simp only [List.length_append, List.length_take, List.length_drop, List.length_singleton]; omega), bs, show (a + 1).toNat = a.toNat + 1 by omega, modP]
    · cases h
theorem P_path_Remove_1 (m : Node) (k : Int) (h0 : 0 ≤ k) (h1 : k < (m.kids.length : Int)) (hs : m.kids.length ≤ 100000) : F_path_Remove_1 m.kids k = some (m.kids.take k.toNat ++ m.kids.drop (k.toNat + 1)) := by
  rw [E_F_path_Remove_1, lsub_take h0 (by omega), bs, wrap_id (by omega) (by omega), lsub_drop (by omega) (by omega), bs, app_ok (by simp only [List.length_take, List.length_drop]; omega) (by simp only [List.length_take, List.length_drop]; omega), bs, show (k + 1).toNat = k.toNat + 1 by omega]
theorem size_Remove (m : Node) (k : Int) : sizeNL (m.kids.take k.toNat ++ m.kids.drop (k.toNat + 1)) ≤ sizeNL m.kids + 0 := by
  have h1 := sizeNL_append (m.kids.take k.toNat) (m.kids.drop k.toNat)
  rw [List.take_append_drop] at h1
  have h2 : sizeNL (m.kids.drop (k.toNat + 1)) ≤ sizeNL (m.kids.drop k.toNat) := by
    rw [← List.drop_drop]
    cases m.kids.drop k.toNat with
    | nil => simp
    | cons a l => rw [List.drop_one, List.tail_cons, sizeNL]; omega
  simp only [sizeNL_append, sizeNL]
  omega
theorem P_changed_Remove : ∀ (p : List Int) (n m : Node) (k : Int), getN n p = some m → 0 ≤ k → k < (m.kids.length : Int) → sizeN n ≤ 100000 → p.length ≤ 9223372036854775807 →
    F_path_changed_path_Remove_1 n p k = some (modP n p (fun m => withK m (m.kids.take k.toNat ++ m.kids.drop (k.toNat + 1))))
  | [], n, m, k, h, h0, h1, hs, hp => by
    cases h
    have e1 := sizeN_eq n
    have e2 := sizeNL_len n.kids
    have e3 := size_Remove n k
    rw [E_F_path_changed_path_Remove_1, decide_eq_false (show ¬ (0 : Int) < ((([] : List Int).map Ex.ic).length : Int) by decide), ite_ff, P_path_Remove_1 n k h0 h1 (by omega), modP]
    exact P_withK n _ (by omega) (by omega) _ (fun m => E_F_path_changed_path_Remove_1_t51 m)
  | a :: p, n, m, k, h, h0, h1, hs, hp => by
    rw [getN] at h
    split at h
    · rename_i hc
      rw [List.length_cons] at hp
      have e1 := sizeN_eq n
      have e2 := sizeNL_len n.kids
      have e4 := size_kid (kid_mem (n := n) (i := a.toNat) (by omega))
      have e5 : lsub (a :: p) 1 (((a :: p).map Ex.ic).length : Int) = some p := by rw [lsub_drop (by omega) (by rw [List.length_cons]; omega)]; rfl
      rw [E_F_path_changed_path_Remove_1, decide_eq_true (show (0 : Int) < (((a :: p).map Ex.ic).length : Int) by rw [List.length_map, List.length_cons]; omega), ite_tt, show ix (a :: p) 0 = some a from rfl, bs, lsub_take (by omega) (by omega), bs, ix_kid (by omega) (by omega), bs, e5, bs,
        P_changed_Remove p _ m k h h0 h1 (by omega) (by omega), bs, app_ok (by simp only [List.length_take, List.length_singleton]; omega) (by simp only [List.length_take, List.length_singleton]; omega), bs, wrap_id (by omega) (by omega), lsub_drop (by omega) (by omega), bs,
        app_ok (by simp only [List.length_append, List.length_take, List.length_drop, List.length_singleton]; omega) (by simp only [List.length_append, List.length_take, List.length_drop, List.length_singleton]; omega), bs, show (a + 1).toNat = a.toNat + 1 by omega, modP]
    · cases h
/-! ### The reference's words -/
theorem P_R10_Get_l0 : ∀ (q pre p : List Int) (n : Node), p = pre ++ q → p.length ≤ 9223372036854775807 → F_R10_Get_l0 p (pre.length : Int) n = some (getE n q)
  | [], pre, p, n, h, hp => by
    rw [E_F_R10_Get_l0, len_end h, ite_ff]; rfl
  | k :: q, pre, p, n, h, hp => by
    have hp2 := hp
    rw [h, List.length_append, List.length_cons] at hp2
    rw [E_F_R10_Get_l0, len_mid h, ite_tt, ix_mid h, bs, bs, bs, List.length_map]
    unfold getE
    rw [getN]
    by_cases c1 : k < 0
    · rw [decide_eq_true c1, ite_tt, if_neg (by omega)]
    · rw [decide_eq_false c1, ite_ff]
      by_cases c2 : (n.kids.length : Int) ≤ k
      · rw [decide_eq_true c2, ite_tt, if_neg (by omega)]
      · rw [decide_eq_false c2, ite_ff, if_pos (by omega), ix_kid (by omega) (by omega), bs, wrap_len (by omega) k]
        exact P_R10_Get_l0 q (pre ++ [k]) p _ (mid_snoc h) hp
theorem P_R10_Get (n : Node) (p : List Int) (hp : p.length ≤ 9223372036854775807) : F_R10_Get n p = some (getE n p) := by
  rw [E_F_R10_Get]
  exact P_R10_Get_l0 p [] p n rfl hp
theorem wrap_last (q : List Int) (k : Int) (h : (q ++ [k]).length ≤ 9223372036854775807) : IntKind.i64.wrap ((((q ++ [k]).map Ex.ic).length : Int) - 1) = (q.length : Int) := by
  rw [List.length_append, List.length_singleton] at h
  rw [List.length_map, List.length_append, List.length_singleton, wrap_id (by omega) (by omega)]; omega
theorem lsub_last (q : List Int) (k : Int) : lsub (q ++ [k]) 0 (q.length : Int) = some q := by
  rw [lsub_take (by omega) (by rw [List.length_append]; omega), Int.toNat_natCast, List.take_left']; rfl
theorem ix_last (q : List Int) (k : Int) : ix (q ++ [k]) (q.length : Int) = some k := ix_pre q k []
theorem len_snoc (q : List Int) (k : Int) : decide ((((q ++ [k]).map Ex.ic).length : Int) = 0) = false := decide_eq_false (by rw [List.length_map, List.length_append, List.length_singleton]; omega)
mutual
theorem P_R10_put : ∀ (n : Node) (p : List Int) (m x : Node), getN n p = some m → sizeN n ≤ 100000 → sizeN x ≤ 100000 → p.length ≤ 9223372036854775807 → F_R10_put n p x = some (modP n p (fun _ => x))
  | .mk kd t g l, p, m, x, h, hs, hx, hp => by
    rw [E_F_R10_put]
    cases p with
    | nil => rw [decide_eq_true (show ((([] : List Int).map Ex.ic).length : Int) = 0 from rfl), ite_tt, modP]
    | cons k p =>
      rw [decide_eq_false (show ¬ (((k :: p).map Ex.ic).length : Int) = 0 by rw [List.length_map, List.length_cons]; omega), ite_ff]
      rw [getN] at h
      split at h
      · rename_i hc
        have hlen : ((Node.mk kd t g l).kids).length = l.length := rfl
        rw [sizeN] at hs
        have := P_R10_put_l0 l [] (.mk kd t g l) k p m x rfl hc.1 hc.2 h (show sizeNL l ≤ 100000 by omega) hx hp
        rw [if_pos (by simp; exact hc.1)] at this
        exact this
      · cases h
theorem P_R10_put_l0 : ∀ (l pre : List Node) (n : Node) (k : Int) (p : List Int) (m x : Node), n.kids = pre ++ l → 0 ≤ k → k < (n.kids.length : Int) → getN (kid n k.toNat) p = some m → sizeNL n.kids ≤ 100000 → sizeN x ≤ 100000 → (k :: p).length ≤ 9223372036854775807 →
    (if (pre.length : Int) ≤ k then F_R10_put_l0 (k :: p) pre (pre.length : Int) n x = some (modP n (k :: p) (fun _ => x))
     else F_R10_put_l0 (k :: p) (pre.take k.toNat ++ [modP (kid n k.toNat) p (fun _ => x)] ++ pre.drop (k.toNat + 1)) (pre.length : Int) n x = some (modP n (k :: p) (fun _ => x)))
  | [], pre, n, k, p, m, x, hk, h0, h1, hg, hb, hx, hp => by
    rw [hk, List.append_nil] at h1
    rw [if_neg (by omega), E_F_R10_put_l0, len_end hk, ite_ff]
    have hpre : pre = n.kids := by rw [hk, List.append_nil]
    subst hpre
    have hss := size_split (n := n) (k := k.toNat) (by omega)
    have hsm := size_modP p _ m (fun _ => x) hg
    have e1 := sizeN_eq n
    rw [P_R10_With n _ (by omega) (by rw [sizeNL_append, sizeNL_append, sizeNL, sizeNL]; omega), bs, withK_len _ _ (by simp only [List.length_append, List.length_take, List.length_drop, List.length_singleton]; omega), modP]
  | a :: l, pre, n, k, p, m, x, hk, h0, h1, hg, hb, hx, hp => by
    have hm := sizeNL_mid hk
    have hpl := sizeNL_len pre
    have hln : n.kids.length = pre.length + (l.length + 1) := by rw [hk, List.length_append, List.length_cons]
    have ih := P_R10_put_l0 l (pre ++ [a]) n k p m x (mid_snoc hk) h0 h1 hg hb hx hp
    rw [List.length_append, List.length_singleton] at ih
    have e5 : lsub (k :: p) 1 (((k :: p).map Ex.ic).length : Int) = some p := by rw [lsub_drop (by omega) (by rw [List.length_cons]; omega)]; rfl
    by_cases c : (pre.length : Int) ≤ k
    · rw [if_pos c, E_F_R10_put_l0, len_mid hk, ite_tt, show ix (k :: p) 0 = some k from rfl, bs]
      by_cases c2 : (pre.length : Int) = k
      · rw [decide_eq_true c2, ite_tt, ix_mid hk, bs, e5, bs]
        have hka : kid n k.toNat = a := by
          unfold kid
          rw [hk, ← c2, Int.toNat_natCast, List.getD_eq_getElem?_getD, List.getElem?_append_right (Nat.le_refl _), Nat.sub_self]; rfl
        rw [hka] at hg ih
        rw [P_R10_put a p m x hg (by omega) hx (by rw [List.length_cons] at hp; omega), bs, app_ok (by simp only [List.length_singleton]; omega) (by simp only [List.length_singleton]; omega), bs, E_F_R10_put_t24, wrap_len (by omega) a]
        rw [if_neg (by omega)] at ih
        have e6 : (pre ++ [a]).take k.toNat = pre := by rw [← c2, Int.toNat_natCast, List.take_left']; rfl
        have e7 : (pre ++ [a]).drop (k.toNat + 1) = [] := by rw [← c2, Int.toNat_natCast, List.drop_of_length_le]; simp
        rw [e6, e7, List.append_nil] at ih
        rw [List.length_append, List.length_singleton]
        exact ih
      · rw [decide_eq_false c2, ite_ff, ix_mid hk, bs, app_ok (by simp only [List.length_singleton]; omega) (by simp only [List.length_singleton]; omega), bs, E_F_R10_put_t24, wrap_len (by omega) a]
        rw [if_pos (by omega)] at ih
        rw [List.length_append, List.length_singleton]
        exact ih
    · rw [if_neg c, E_F_R10_put_l0, len_mid hk, ite_tt, show ix (k :: p) 0 = some k from rfl, bs, decide_eq_false (show ¬ (pre.length : Int) = k by omega), ite_ff, ix_mid hk, bs,
        app_ok (by simp only [List.length_append, List.length_take, List.length_drop, List.length_singleton]; omega) (by simp only [List.length_append, List.length_take, List.length_drop, List.length_singleton]; omega), bs, E_F_R10_put_t24, wrap_len (by omega) a]
      rw [if_neg (by omega)] at ih
      rw [List.length_append, List.length_singleton]
      rw [List.take_append_of_le_length (by omega), List.drop_append_of_le_length (by omega)] at ih
      rw [List.append_assoc]
      rw [List.append_assoc] at ih
      rw [← List.append_assoc] at ih
      simpa [List.append_assoc] using ih
end
end Go.Proofs.YtimdjillcaichaaDoorW.Ex.Gr
