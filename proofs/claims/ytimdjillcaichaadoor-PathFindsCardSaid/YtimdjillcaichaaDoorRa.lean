/- What the printed functions of trees and paths return, in plain words. Conditions: those in each theorem. -/
import Derived.Test.YtimdjillcaichaaDoorQe
namespace Go.Proofs.YtimdjillcaichaaDoorW.Ex.Gr
open Go Go.Proofs.YtimdjillcaichaaDoorW.Ex
set_option linter.all false
set_option maxRecDepth 100000
theorem bs {α β : Type} (a : α) (f : α → Option β) : (some a >>= f) = f a := rfl
theorem bn {α β : Type} (f : α → Option β) : ((none : Option α) >>= f) = none := rfl
@[reducible] def zeroN : Node := .mk 0 ⟨#[]⟩ [] []
theorem ix_pre {α : Type} (pre : List α) (m : α) (l : List α) : ix (pre ++ m :: l) (pre.length : Int) = some m := by
  rw [ix_nat, List.getElem?_append_right (Nat.le_refl _), Nat.sub_self]; rfl
theorem ix_mid {α : Type} {L pre l : List α} {m : α} (h : L = pre ++ m :: l) : ix L (pre.length : Int) = some m := by rw [h, ix_pre]
theorem len_mid {α β : Type} {C : α → β} {L pre l : List α} {m : α} (h : L = pre ++ m :: l) : decide ((pre.length : Int) < ((L.map C).length : Int)) = true := by
  rw [List.length_map, h, List.length_append, List.length_cons]; exact decide_eq_true (by omega)
theorem len_end {α β : Type} {C : α → β} {L pre : List α} (h : L = pre ++ []) : decide ((pre.length : Int) < ((L.map C).length : Int)) = false := by
  rw [List.length_map, h, List.length_append, List.length_nil]; exact decide_eq_false (by omega)
theorem wrap_len {α : Type} {pre : List α} (h : pre.length < 9223372036854775807) (m : α) : IntKind.i64.wrap ((pre.length : Int) + 1) = ((pre ++ [m]).length : Int) := by
  rw [List.length_append, List.length_singleton]; exact wrap_id (by omega) (by omega)
theorem mid_snoc {α : Type} {L pre l : List α} {m : α} (h : L = pre ++ m :: l) : L = (pre ++ [m]) ++ l := by rw [h, List.append_assoc]; rfl
theorem ite_tt {α : Type} {A B : α} : (if (true = true) then A else B) = A := rfl
theorem ite_ff {α : Type} {A B : α} : (if (false = true) then A else B) = B := rfl
theorem sizeNL_mid {L pre l : List Node} {m : Node} (h : L = pre ++ m :: l) : sizeNL L = sizeNL pre + sizeN m + sizeNL l := by
  rw [h, sizeNL_append, sizeNL]; omega

/-! ### Sizes -/
mutual
theorem P_tree_Size : ∀ n : Node, sizeN n ≤ 1000000 → F_tree_Size n = some (sizeN n : Int)
  | .mk k t g l, h => by
    rw [E_F_tree_Size]
    rw [sizeN] at h
    have := P_tree_Size_l0 l 1 (by omega) (by omega)
    rw [show (Node.mk k t g l).kids = l from rfl, this, sizeN]
    congr 1; omega
theorem P_tree_Size_l0 : ∀ (l : List Node) (a : Int), 0 ≤ a → a + sizeNL l ≤ 1000000 → F_tree_Size_l0 l a = some (a + sizeNL l)
  | [], a, _, _ => by rw [E_F_tree_Size_l0]; simp [sizeNL]
  | m :: l, a, h0, h => by
    rw [E_F_tree_Size_l0]
    rw [sizeNL] at h ⊢
    have h1 := P_tree_Size m (by omega)
    have h2 := P_tree_Size_l0 l (a + sizeN m) (by omega) (by omega)
    simp only [h1, bs]
    rw [wrap_id (by omega) (by omega), h2]
    congr 1; omega
end
mutual
theorem P_R6_Size : ∀ n : Node, sizeN n ≤ 1000000 → F_R6_Size n = some (sizeN n : Int)
  | .mk k t g l, h => by
    rw [E_F_R6_Size]
    rw [sizeN] at h
    have := P_R6_Size_l0 l [] (.mk k t g l) 1 rfl (by omega) (by omega) (show sizeNL l ≤ 1000000 by omega)
    rw [show ((0 : Int)) = (([] : List Node).length : Int) from rfl, this, sizeN]
    congr 1; omega
theorem P_R6_Size_l0 : ∀ (l pre : List Node) (n : Node) (a : Int), n.kids = pre ++ l → 0 ≤ a → a + sizeNL l ≤ 2000000 → sizeNL n.kids ≤ 1000000 → F_R6_Size_l0 a (pre.length : Int) n = some (a + sizeNL l)
  | [], pre, n, a, hk, _, _, _ => by rw [E_F_R6_Size_l0, len_end hk, ite_ff]; simp [sizeNL]
  | m :: l, pre, n, a, hk, h0, h, hb => by
    have hm := sizeNL_mid hk
    have hp := sizeNL_len pre
    rw [E_F_R6_Size_l0, len_mid hk, ite_tt, ix_mid hk, bs]
    rw [sizeNL] at h ⊢
    have h1 := P_R6_Size m (by omega)
    have h2 := P_R6_Size_l0 l (pre ++ [m]) n (a + sizeN m) (mid_snoc hk) (by omega) (by omega) hb
    rw [h1, bs, wrap_id (by omega) (by omega), wrap_len (by omega) m, h2]
    congr 1; omega
end
/-! ### Limits -/
/-- What is left of the nodes, or -1: for a tree as great as the rest says. -/
def Left (n : Nat) (k r : Int) : Prop := r = -1 ∨ (0 ≤ r ∧ r = k - n)
mutual
theorem P_R6_left : ∀ (n : Node) (k d : Int), k ≤ 1000000 → -1000000 ≤ k → d ≤ 1000000 → -1000000 ≤ d → ∃ r, F_R6_left n k d = some r ∧ Left (sizeN n) k r
  | .mk kd t g l, k, d, h1, h2, h3, h4 => by
    rw [E_F_R6_left]
    by_cases c1 : k < 1
    · rw [decide_eq_true c1, ite_tt]; exact ⟨_, rfl, .inl rfl⟩
    · rw [decide_eq_false c1, ite_ff]
      by_cases c2 : d < 1
      · rw [decide_eq_true c2, ite_tt]; exact ⟨_, rfl, .inl rfl⟩
      · rw [decide_eq_false c2, ite_ff]
        by_cases c3 : k < (((Node.mk kd t g l).kids.map Node.cells).length : Int)
        · rw [decide_eq_true c3, ite_tt]; exact ⟨_, rfl, .inl rfl⟩
        · rw [decide_eq_false c3, ite_ff, wrap_id (by omega) (by omega)]
          rw [List.length_map] at c3
          have c3' : (l.length : Int) ≤ 1000000 := by
            have : ((Node.mk kd t g l).kids).length = l.length := rfl
            omega
          obtain ⟨r, e, hr⟩ := P_R6_left_l0 l [] (.mk kd t g l) d (k - 1) rfl (by omega) (by omega) (by omega) (by omega) c3'
          rw [show ((0 : Int)) = (([] : List Node).length : Int) from rfl, e]
          refine ⟨r, rfl, ?_⟩
          unfold Left at hr ⊢
          rw [sizeN]; omega
theorem P_R6_left_l0 : ∀ (l pre : List Node) (n : Node) (d k : Int), n.kids = pre ++ l → 0 ≤ k → k ≤ 1000000 → d ≤ 1000000 → 1 ≤ d → (n.kids.length : Int) ≤ 1000000 → ∃ r, F_R6_left_l0 d k (pre.length : Int) n = some r ∧ Left (sizeNL l) k r
  | [], pre, n, d, k, hk, h0, h1, _, _, _ => by
    rw [E_F_R6_left_l0, len_end hk, ite_ff]
    exact ⟨k, rfl, .inr ⟨h0, by simp [sizeNL]⟩⟩
  | m :: l, pre, n, d, k, hk, h0, h1, h2, h3, hb => by
    have hb2 := hb
    rw [hk, List.length_append] at hb2
    obtain ⟨r, e, hr⟩ := P_R6_left m k (d - 1) (by omega) (by omega) (by omega) (by omega)
    rw [E_F_R6_left_l0, len_mid hk, ite_tt, ix_mid hk, bs, wrap_id (by omega) (by omega), e, bs]
    by_cases c : r < 0
    · rw [decide_eq_true c, ite_tt]; exact ⟨_, rfl, .inl rfl⟩
    · rw [decide_eq_false c, ite_ff, wrap_len (by omega) m]
      have hr2 : 0 ≤ r ∧ r = k - sizeN m := by unfold Left at hr; omega
      obtain ⟨r', e', hr'⟩ := P_R6_left_l0 l (pre ++ [m]) n d r (mid_snoc hk) (by omega) (by omega) h2 h3 hb
      rw [e']
      refine ⟨r', rfl, ?_⟩
      unfold Left at hr' ⊢
      rw [sizeNL]; omega
end
theorem P_small (n : Node) : ∃ b, F_L10_small n = some b ∧ (b = true → sizeN n ≤ 300) := by
  obtain ⟨r, e, hr⟩ := P_R6_left n 300 60 (by decide) (by decide) (by decide) (by decide)
  rw [E_F_L10_small, E_F_R6_Fits, e]
  refine ⟨_, rfl, fun h => ?_⟩
  have := of_decide_eq_true h
  unfold Left at hr; omega

/-! ### Trees at paths -/
def getP (n : Node) (p : List Int) : Node × Bool := match getN n p with | some m => (m, true) | none => (zeroN, false)
theorem ix_kid {n : Node} {k : Int} (h0 : 0 ≤ k) (h1 : k < (n.kids.length : Int)) : ix n.kids k = some (kid n k.toNat) := by
  unfold ix kid
  rw [if_pos h0, List.getD_eq_getElem?_getD, List.getElem?_eq_getElem (by omega)]; rfl
theorem P_path_get_l0 : ∀ (p : List Int) (n : Node), F_path_get_l0 p n = some (getP n p)
  | [], n => by rw [E_F_path_get_l0]; rfl
  | k :: p, n => by
    rw [E_F_path_get_l0]
    simp only
    unfold getP
    rw [getN]
    by_cases c1 : k < 0
    · rw [decide_eq_true c1, ite_tt, if_neg (by omega)]
    · rw [decide_eq_false c1, ite_ff]
      by_cases c2 : ((n.kids.map Node.cells).length : Int) ≤ k
      · rw [decide_eq_true c2, ite_tt]
        rw [List.length_map] at c2
        rw [if_neg (by omega)]
      · rw [decide_eq_false c2, ite_ff]
        rw [List.length_map] at c2
        rw [if_pos (by omega), ix_kid (by omega) (by omega), bs, P_path_get_l0 p]; rfl
theorem P_path_get (n : Node) (p : List Int) : F_path_get n p = some (getP n p) := by rw [E_F_path_get, P_path_get_l0]

/-- As trees are: nothing is longer than memory is. -/
inductive Sz : Node → Prop
  | mk (n : Node) (hg : n.gaps.length * 16 ≤ 140737488355328) (ht : n.text.size ≤ 9223372036854775807) (hs : ∀ g ∈ n.gaps, g.size ≤ 9223372036854775807) (h : ∀ m ∈ n.kids, Sz m) : Sz n
theorem Sz.kid {n m : Node} (h : Sz n) (hm : m ∈ n.kids) : Sz m := by cases h with | mk _ _ _ _ h => exact h m hm
theorem sz_zero : Sz zeroN := .mk _ (by show (0 : Nat) * 16 ≤ _; decide) (by show (⟨#[]⟩ : ByteArray).size ≤ _; decide) (fun g h => by cases h) (fun m h => by cases h)
theorem kid_mem {n : Node} {i : Nat} (h : i < n.kids.length) : kid n i ∈ n.kids := by
  unfold Ex.Gr.kid
  rw [List.getD_eq_getElem?_getD, List.getElem?_eq_getElem h]; exact List.getElem_mem h
theorem size_kid : ∀ {l : List Node} {m : Node}, m ∈ l → sizeN m ≤ sizeNL l
  | a :: l, m, h => by
    rw [sizeNL]
    rcases List.mem_cons.1 h with rfl | h
    · omega
    · have := size_kid h; omega
theorem get_sz : ∀ (p : List Int) (n m : Node), getN n p = some m → Sz n → Sz m ∧ sizeN m ≤ sizeN n
  | [], n, m, h, z => by cases h; exact ⟨z, Nat.le_refl _⟩
  | k :: p, n, m, h, z => by
    rw [getN] at h
    split at h
    · rename_i hc
      have hm := kid_mem (n := n) (i := k.toNat) (by omega)
      obtain ⟨h1, h2⟩ := get_sz p _ m h (z.kid hm)
      have := size_kid hm
      rw [sizeN_eq n]
      exact ⟨h1, by omega⟩
    · cases h
theorem app_ok {α : Type} {by_ : Nat} {l m : List α} (h : (l.length + m.length) * by_ ≤ 140737488355328) (h2 : l.length + m.length ≤ 9223372036854775807) : app by_ l m = some (l ++ m) := by
  unfold app; rw [if_pos ⟨h, h2⟩]
mutual
theorem P_path_copied : ∀ n : Node, Sz n → sizeN n ≤ 1000000 → F_path_copied n = some n
  | .mk k t g l, z, hs => by
    rw [E_F_path_copied]
    rw [sizeN] at hs
    cases z with | mk _ hg ht hgs h =>
    have hg' : g.length * 16 ≤ 140737488355328 := hg
    show (app 16 [] g >>= fun x1 => F_path_copied_l0 l k t x1 []) = _
    rw [app_ok (by simpa using hg') (by simp only [List.length_nil]; omega), bs]
    have := P_path_copied_l0 l [] k t g h (by simp only [List.length_nil, Nat.zero_add]; omega)
    simpa using this
theorem P_path_copied_l0 : ∀ (l acc : List Node) (k : Int) (t : ByteArray) (g : List ByteArray), (∀ m ∈ l, Sz m) → acc.length + sizeNL l ≤ 1000000 → F_path_copied_l0 l k t g acc = some (.mk k t g (acc ++ l))
  | [], acc, k, t, g, _, _ => by rw [E_F_path_copied_l0, List.append_nil]
  | m :: l, acc, k, t, g, z, hs => by
    rw [E_F_path_copied_l0]
    rw [sizeNL] at hs
    have hp := sizeN_pos m
    simp only
    rw [P_path_copied m (z m (List.mem_cons_self ..)) (by omega), bs, app_ok (by rw [List.length_singleton]; omega) (by rw [List.length_singleton]; omega), bs,
      P_path_copied_l0 l (acc ++ [m]) k t g (fun x hx => z x (List.mem_cons_of_mem _ hx)) (by rw [List.length_append, List.length_singleton]; omega), List.append_assoc]
    rfl
end
def getE (n : Node) (p : List Int) : Node × Int := match getN n p with | some m => (m, 0) | none => (zeroN, 5)
theorem P_path_Get (n : Node) (p : List Int) (z : Sz n) (hs : sizeN n ≤ 1000000) : F_path_Get n p = some (getE n p) := by
  rw [E_F_path_Get, P_path_get, bs]
  unfold getP getE
  cases h : getN n p with
  | none => rfl
  | some m =>
    obtain ⟨h1, h2⟩ := get_sz p n m h z
    simp only [Bool.not_true, ite_ff]
    rw [P_path_copied m h1 (by omega), bs]
theorem sz_wf {n : Node} (z : Sz n) : sizeN n ≤ 1000000 → Wf n := by
  induction z with | mk n hg ht hgs _ ih => ?_
  intro hs
  rw [sizeN_eq] at hs
  have := sizeNL_len n.kids
  exact .mk n (by omega) (by omega) ht hgs (fun m hm => ih m hm (by have := size_kid hm; omega))
theorem P_Check (n : Node) (z : Sz n) (hs : sizeN n ≤ 1000000) : F_grammar_Check n = some (checkErr n) := by
  unfold F_grammar_Check; rw [if_pos (wfB_of (sz_wf z hs))]
theorem P_R7_Check (n : Node) (z : Sz n) (hs : sizeN n ≤ 1000000) : F_R7_Check n = some (checkErr n) := by
  unfold F_R7_Check; rw [if_pos (wfB_of (sz_wf z hs))]
theorem P_Own (n : Node) (hs : sizeN n ≤ 1000000) : F_grammar_Own n = some (own n) := by
  unfold F_grammar_Own; rw [sizeN_eq] at hs; have := sizeNL_len n.kids; rw [if_pos (by omega)]
theorem P_R7_Own (n : Node) (hs : sizeN n ≤ 1000000) : F_R7_Own n = some (own n) := by
  unfold F_R7_Own; rw [sizeN_eq] at hs; have := sizeNL_len n.kids; rw [if_pos (by omega)]
def chk (n : Node) : Node × Int := if checkErr n = 0 then (n, 0) else (zeroN, 7)
theorem P_path_checked (n : Node) (z : Sz n) (hs : sizeN n ≤ 1000000) : F_path_checked n = some (chk n) := by
  rw [E_F_path_checked, P_Check n z hs, bs]
  unfold chk
  by_cases c : checkErr n = 0
  · rw [decide_eq_true c, Bool.not_true, ite_ff, P_path_copied n z hs, if_pos c, bs]
  · rw [decide_eq_false c, Bool.not_false, ite_tt, if_neg c]
theorem P_R10_checked (n : Node) (z : Sz n) (hs : sizeN n ≤ 1000000) : F_R10_checked n = some (chk n) := by
  rw [E_F_R10_checked, P_R7_Check n z hs, bs]
  unfold chk
  by_cases c : checkErr n = 0
  · rw [decide_eq_true c, Bool.not_true, ite_ff, if_pos c]
  · rw [decide_eq_false c, Bool.not_false, ite_tt, if_neg c]
end Go.Proofs.YtimdjillcaichaaDoorW.Ex.Gr
