/- Paths in trees in plain words: sizes, the path of an index, the index of a path, the tree at a path. No conditions beside those in each theorem. -/
import Derived.Test.YtimdjillcaichaaDoorGa
namespace Go.Proofs.YtimdjillcaichaaDoorW.Ex.Gr
set_option linter.all false
open Go Go.Proofs.YtimdjillcaichaaDoorW.Ex
mutual
def sizeN : Node → Nat
  | .mk _ _ _ l => sizeNL l + 1
def sizeNL : List Node → Nat
  | [] => 0
  | n :: l => sizeN n + sizeNL l
end
theorem sizeN_eq (n : Node) : sizeN n = sizeNL n.kids + 1 := by cases n; rw [sizeN]; rfl
theorem sizeN_pos (n : Node) : 0 < sizeN n := by rw [sizeN_eq]; omega
theorem sizeNL_append : ∀ (a b : List Node), sizeNL (a ++ b) = sizeNL a + sizeNL b
  | [], b => by simp [sizeNL]
  | n :: a, b => by rw [List.cons_append, sizeNL, sizeNL, sizeNL_append a b]; omega
theorem sizeNL_len : ∀ (l : List Node), l.length ≤ sizeNL l
  | [] => Nat.le_refl _
  | n :: l => by
    have := sizeNL_len l
    have := sizeN_pos n
    rw [sizeNL, List.length_cons]; omega
mutual
/-- The path of the node with an index. -/
def ofL : Node → Nat → List Nat
  | .mk _ _ _ l, i => if i = 0 then [] else ofK l (i - 1) 0
def ofK : List Node → Nat → Nat → List Nat
  | [], _, _ => []
  | m :: l, i, k => if i < sizeN m then k :: ofL m i else ofK l (i - sizeN m) (k + 1)
end
mutual
/-- The tree of the node with an index. -/
def nodeAt : Node → Nat → Node
  | .mk k t g l, i => if i = 0 then .mk k t g l else nodeAtL l (i - 1)
def nodeAtL : List Node → Nat → Node
  | [], _ => nodeD
  | m :: l, i => if i < sizeN m then nodeAt m i else nodeAtL l (i - sizeN m)
end
theorem ofL_eq (n : Node) (i : Nat) : ofL n i = if i = 0 then [] else ofK n.kids (i - 1) 0 := by cases n; rw [ofL]; rfl
theorem nodeAt_eq (n : Node) (i : Nat) : nodeAt n i = if i = 0 then n else nodeAtL n.kids (i - 1) := by cases n; rw [nodeAt]; rfl
/-- The tree to which a path leads. -/
def getN : Node → List Int → Option Node
  | n, [] => some n
  | n, k :: p => if 0 ≤ k ∧ k < (n.kids.length : Int) then getN (kid n k.toNat) p else none
/-- The index of the node to which a path leads, counted on. -/
def indexN : Node → List Int → Int → Option Int
  | _, [], a => some a
  | n, k :: p, a => if 0 ≤ k ∧ k < (n.kids.length : Int) then indexN (kid n k.toNat) p (a + 1 + sizeNL (n.kids.take k.toNat)) else none
theorem kid_pre {n m : Node} {pre l : List Node} (h : n.kids = pre ++ m :: l) : kid n pre.length = m ∧ n.kids.take pre.length = pre ∧ pre.length < n.kids.length := by
  refine ⟨?_, ?_, ?_⟩
  · simp [kid, h]
  · rw [h, List.take_left']; rfl
  · rw [h, List.length_append, List.length_cons]; omega
mutual
theorem of_spec : ∀ (n : Node) (i : Nat), i < sizeN n → getN n ((ofL n i).map Int.ofNat) = some (nodeAt n i) ∧ ∀ a : Int, indexN n ((ofL n i).map Int.ofNat) a = some (a + i)
  | .mk k t g l, i, h => by
    rw [ofL, nodeAt]
    rw [sizeN] at h
    by_cases h0 : i = 0
    · subst h0
      exact ⟨rfl, fun a => by simp [indexN]⟩
    · rw [if_neg h0, if_neg h0]
      have := ofK_spec l (i - 1) 0 (.mk k t g l) [] rfl rfl (by omega)
      refine ⟨this.1, fun a => ?_⟩
      rw [this.2 a]
      simp only [sizeNL]
      congr 1; omega
theorem ofK_spec : ∀ (l : List Node) (i k : Nat) (n : Node) (pre : List Node), n.kids = pre ++ l → pre.length = k → i < sizeNL l →
    getN n ((ofK l i k).map Int.ofNat) = some (nodeAtL l i) ∧ ∀ a : Int, indexN n ((ofK l i k).map Int.ofNat) a = some (a + 1 + sizeNL pre + i)
  | [], i, k, n, pre, _, _, h => by simp [sizeNL] at h
  | m :: l, i, k, n, pre, hk, hp, h => by
    rw [sizeNL] at h
    rw [ofK, nodeAtL]
    obtain ⟨h1, h2, h3⟩ := kid_pre hk
    by_cases hi : i < sizeN m
    · rw [if_pos hi, if_pos hi]
      have ih := of_spec m i hi
      have hc : (0 : Int) ≤ Int.ofNat k ∧ Int.ofNat k < (n.kids.length : Int) := by
        subst hp
        exact ⟨Int.natCast_nonneg _, by show ((pre.length : Nat) : Int) < _; omega⟩
      have ht : (Int.ofNat k).toNat = pre.length := by rw [hp]; rfl
      refine ⟨?_, fun a => ?_⟩
      · rw [List.map_cons, getN, if_pos hc, ht, h1]
        exact ih.1
      · rw [List.map_cons, indexN, if_pos hc, ht, h1, h2]
        exact ih.2 _
    · rw [if_neg hi, if_neg hi]
      have ih := ofK_spec l (i - sizeN m) (k + 1) n (pre ++ [m]) (by rw [hk, List.append_assoc]; rfl) (by rw [List.length_append, hp]; rfl) (by omega)
      refine ⟨ih.1, fun a => ?_⟩
      rw [ih.2 a, sizeNL_append]
      simp only [sizeNL]
      congr 1; omega
end
mutual
/-- The number of nodes of a tree of at most d levels. -/
def hs? : Node → Nat → Option Nat
  | .mk _ _ _ _, 0 => none
  | .mk _ _ _ l, d + 1 => (hsL? l d).map (· + 1)
def hsL? : List Node → Nat → Option Nat
  | [], _ => some 0
  | n :: l, d => match hs? n d, hsL? l d with
    | some a, some b => some (a + b)
    | _, _ => none
end
mutual
theorem hs_size : ∀ (n : Node) (d s : Nat), hs? n d = some s → s = sizeN n
  | .mk k t g l, 0, s, h => by simp [hs?] at h
  | .mk k t g l, d + 1, s, h => by
    simp only [hs?, Option.map_eq_some_iff] at h
    obtain ⟨a, ha, rfl⟩ := h
    rw [sizeN, hsL_size l d a ha]
theorem hsL_size : ∀ (l : List Node) (d s : Nat), hsL? l d = some s → s = sizeNL l
  | [], d, s, h => by simp [hsL?] at h; rw [sizeNL, h]
  | n :: l, d, s, h => by
    rw [hsL?] at h
    cases ha : hs? n d with
    | none => rw [ha] at h; cases h
    | some a =>
      cases hb : hsL? l d with
      | none => rw [ha, hb] at h; cases h
      | some b =>
        rw [ha, hb] at h
        simp only [Option.some.injEq] at h
        rw [sizeNL, ← hs_size n d a ha, ← hsL_size l d b hb, h]
end
end Go.Proofs.YtimdjillcaichaaDoorW.Ex.Gr
