/- Well-formed trees: plain facts. Conditions: those in each theorem. -/
import Derived.Test.YtimcdpioclioiaaGreatDoorGg
namespace Go.Proofs.YtimcdpioclioiaaGreatDoorW.Ex.Gr
open Go Go.Proofs.YtimcdpioclioiaaGreatDoorW.Ex
set_option linter.all false
set_option maxRecDepth 100000
mutual
theorem size_mono : ∀ (n : Node) (d s : Nat), size? n d = some s → size? n (d + 1) = some s
 | .mk k t g l, 0, s, h => by simp [size?] at h
 | .mk k t g l, d + 1, s, h => by
   rw [vp] at h ⊢
   split at h
   ·cases h
   ·rename_i hm
    rw [if_neg hm]
    simp only [Option.map_eq_some_iff] at h ⊢
    obtain ⟨a, ha, rfl⟩ := h
    exact ⟨a, sizeL_mono l d a ha, rfl⟩
theorem sizeL_mono : ∀ (l : List Node) (d s : Nat), sizeL? l d = some s → sizeL? l (d + 1) = some s
 | [], d, s, h => h
 | n :: l, d, s, h => by
   rw [u0] at h ⊢
   cases ha : size? n d with
   | none => rw [ha] at h; cases h
   | some a =>
     cases hb : sizeL? l d with
     | none => rw [ha, hb] at h; cases h
     | some b =>
       rw [ha, hb] at h
       rw [size_mono n d a ha, sizeL_mono l d b hb]
       exact h
end
theorem sizeL_mem : ∀ (l : List Node) (d s : Nat), sizeL? l d = some s → ∀ m ∈ l, ∃ a, size? m d = some a ∧ a ≤ s
 | [], d, s, h, m, hm => by cases hm
 | n :: l, d, s, h, m, hm => by
   rw [u0] at h
   cases ha : size? n d with
   | none => rw [ha] at h; cases h
   | some a =>
     cases hb : sizeL? l d with
     | none => rw [ha, hb] at h; cases h
     | some b =>
       rw [ha, hb] at h
       simp only [Option.some.injEq] at h
       rcases List.mem_cons.1 hm with rfl | hm
       ·exact ⟨a, ha, by omega⟩
       ·obtain ⟨c, hc, hle⟩ := sizeL_mem l d b hb m hm
        exact ⟨c, hc, by omega⟩
theorem firstL_mem : ∀ (l : List Node), ja l = 0 → ∀ m ∈ l, firstErr m = 0
 | [], h, m, hm => by cases hm
 | n :: l, h, m, hm => by
   rw [ja] at h
   split at h
   ·rename_i h0
    rcases List.mem_cons.1 hm with rfl | hm
    ·exact h0
    ·exact firstL_mem l h m hm
   ·rename_i h0; exact absurd h h0
theorem check_ok {n : Node} (h : checkErr n = 0) : ∃ k, size? n 60 = some k ∧ k ≤ 4000 ∧ firstErr n = 0 := by
 unfold checkErr at h
 split at h
 ·rename_i k hk
  split at h
  ·rename_i hle; exact ⟨k, hk, hle, h⟩
  ·cases h
 ·cases h
theorem check_of {n : Node} {k : Nat} (h1 : size? n 60 = some k) (h2 : k ≤ 4000) (h3 : firstErr n = 0) : checkErr n = 0 := by
 unfold checkErr
 rw [h1]
 simp only [if_pos h2, h3]
theorem node_ok {n : Node} (h : jc n = 0) : known n.kind = true ∧ u3 n = true ∧ y5 n = true ∧ kc n = true ∧ yy n = true ∧ ur n = true := by
 unfold jc at h
 split at h
 ·cases h
 ·rename_i h1
  split at h
  ·cases h
  ·rename_i h2
   split at h
   ·cases h
   ·rename_i h3
    have h1 : yc n = true := by simpa using h1
    simp only [yc, Bool.and_eq_true] at h1
    exact ⟨h1.1.1.1, h1.1.1.2, h1.1.2, h1.2, by simpa using h2, by simpa using h3⟩
theorem first_ok {n : Node} (h : firstErr n = 0) : jc n = 0 ∧ ∀ m ∈ n.kids, firstErr m = 0 := by
 rw [yk] at h
 split at h
 ·rename_i h0; exact ⟨h0, firstL_mem _ h⟩
 ·rename_i h0; exact absurd h h0
theorem most_le (k : Int) : most k ≤ 200 := by unfold most; split <;> (try split) <;> omega
theorem parts (n : Node) (h : checkErr n = 0) : n.kids.length ≤ 200 ∧ (n.gaps = [] ∨ (n.gaps.length : Int) = own n) ∧ ∀ (i : Nat) (m : Node), n.kids[i]? = some m → checkErr m = 0 ∧ fits n.kind i m.kind = true := by
 obtain ⟨k, h1, h2, h3⟩ := check_ok h
 obtain ⟨h4, h5⟩ := first_ok h3
 obtain ⟨k0, k1, k2, k3, k4, k5⟩ := node_ok h4
 rw [vp] at h1
 have hm := most_le n.kind
 split at h1
 ·cases h1
 ·rename_i hmost
  simp only [Option.map_eq_some_iff] at h1
  obtain ⟨a, ha, rfl⟩ := h1
  refine ⟨by omega, ?_, fun i m hi => ?_⟩
  ·unfold ur at k5
   simp only [Bool.or_eq_true, Bool.and_eq_true, decide_eq_true_eq] at k5
   exact k5.imp id (fun h => h.2)
  ·obtain ⟨b, hb, hle⟩ := sizeL_mem _ _ _ ha m (List.mem_of_getElem? hi)
   refine ⟨check_of (size_mono m 59 b hb) (by omega) (h5 m (List.mem_of_getElem? hi)), ?_⟩
   have hk := kids_eq n k0
   rw [k1] at hk
   simp only [Bool.true_eq, Bool.and_eq_true] at hk
   have := all_at _ n.kids 0 hk.2 i m hi
   simpa using this
/-- The second tree is well-formed if the first one is. -/
structure Like (a b : Node) : Prop where
 kind : b.kind = a.kind
 text : b.text = a.text
 size : ∀ d, size? b d = size? a d
 first : firstErr a = 0 → firstErr b = 0
theorem Like.refl (a : Node) : Like a a := ⟨rfl, rfl, fun _ => rfl, id⟩
inductive LikeL : List Node → List Node → Prop
 | nil : LikeL [] []
 | cons {a b : Node} {l l' : List Node} (h : Like a b) (t : LikeL l l') : LikeL (a :: l) (b :: l')
theorem LikeL.refl : ∀ l : List Node, LikeL l l
 | [] => .nil
 | a :: l => .cons (.refl a) (LikeL.refl l)
theorem LikeL.app {a b c d : List Node} (h : LikeL a b) (g : LikeL c d) : LikeL (a ++ c) (b ++ d) := by
 induction h with
 | nil => exact g
 | cons h _ ih => exact .cons h ih
theorem LikeL.len {l l' : List Node} (h : LikeL l l') : l'.length = l.length := by
 induction h with
 | nil => rfl
 | cons _ _ ih => rw [List.length_cons, List.length_cons, ih]
theorem LikeL.fits {p : Int} {l l' : List Node} (h : LikeL l l') : ∀ i, j4 (fun i m => fits p i m.kind) i l' = j4 (fun i m => fits p i m.kind) i l := by
 induction h with
 | nil => intro i; rfl
 | cons h _ ih => intro i; simp only [j4]; rw [h.kind, ih]
theorem LikeL.lev {l l' : List Node} (h : LikeL l l') : ∀ i, level (l'.getD i nodeD) = level (l.getD i nodeD) := by
 induction h with
 | nil => intro i; rfl
 | cons h _ ih =>
   intro i
   cases i with
   | zero => show level _ = level _; unfold level; simp only [List.getD_cons_zero]; rw [h.kind, h.text]
   | succ i => simpa using ih i
theorem LikeL.size {l l' : List Node} (h : LikeL l l') (d : Nat) : sizeL? l' d = sizeL? l d := by
 induction h with
 | nil => rfl
 | cons h _ ih => rw [u0, u0, h.size, ih]
theorem LikeL.first {l l' : List Node} (h : LikeL l l') : ja l = 0 → ja l' = 0 := by
 induction h with
 | nil => intro _; rfl
 | cons h _ ih =>
   intro e
   rw [ja] at e ⊢
   split at e
   ·rename_i c; rw [if_pos (h.first c)]; exact ih e
   ·rename_i c; exact absurd e c
theorem like_node {n n' : Node} (hk : n'.kind = n.kind) (ht : n'.text = n.text) (hg : n'.gaps = n.gaps ∨ n'.gaps = []) (hl : LikeL n.kids n'.kids) : Like n n' := by
 have len := hl.len
 have ho : own n' = own n := by unfold own; rw [hk, ht, len]
 have hz : ∀ d, size? n' d = size? n d := by
  intro d
  cases d with
  | zero => rw [Yn, Yn]
  | succ d => rw [vp, vp, hk, len, hl.size]
 refine ⟨hk, ht, hz, fun h => ?_⟩
 obtain ⟨h1, h2⟩ := first_ok h
 obtain ⟨k0, k1, k2, k3, k4, k5⟩ := node_ok h1
 have b1 : u3 n' = true := by unfold u3 ut at k1 ⊢; rw [hk, len, hl.fits]; exact k1
 have b3 : kc n' = true := by
  unfold kc kid at k3 ⊢
  have : level n' = level n := by unfold level; rw [hk, ht]
  rw [hl.lev, hl.lev, hk, this]; exact k3
 have b2 : y5 n' = true := by unfold y5 at k2 ⊢; rw [hk, ht]; exact k2
 have b4 : yy n' = true := by unfold yy at k4 ⊢; rw [hk, ht]; exact k4
 have b5 : ur n' = true := by
  rcases hg with g | g
  ·unfold ur vl at k5 ⊢; rw [g, ho]; exact k5
  ·unfold ur; rw [g]; rfl
 have e : jc n' = 0 := by
  have a2 : yc n' = true := by
   have b0 : known n'.kind = true := by rw [hk]; exact k0
   simp [yc, b0, b1, b2, b3]
  simp [jc, a2, b4, b5]
 rw [yk, e, if_pos rfl]
 rw [yk, h1, if_pos rfl] at h
 exact hl.first h
theorem like_check {n m : Node} (h : Like n m) (c : checkErr n = 0) : checkErr m = 0 := by
 obtain ⟨k, h1, h2, h3⟩ := check_ok c
 exact check_of (by rw [h.size]; exact h1) h2 (h.first h3)
end Go.Proofs.YtimcdpioclioiaaGreatDoorW.Ex.Gr
