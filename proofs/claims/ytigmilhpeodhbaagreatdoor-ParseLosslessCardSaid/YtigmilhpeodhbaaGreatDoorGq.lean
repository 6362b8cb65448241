/- Well-formed trees: plain facts. Conditions: those in each theorem. -/
import Derived.Test.YtigmilhpeodhbaaGreatDoorGg
namespace Go.Proofs.YtigmilhpeodhbaaGreatDoorW.Ex.Gr
open Go Go.Proofs.YtigmilhpeodhbaaGreatDoorW.Ex
set_option linter.all false
set_option maxRecDepth 100000
mutual
theorem qo1 : ∀ (n : Node) (d s : Nat), size? n d = some s → size? n (d + 1) = some s
 | .mk k t g l, 0, s, h => by simp [size?] at h
 | .mk k t g l, d + 1, s, h => by
   rw [qif] at h ⊢
   split at h
   ·cases h
   ·rename_i hm
    rw [if_neg hm]
    simp only [Option.map_eq_some_iff] at h ⊢
    obtain ⟨a, ha, rfl⟩ := h
    exact ⟨a, qlh l d a ha, rfl⟩
theorem qlh : ∀ (l : List Node) (d s : Nat), sizeL? l d = some s → sizeL? l (d + 1) = some s
 | [], d, s, h => h
 | n :: l, d, s, h => by
   rw [qam] at h ⊢
   cases ha : size? n d with
   | none => rw [ha] at h; cases h
   | some a =>
     cases hb : sizeL? l d with
     | none => rw [ha, hb] at h; cases h
     | some b =>
       rw [ha, hb] at h
       rw [qo1 n d a ha, qlh l d b hb]
       exact h
end
theorem qo3 : ∀ (l : List Node) (d s : Nat), sizeL? l d = some s → ∀ m ∈ l, ∃ a, size? m d = some a ∧ a ≤ s
 | [], d, s, h, m, hm => by cases hm
 | n :: l, d, s, h, m, hm => by
   rw [qam] at h
   cases ha : size? n d with
   | none => rw [ha] at h; cases h
   | some a =>
     cases hb : sizeL? l d with
     | none => rw [ha, hb] at h; cases h
     | some b =>
       rw [ha, hb] at h
       simp only [Option.some.injEq] at h
       rcases List.mem_cons.1 hm with rfl | hm
       ·exact ⟨a, ha, by omega⟩
       ·obtain ⟨c, hc, hle⟩ := qo3 l d b hb m hm
        exact ⟨c, hc, by omega⟩
theorem qmz : ∀ (l : List Node), kv l = 0 → ∀ m ∈ l, firstErr m = 0
 | [], h, m, hm => by cases hm
 | n :: l, h, m, hm => by
   rw [kv] at h
   split at h
   ·rename_i h0
    rcases List.mem_cons.1 hm with rfl | hm
    ·exact h0
    ·exact qmz l h m hm
   ·rename_i h0; exact absurd h h0
theorem qna {n : Node} (h : checkErr n = 0) : ∃ k, size? n 60 = some k ∧ k ≤ 4000 ∧ firstErr n = 0 := by
 unfold checkErr at h
 split at h
 ·rename_i k hk
  split at h
  ·rename_i hle; exact ⟨k, hk, hle, h⟩
  ·cases h
 ·cases h
theorem q1g {n : Node} {k : Nat} (h1 : size? n 60 = some k) (h2 : k ≤ 4000) (h3 : firstErr n = 0) : checkErr n = 0 := by
 unfold checkErr
 rw [h1]
 simp only [if_pos h2, h3]
theorem qwe {n : Node} (h : uj n = 0) : known n.kind = true ∧ Zt n = true ∧ Js n = true ∧ Ya n = true ∧ Kf n = true ∧ qet n = true := by
 unfold uj at h
 split at h
 ·cases h
 ·rename_i h1
  split at h
  ·cases h
  ·rename_i h2
   split at h
   ·cases h
   ·rename_i h3
    have h1 : Y6 n = true := by simpa using h1
    simp only [Y6, Bool.and_eq_true] at h1
    exact ⟨h1.1.1.1, h1.1.1.2, h1.1.2, h1.2, by simpa using h2, by simpa using h3⟩
theorem qtg {n : Node} (h : firstErr n = 0) : uj n = 0 ∧ ∀ m ∈ n.kids, firstErr m = 0 := by
 rw [Zq] at h
 split at h
 ·rename_i h0; exact ⟨h0, qmz _ h⟩
 ·rename_i h0; exact absurd h h0
theorem q2f (k : Int) : most k ≤ 200 := by unfold most; split <;> (try split) <;> omega
theorem parts (n : Node) (h : checkErr n = 0) : n.kids.length ≤ 200 ∧ (n.gaps = [] ∨ (n.gaps.length : Int) = own n) ∧ ∀ (i : Nat) (m : Node), n.kids[i]? = some m → checkErr m = 0 ∧ fits n.kind i m.kind = true := by
 obtain ⟨k, h1, h2, h3⟩ := qna h
 obtain ⟨h4, h5⟩ := qtg h3
 obtain ⟨k0, k1, k2, k3, k4, k5⟩ := qwe h4
 rw [qif] at h1
 have hm := q2f n.kind
 split at h1
 ·cases h1
 ·rename_i hmost
  simp only [Option.map_eq_some_iff] at h1
  obtain ⟨a, ha, rfl⟩ := h1
  refine ⟨by omega, ?_, fun i m hi => ?_⟩
  ·unfold qet at k5
   simp only [Bool.or_eq_true, Bool.and_eq_true, decide_eq_true_eq] at k5
   exact k5.imp id (fun h => h.2)
  ·obtain ⟨b, hb, hle⟩ := qo3 _ _ _ ha m (List.mem_of_getElem? hi)
   refine ⟨q1g (qo1 m 59 b hb) (by omega) (h5 m (List.mem_of_getElem? hi)), ?_⟩
   have hk := q2o n k0
   rw [k1] at hk
   simp only [Bool.true_eq, Bool.and_eq_true] at hk
   have := qvg _ n.kids 0 hk.2 i m hi
   simpa using this
/-- The second tree is well-formed if the first one is. -/
structure Like (a b : Node) : Prop where
 kind : b.kind = a.kind
 text : b.text = a.text
 size : ∀ d, size? b d = size? a d
 first : firstErr a = 0 → firstErr b = 0
theorem Like.refl (a : Node) : Like a a := ⟨rfl, rfl, fun _ => rfl, id⟩
inductive LikeL : List Node → List Node → Prop
 | nil : LikeL [] []
 | cons {a b : Node} {l l' : List Node} (h : Like a b) (t : LikeL l l') : LikeL (a :: l) (b :: l')
theorem LikeL.refl : ∀ l : List Node, LikeL l l
 | [] => .nil
 | a :: l => .cons (.refl a) (LikeL.refl l)
theorem LikeL.app {a b c d : List Node} (h : LikeL a b) (g : LikeL c d) : LikeL (a ++ c) (b ++ d) := by
 induction h with
 | nil => exact g
 | cons h _ ih => exact .cons h ih
theorem LikeL.len {l l' : List Node} (h : LikeL l l') : l'.length = l.length := by
 induction h with
 | nil => rfl
 | cons _ _ ih => rw [List.length_cons, List.length_cons, ih]
theorem LikeL.fits {p : Int} {l l' : List Node} (h : LikeL l l') : ∀ i, vu (fun i m => fits p i m.kind) i l' = vu (fun i m => fits p i m.kind) i l := by
 induction h with
 | nil => intro i; rfl
 | cons h _ ih => intro i; simp only [vu]; rw [h.kind, ih]
theorem LikeL.size {l l' : List Node} (h : LikeL l l') (d : Nat) : sizeL? l' d = sizeL? l d := by
 induction h with
 | nil => rfl
 | cons h _ ih => rw [qam, qam, h.size, ih]
theorem LikeL.first {l l' : List Node} (h : LikeL l l') : kv l = 0 → kv l' = 0 := by
 induction h with
 | nil => intro _; rfl
 | cons h _ ih =>
   intro e
   rw [kv] at e ⊢
   split at e
   ·rename_i c; rw [if_pos (h.first c)]; exact ih e
   ·rename_i c; exact absurd e c
end Go.Proofs.YtigmilhpeodhbaaGreatDoorW.Ex.Gr
