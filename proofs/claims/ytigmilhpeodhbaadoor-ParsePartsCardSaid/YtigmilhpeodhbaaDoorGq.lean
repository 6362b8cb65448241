/- Well-formed trees: plain facts. Conditions: those in each theorem. -/
import Derived.Test.YtigmilhpeodhbaaDoorGg
namespace Go.Proofs.YtigmilhpeodhbaaDoorW.Ex.Gr
open Go Go.Proofs.YtigmilhpeodhbaaDoorW.Ex
set_option linter.all false
set_option maxRecDepth 100000
mutual
theorem qld : ∀ (n : Node) (d s : Nat), size? n d = some s → size? n (d + 1) = some s
 | .mk k t g l, 0, s, h => by simp [size?] at h
 | .mk k t g l, d + 1, s, h => by
   rw [qf8] at h ⊢
   split at h
   ·cases h
   rename_i hm
   rw [if_neg hm]
   simp only [Option.map_eq_some_iff] at h ⊢
   obtain ⟨a, ha, rfl⟩ := h
   exact ⟨a, qis l d a ha, rfl⟩
theorem qis : ∀ (l : List Node) (d s : Nat), sizeL? l d = some s → sizeL? l (d + 1) = some s
 | [], d, s, h => h
 | n :: l, d, s, h => by
   rw [Kz] at h ⊢
   cases ha : size? n d with
   | none => rw [ha] at h; cases h
   | some a =>
     cases hb : sizeL? l d with
     | none => rw [ha, hb] at h; cases h
     | some b =>
       rw [ha, hb] at h
       rw [qld n d a ha, qis l d b hb]
       exact h
end
theorem qle : ∀ (l : List Node) (d s : Nat), sizeL? l d = some s → ∀ m ∈ l, ∃ a, size? m d = some a ∧ a ≤ s
 | [], d, s, h, m, hm => by cases hm
 | n :: l, d, s, h, m, hm => by
   rw [Kz] at h
   cases ha : size? n d with
   | none => rw [ha] at h; cases h
   | some a =>
     cases hb : sizeL? l d with
     | none => rw [ha, hb] at h; cases h
     | some b =>
       rw [ha, hb] at h
       simp only [Option.some.injEq] at h
       rcases List.mem_cons.1 hm with rfl | hm
       ·exact ⟨a, ha, by omega⟩
       obtain ⟨c, hc, hle⟩ := qle l d b hb m hm
       exact ⟨c, hc, by omega⟩
theorem qjv : ∀ (l : List Node), y3 l = 0 → ∀ m ∈ l, firstErr m = 0
 | [], h, m, hm => by cases hm
 | n :: l, h, m, hm => by
   rw [y3] at h
   split at h
   ·rename_i h0
    rcases List.mem_cons.1 hm with rfl | hm
    ·exact h0
    exact qjv l h m hm
   rename_i h0; exact absurd h h0
theorem qpv {n : Node} (h : checkErr n = 0) : ∃ k, size? n 60 = some k ∧ k ≤ 4000 ∧ firstErr n = 0 := by
 unfold checkErr at h
 split at h
 ·rename_i k hk
  split at h
  ·rename_i hle; exact ⟨k, hk, hle, h⟩
  cases h
 cases h
theorem qxq {n : Node} {k : Nat} (h1 : size? n 60 = some k) (h2 : k ≤ 4000) (h3 : firstErr n = 0) : checkErr n = 0 := by
 unfold checkErr
 rw [h1]
 simp only [if_pos h2, h3]
theorem qmz {n : Node} (h : wu n = 0) : known n.kind = true ∧ Qz n = true ∧ spelledOk n = true ∧ levelsOk n = true ∧ calledOk n = true ∧ qcn n = true := by
 unfold wu at h
 split at h
 ·cases h
 rename_i h1
 split at h
 ·cases h
 rename_i h2
 split at h
 ·cases h
 rename_i h3
 have h1 : J9 n = true := by simpa using h1
 simp only [J9, Bool.and_eq_true] at h1
 exact ⟨h1.1.1.1, h1.1.1.2, h1.1.2, h1.2, by simpa using h2, by simpa using h3⟩
theorem qju {n : Node} (h : firstErr n = 0) : wu n = 0 ∧ ∀ m ∈ n.kids, firstErr m = 0 := by
 rw [Q7] at h
 split at h
 ·rename_i h0; exact ⟨h0, qjv _ h⟩
 rename_i h0; exact absurd h h0
theorem qyy (k : Int) : most k ≤ 200 := by unfold most; split <;> (try split) <;> omega
theorem parts (n : Node) (h : checkErr n = 0) : n.kids.length ≤ 200 ∧ (n.gaps = [] ∨ (n.gaps.length : Int) = own n) ∧ ∀ (i : Nat) (m : Node), n.kids[i]? = some m → checkErr m = 0 ∧ fits n.kind i m.kind = true := by
 obtain ⟨k, h1, h2, h3⟩ := qpv h
 obtain ⟨h4, h5⟩ := qju h3
 obtain ⟨k0, k1, k2, k3, k4, k5⟩ := qmz h4
 rw [qf8] at h1
 have hm := qyy n.kind
 split at h1
 ·cases h1
 rename_i hmost
 simp only [Option.map_eq_some_iff] at h1
 obtain ⟨a, ha, rfl⟩ := h1
 refine ⟨by omega, ?_, fun i m hi => ?_⟩
 ·unfold qcn at k5
  simp only [Bool.or_eq_true, Bool.and_eq_true, decide_eq_true_eq] at k5
  exact k5.imp id (fun h => h.2)
 obtain ⟨b, hb, hle⟩ := qle _ _ _ ha m (List.mem_of_getElem? hi)
 refine ⟨qxq (qld m 59 b hb) (by omega) (h5 m (List.mem_of_getElem? hi)), ?_⟩
 have hk := qy5 n k0
 rw [k1] at hk
 simp only [Bool.true_eq, Bool.and_eq_true] at hk
 have := qnp _ n.kids 0 hk.2 i m hi
 simpa using this
structure Like (a b : Node) : Prop where
 kind : b.kind = a.kind
 text : b.text = a.text
 size : ∀ d, size? b d = size? a d
 first : firstErr a = 0 → firstErr b = 0
theorem Like.refl (a : Node) : Like a a := ⟨rfl, rfl, fun _ => rfl, id⟩
inductive LikeL : List Node → List Node → Prop
 | nil : LikeL [] []
 | cons {a b : Node} {l l' : List Node} (h : Like a b) (t : LikeL l l') : LikeL (a :: l) (b :: l')
theorem LikeL.refl : ∀ l : List Node, LikeL l l
 | [] => .nil
 | a :: l => .cons (.refl a) (LikeL.refl l)
theorem LikeL.app {a b c d : List Node} (h : LikeL a b) (g : LikeL c d) : LikeL (a ++ c) (b ++ d) := by
 induction h with
 | nil => exact g
 | cons h _ ih => exact .cons h ih
theorem LikeL.len {l l' : List Node} (h : LikeL l l') : l'.length = l.length := by
 induction h with
 | nil => rfl
 | cons _ _ ih => rw [List.length_cons, List.length_cons, ih]
theorem LikeL.fits {p : Int} {l l' : List Node} (h : LikeL l l') : ∀ i, vd (fun i m => fits p i m.kind) i l' = vd (fun i m => fits p i m.kind) i l := by
 induction h with
 | nil => intro i; rfl
 | cons h _ ih => intro i; simp only [vd]; rw [h.kind, ih]
theorem LikeL.lev {l l' : List Node} (h : LikeL l l') : ∀ i, level (l'.getD i qwl) = level (l.getD i qwl) := by
 induction h with
 | nil => intro i; rfl
 | cons h _ ih =>
   intro i
   cases i with
   | zero => show level _ = level _; unfold level; simp only [List.getD_cons_zero]; rw [h.kind, h.text]
   | succ i => simpa using ih i
theorem LikeL.size {l l' : List Node} (h : LikeL l l') (d : Nat) : sizeL? l' d = sizeL? l d := by
 induction h with
 | nil => rfl
 | cons h _ ih => rw [Kz, Kz, h.size, ih]
theorem LikeL.first {l l' : List Node} (h : LikeL l l') : y3 l = 0 → y3 l' = 0 := by
 induction h with
 | nil => intro _; rfl
 | cons h _ ih =>
   intro e
   rw [y3] at e ⊢
   split at e
   ·rename_i c; rw [if_pos (h.first c)]; exact ih e
   rename_i c; exact absurd e c
end Go.Proofs.YtigmilhpeodhbaaDoorW.Ex.Gr
