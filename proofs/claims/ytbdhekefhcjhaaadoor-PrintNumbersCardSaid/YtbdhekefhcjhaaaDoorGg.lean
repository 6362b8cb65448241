/- The reference's words on nodes are the program's. No conditions beside those in each theorem. -/
import Derived.Test.YtbdhekefhcjhaaaDoorGf
namespace Go.Proofs.YtbdhekefhcjhaaaDoorW.Ex.Gr
open Go.Proofs.YtbdhekefhcjhaaaDoorW.Plain
open Go Go.Proofs.YtbdhekefhcjhaaaDoorW.Ex
set_option linter.all false
set_option maxRecDepth 100000
def Yt (k : Int) : Int := if k = 2 ∨ k = 13 then 3 else if k = 15 ∨ k = 24 then 2 else if k = 4 ∨ k = 7 ∨ k = 9 ∨ k = 10 ∨ k = 11 ∨ k = 12 ∨ k = 16 ∨ k = 21 ∨ k = 25 ∨ k = 26 then 1 else 0
def vu (n : Node) : Bool := if n.kind = 8 then !decide (n.text = ⟨#[]⟩) else decide (n.kind = 2 ∨ n.kind = 4 ∨ n.kind = 5 ∨ n.kind = 7 ∨ n.kind = 9 ∨ n.kind = 10 ∨ n.kind = 11 ∨ n.kind = 17 ∨ n.kind = 19 ∨ n.kind = 20 ∨ n.kind = 21 ∨ n.kind = 22)
def wordB (n : Node) : Bool :=
 if n.kind = 18 then decide (n.text = ⟨#[116, 114, 117, 101]⟩) || decide (n.text = ⟨#[102, 97, 108, 115, 101]⟩) else if n.kind = 23 then decide (n.text = ⟨#[115, 101, 108, 102]⟩)
 else if n.kind = 24 then decide (0 < level n) else if n.kind = 25 then decide (n.text = ⟨#[45]⟩) || decide (n.text = ⟨#[33]⟩) else decide (n.text = ⟨#[]⟩)
theorem kind_cases {k : Int} (h : known k = true) : k = 1 ∨ k = 2 ∨ k = 3 ∨ k = 4 ∨ k = 5 ∨ k = 6 ∨ k = 7 ∨ k = 8 ∨ k = 9 ∨ k = 10 ∨ k = 11 ∨ k = 12 ∨ k = 13 ∨ k = 14 ∨ k = 15 ∨ k = 16 ∨ k = 17 ∨ k = 18 ∨ k = 19 ∨ k = 20 ∨ k = 21 ∨ k = 22 ∨ k = 23 ∨ k = 24 ∨ k = 25 ∨ k = 26 := by have := we h; omega
theorem spelled_eq (n : Node) (h : known n.kind = true) : kc n = (vu n || wordB n) := by
 rcases kind_cases h with h | h | h | h | h | h | h | h | h | h | h | h | h | h | h | h | h | h | h | h | h | h | h | h | h | h <;> simp only [kc, vu, wordB, h, zy, shapes, Int.reduceToNat, List.getD_cons_succ, List.getD_cons_zero, memB, level, opLevel, List.any_cons, List.any_nil] <;> simp
 ·by_cases a1 : n.text = ⟨#[124]⟩ <;> by_cases a2 : n.text = ⟨#[38]⟩ <;> by_cases a3 : n.text = ⟨#[61, 61]⟩ <;> by_cases a4 : n.text = ⟨#[60]⟩ <;> by_cases a5 : n.text = ⟨#[43]⟩ <;> by_cases a6 : n.text = ⟨#[45]⟩ <;> by_cases a7 : n.text = ⟨#[42]⟩ <;> by_cases a8 : n.text = ⟨#[47]⟩ <;> simp [a1, a2, a3, a4, a5, a6, a7, a8]
theorem called_eq (n : Node) (h : known n.kind = true) : y5 n = !((decide (n.kind = 17) && !j5 n.text.data.toList) || (!decide (n.kind = 17) && vu n && !kj n.text.data.toList)) := by
 rcases kind_cases h with h | h | h | h | h | h | h | h | h | h | h | h | h | h | h | h | h | h | h | h | h | h | h | h | h | h <;> simp [y5, vu, h, zy, shapes]
theorem tab_least : ∀ k : Nat, k < 27 → 1 ≤ k → k ≠ 14 → ((shapes.getD k ⟨[], (0, 0), 0, [], 0⟩).first.length : Int) = Yt k := by decide
theorem tab_14 : (zy 14).first.length = 1 ∧ (zy 14).rest = (0, 0) := by decide
theorem all_at {α : Type} (p : Nat → α → Bool) : ∀ (l : List α) (i : Nat), jw p i l = true → ∀ (j : Nat) (m : α), l[j]? = some m → p (i + j) m = true
 | [], i, _, j, m, h => by simp at h
 | a :: l, i, ha, j, m, h => by
   simp only [jw, Bool.and_eq_true] at ha
   cases j with
   | zero => simp at h; subst h; exact ha.1
   | succ j =>
     have := all_at p l (i + 1) ha.2 j m (by simpa using h)
     rwa [Nat.add_assoc, Nat.add_comm 1] at this
theorem fits_over (n : Node) (h : (zy n.kind).rest = (0, 0)) (hl : (zy n.kind).first.length < n.kids.length) : wo n.kind n.kids = false := by
 cases hf : wo n.kind n.kids with
 | false => rfl
 | true =>
   have h1 := all_at _ n.kids 0 hf (zy n.kind).first.length n.kids[(zy n.kind).first.length] (List.getElem?_eq_getElem hl)
   have hp : Qh n.kind ((zy n.kind).first.length : Int) = (0, 0) := by
    unfold Qh
    rw [if_neg (by omega), h]
   simp only [Nat.zero_add, fits, Bool.and_eq_true] at h1
   rw [hp] at h1
   have h2 := we h1.1.2
   have h3 := h1.2
   rw [if_pos rfl] at h3
   simp only [decide_eq_true_eq] at h3
   omega
theorem kids_eq (n : Node) (h : known n.kind = true) : w0 n = (!decide ((n.kids.length : Int) < Yt n.kind) && wo n.kind n.kids) := by
 have kb := we h
 unfold w0
 by_cases h14 : n.kind = 14
 ·have e : Yt n.kind = 0 := by rw [h14]; rfl
  have ht := tab_14
  rw [← h14] at ht
  rw [e]
  by_cases h0 : n.kids.length = 0
  ·rw [if_pos ⟨h14, h0⟩, h0]
   have : n.kids = [] := List.length_eq_zero_iff.1 h0
   rw [this]; rfl
  ·rw [if_neg (fun h => h0 h.2), ht.1]
   by_cases h1 : 1 < n.kids.length
   ·rw [if_pos (.inr ⟨h1, ht.2⟩), fits_over n ht.2 (by rw [ht.1]; exact h1)]; simp
   ·rw [if_neg (by omega), decide_eq_false (by omega)]; simp
 ·have ht : ((zy n.kind).first.length : Int) = Yt n.kind := by
   have := tab_least n.kind.toNat (by omega) (by omega) (by omega)
   rw [show ((n.kind.toNat : Nat) : Int) = n.kind by omega] at this
   exact this
  rw [if_neg (fun h => h14 h.1), ← ht]
  by_cases h1 : n.kids.length < (zy n.kind).first.length
  ·rw [if_pos (.inl h1), decide_eq_true (by omega)]; simp
  ·rw [decide_eq_false (by omega)]
   by_cases h2 : n.kids.length > (zy n.kind).first.length ∧ (zy n.kind).rest = (0, 0)
   ·rw [if_pos (.inr h2), fits_over n h2.2 h2.1]; simp
   ·rw [if_neg (fun h => h.elim h1 h2)]; simp
theorem gaps_eq (n : Node) : w4 n = (!(decide (0 < (n.gaps.length : Int)) && !decide ((n.gaps.length : Int) = own n)) && uq n) := by
 unfold w4
 by_cases h : n.gaps = []
 ·simp [h, uq, jw]
 ·have : 0 < n.gaps.length := List.length_pos_iff.2 h
  simp only [h, decide_false, Bool.false_or]
  rw [decide_eq_true (show 0 < (n.gaps.length : Int) by omega)]
  cases uq n <;> simp
set_option maxHeartbeats 4000000 in
/-- treemerge/treemergeref07.least -/
theorem R7_least (k : Int) : Fn Tryd.prog G 67 [.int .i64 k] (.int .i64 (Yt k)) := by
 refine zh (T := tt) (N := 21) (rs := [.tmp 2]) (fun vs w => by simp) Tryd.func67 rfl rfl rfl rfl (by kernel_rfl) (zb rfl) (qo _ rfl) ?_
 repeat' first
  | refine zl env rfl ?_
  | refine qm (fun h => ?_) (fun h => ?_)
  | refine qr (fun h => ?_) (fun h => ?_)
  | refine qg (fun h => ?_) (fun h => ?_)
  | refine zj env rfl rfl (qq ?_)
  | refine za env rfl (qq ?_)
 all_goals refine ko ?_
 all_goals (simp_all [Yt])
set_option maxHeartbeats 4000000 in
/-- treemerge/treemergeref07.named -/
theorem J1 (n : Node) : Fn Tryd.prog G 50 [.agg (zk n)] (.bool (vu n)) := by
 refine zh (T := tt) (N := 23) (rs := [.tmp 2]) (fun vs w => by simp) Tryd.func50 rfl rfl rfl rfl (by kernel_rfl) (zb rfl) (qo _ rfl) ?_
 repeat' first
  | refine zl env rfl ?_
  | refine qm (fun h => ?_) (fun h => ?_)
  | refine qr (fun h => ?_) (fun h => ?_)
  | refine qg (fun h => ?_) (fun h => ?_)
  | refine zj env rfl rfl (qq ?_)
  | refine za env rfl (qq ?_)
 all_goals refine jo ?_
 all_goals (simp_all [vu])
set_option maxHeartbeats 4000000 in
/-- treemerge/treemergeref07.word -/
theorem R7_word (n : Node) : Fn Tryd.prog G 69 [.agg (zk n)] (.bool (wordB n)) := by
 refine zh (T := tt) (N := 38) (rs := [.tmp 2]) (fun vs w => by simp) Tryd.func69 rfl rfl rfl rfl (by kernel_rfl) (zb rfl) (qo _ rfl) ?_
 repeat' first
  | refine zl env rfl ?_
  | refine ql (R7_Level _) ?_
  | refine qm (fun h => ?_) (fun h => ?_)
  | refine qr (fun h => ?_) (fun h => ?_)
  | refine qg (fun h => ?_) (fun h => ?_)
  | refine zj env rfl rfl (qq ?_)
  | refine za env rfl (qq ?_)
 all_goals refine jo ?_
 all_goals (simp_all [wordB])
end Go.Proofs.YtbdhekefhcjhaaaDoorW.Ex.Gr
