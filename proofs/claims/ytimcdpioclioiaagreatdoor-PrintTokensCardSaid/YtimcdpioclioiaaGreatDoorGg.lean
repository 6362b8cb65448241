/- The reference's words on nodes are the program's. No conditions beside those in each theorem. -/
import Derived.Test.YtimcdpioclioiaaGreatDoorGf
namespace Go.Proofs.YtimcdpioclioiaaGreatDoorW.Ex.Gr
open Go.Proofs.YtimcdpioclioiaaGreatDoorW.Plain
open Go Go.Proofs.YtimcdpioclioiaaGreatDoorW.Ex
set_option linter.all false
set_option maxRecDepth 100000
def Kg (k : Int) : Int := if k = 2 ∨ k = 13 then 3 else if k = 15 ∨ k = 24 then 2 else if k = 4 ∨ k = 7 ∨ k = 9 ∨ k = 10 ∨ k = 11 ∨ k = 12 ∨ k = 16 ∨ k = 21 ∨ k = 25 ∨ k = 26 then 1 else 0
def Qa (n : Node) : Bool := if n.kind = 8 then !decide (n.text = ⟨#[]⟩) else decide (n.kind = 2 ∨ n.kind = 4 ∨ n.kind = 5 ∨ n.kind = 7 ∨ n.kind = 9 ∨ n.kind = 10 ∨ n.kind = 11 ∨ n.kind = 17 ∨ n.kind = 19 ∨ n.kind = 20 ∨ n.kind = 21 ∨ n.kind = 22)
def wordB (n : Node) : Bool :=
 if n.kind = 18 then decide (n.text = ⟨#[116, 114, 117, 101]⟩) || decide (n.text = ⟨#[102, 97, 108, 115, 101]⟩) else if n.kind = 23 then decide (n.text = ⟨#[115, 101, 108, 102]⟩)
 else if n.kind = 24 then decide (0 < level n) else if n.kind = 25 then decide (n.text = ⟨#[45]⟩) || decide (n.text = ⟨#[33]⟩) else decide (n.text = ⟨#[]⟩)
theorem kind_cases {k : Int} (h : known k = true) : k = 1 ∨ k = 2 ∨ k = 3 ∨ k = 4 ∨ k = 5 ∨ k = 6 ∨ k = 7 ∨ k = 8 ∨ k = 9 ∨ k = 10 ∨ k = 11 ∨ k = 12 ∨ k = 13 ∨ k = 14 ∨ k = 15 ∨ k = 16 ∨ k = 17 ∨ k = 18 ∨ k = 19 ∨ k = 20 ∨ k = 21 ∨ k = 22 ∨ k = 23 ∨ k = 24 ∨ k = 25 ∨ k = 26 := by have := wm h; omega
theorem spelled_eq (n : Node) (h : known n.kind = true) : y5 n = (Qa n || wordB n) := by
 rcases kind_cases h with h | h | h | h | h | h | h | h | h | h | h | h | h | h | h | h | h | h | h | h | h | h | h | h | h | h <;> simp only [y5, Qa, wordB, h, zw, shapes, Int.reduceToNat, List.getD_cons_succ, List.getD_cons_zero, memB, level, opLevel, List.any_cons, List.any_nil] <;> simp
 ·by_cases a1 : n.text = ⟨#[124]⟩ <;> by_cases a2 : n.text = ⟨#[38]⟩ <;> by_cases a3 : n.text = ⟨#[61, 61]⟩ <;> by_cases a4 : n.text = ⟨#[60]⟩ <;> by_cases a5 : n.text = ⟨#[43]⟩ <;> by_cases a6 : n.text = ⟨#[45]⟩ <;> by_cases a7 : n.text = ⟨#[42]⟩ <;> by_cases a8 : n.text = ⟨#[47]⟩ <;> simp [a1, a2, a3, a4, a5, a6, a7, a8]
theorem called_eq (n : Node) (h : known n.kind = true) : yy n = !((decide (n.kind = 17) && !jg n.text.data.toList) || (!decide (n.kind = 17) && Qa n && !kl n.text.data.toList)) := by
 rcases kind_cases h with h | h | h | h | h | h | h | h | h | h | h | h | h | h | h | h | h | h | h | h | h | h | h | h | h | h <;> simp [yy, Qa, h, zw, shapes]
theorem tab_least : ∀ k : Nat, k < 27 → 1 ≤ k → k ≠ 14 → ((shapes.getD k ⟨[], (0, 0), 0, [], 0⟩).first.length : Int) = Kg k := by decide
theorem tab_14 : (zw 14).first.length = 1 ∧ (zw 14).rest = (0, 0) := by decide
theorem all_at {α : Type} (p : Nat → α → Bool) : ∀ (l : List α) (i : Nat), j4 p i l = true → ∀ (j : Nat) (m : α), l[j]? = some m → p (i + j) m = true
 | [], i, _, j, m, h => by simp at h
 | a :: l, i, ha, j, m, h => by
   simp only [j4, Bool.and_eq_true] at ha
   cases j with
   | zero => simp at h; subst h; exact ha.1
   | succ j =>
     have := all_at p l (i + 1) ha.2 j m (by simpa using h)
     rwa [Nat.add_assoc, Nat.add_comm 1] at this
theorem fits_over (n : Node) (h : (zw n.kind).rest = (0, 0)) (hl : (zw n.kind).first.length < n.kids.length) : ut n.kind n.kids = false := by
 cases hf : ut n.kind n.kids with
 | false => rfl
 | true =>
   have h1 := all_at _ n.kids 0 hf (zw n.kind).first.length n.kids[(zw n.kind).first.length] (List.getElem?_eq_getElem hl)
   have hp : vy n.kind ((zw n.kind).first.length : Int) = (0, 0) := by
    unfold vy
    rw [if_neg (by omega), h]
   simp only [Nat.zero_add, fits, Bool.and_eq_true] at h1
   rw [hp] at h1
   have h2 := wm h1.1.2
   have h3 := h1.2
   rw [if_pos rfl] at h3
   simp only [decide_eq_true_eq] at h3
   omega
theorem kids_eq (n : Node) (h : known n.kind = true) : u3 n = (!decide ((n.kids.length : Int) < Kg n.kind) && ut n.kind n.kids) := by
 have kb := wm h
 unfold u3
 by_cases h14 : n.kind = 14
 ·have e : Kg n.kind = 0 := by rw [h14]; rfl
  have ht := tab_14
  rw [← h14] at ht
  rw [e]
  by_cases h0 : n.kids.length = 0
  ·rw [if_pos ⟨h14, h0⟩, h0]
   have : n.kids = [] := List.length_eq_zero_iff.1 h0
   rw [this]; rfl
  ·rw [if_neg (fun h => h0 h.2), ht.1]
   by_cases h1 : 1 < n.kids.length
   ·rw [if_pos (.inr ⟨h1, ht.2⟩), fits_over n ht.2 (by rw [ht.1]; exact h1)]; simp
   ·rw [if_neg (by omega), decide_eq_false (by omega)]; simp
 ·have ht : ((zw n.kind).first.length : Int) = Kg n.kind := by
   have := tab_least n.kind.toNat (by omega) (by omega) (by omega)
   rw [show ((n.kind.toNat : Nat) : Int) = n.kind by omega] at this
   exact this
  rw [if_neg (fun h => h14 h.1), ← ht]
  by_cases h1 : n.kids.length < (zw n.kind).first.length
  ·rw [if_pos (.inl h1), decide_eq_true (by omega)]; simp
  ·rw [decide_eq_false (by omega)]
   by_cases h2 : n.kids.length > (zw n.kind).first.length ∧ (zw n.kind).rest = (0, 0)
   ·rw [if_pos (.inr h2), fits_over n h2.2 h2.1]; simp
   ·rw [if_neg (fun h => h.elim h1 h2)]; simp
theorem gaps_eq (n : Node) : ur n = (!(decide (0 < (n.gaps.length : Int)) && !decide ((n.gaps.length : Int) = own n)) && vl n) := by
 unfold ur
 by_cases h : n.gaps = []
 ·simp [h, vl, j4]
 ·have : 0 < n.gaps.length := List.length_pos_iff.2 h
  simp only [h, decide_false, Bool.false_or]
  rw [decide_eq_true (show 0 < (n.gaps.length : Int) by omega)]
  cases vl n <;> simp
set_option maxHeartbeats 4000000 in
/-- treemerge/treemergeref07.least -/
theorem R7_least (k : Int) : Fn Tryz.prog G 78 [.int .i64 k] (.int .i64 (Kg k)) := by
 refine zg (T := tt) (N := 21) (rs := [.tmp 2]) (fun vs w => by simp) Tryz.func78 rfl rfl rfl rfl (by kernel_rfl) (zd rfl) (qo _ rfl) ?_
 repeat' first
  | refine zl env rfl ?_
  | refine qm (fun h => ?_) (fun h => ?_)
  | refine qr (fun h => ?_) (fun h => ?_)
  | refine qg (fun h => ?_) (fun h => ?_)
  | refine zi env rfl rfl (qq ?_)
  | refine zb env rfl (qq ?_)
 all_goals refine kw ?_
 all_goals (simp_all [Kg])
set_option maxHeartbeats 4000000 in
/-- treemerge/treemergeref07.named -/
theorem Ye (n : Node) : Fn Tryz.prog G 61 [.agg (zo n)] (.bool (Qa n)) := by
 refine zg (T := tt) (N := 23) (rs := [.tmp 2]) (fun vs w => by simp) Tryz.func61 rfl rfl rfl rfl (by kernel_rfl) (zd rfl) (qo _ rfl) ?_
 repeat' first
  | refine zl env rfl ?_
  | refine qm (fun h => ?_) (fun h => ?_)
  | refine qr (fun h => ?_) (fun h => ?_)
  | refine qg (fun h => ?_) (fun h => ?_)
  | refine zi env rfl rfl (qq ?_)
  | refine zb env rfl (qq ?_)
 all_goals refine ju ?_
 all_goals (simp_all [Qa])
set_option maxHeartbeats 4000000 in
/-- treemerge/treemergeref07.word -/
theorem R7_word (n : Node) : Fn Tryz.prog G 80 [.agg (zo n)] (.bool (wordB n)) := by
 refine zg (T := tt) (N := 38) (rs := [.tmp 2]) (fun vs w => by simp) Tryz.func80 rfl rfl rfl rfl (by kernel_rfl) (zd rfl) (qo _ rfl) ?_
 repeat' first
  | refine zl env rfl ?_
  | refine ql (R7_Level _) ?_
  | refine qm (fun h => ?_) (fun h => ?_)
  | refine qr (fun h => ?_) (fun h => ?_)
  | refine qg (fun h => ?_) (fun h => ?_)
  | refine zi env rfl rfl (qq ?_)
  | refine zb env rfl (qq ?_)
 all_goals refine ju ?_
 all_goals (simp_all [wordB])
end Go.Proofs.YtimcdpioclioiaaGreatDoorW.Ex.Gr
