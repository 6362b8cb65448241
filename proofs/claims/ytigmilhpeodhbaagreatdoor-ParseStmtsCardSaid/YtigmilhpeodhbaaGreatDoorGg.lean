/- The reference's words on nodes are the program's. No conditions beside those in each theorem. -/
import Derived.Test.YtigmilhpeodhbaaGreatDoorGf
namespace Go.Proofs.YtigmilhpeodhbaaGreatDoorW.Ex.Gr
open Go.Proofs.YtigmilhpeodhbaaGreatDoorW.Plain
open Go Go.Proofs.YtigmilhpeodhbaaGreatDoorW.Ex
set_option linter.all false
set_option maxRecDepth 100000
def qic (k : Int) : Int := if k = 2 ∨ k = 13 then 3 else if k = 15 ∨ k = 24 then 2 else if k = 4 ∨ k = 7 ∨ k = 9 ∨ k = 10 ∨ k = 11 ∨ k = 12 ∨ k = 16 ∨ k = 21 ∨ k = 25 ∨ k = 26 then 1 else 0
def qcc (n : Node) : Bool := if n.kind = 8 then !decide (n.text = ⟨#[]⟩) else decide (n.kind = 2 ∨ n.kind = 4 ∨ n.kind = 5 ∨ n.kind = 7 ∨ n.kind = 9 ∨ n.kind = 10 ∨ n.kind = 11 ∨ n.kind = 17 ∨ n.kind = 19 ∨ n.kind = 20 ∨ n.kind = 21 ∨ n.kind = 22)
def qsz (n : Node) : Bool :=
 if n.kind = 18 then decide (n.text = ⟨#[116, 114, 117, 101]⟩) || decide (n.text = ⟨#[102, 97, 108, 115, 101]⟩) else if n.kind = 23 then decide (n.text = ⟨#[115, 101, 108, 102]⟩)
 else if n.kind = 24 then decide (0 < level n) else if n.kind = 25 then decide (n.text = ⟨#[45]⟩) || decide (n.text = ⟨#[33]⟩) else decide (n.text = ⟨#[]⟩)
theorem qid {k : Int} (h : known k = true) : k = 1 ∨ k = 2 ∨ k = 3 ∨ k = 4 ∨ k = 5 ∨ k = 6 ∨ k = 7 ∨ k = 8 ∨ k = 9 ∨ k = 10 ∨ k = 11 ∨ k = 12 ∨ k = 13 ∨ k = 14 ∨ k = 15 ∨ k = 16 ∨ k = 17 ∨ k = 18 ∨ k = 19 ∨ k = 20 ∨ k = 21 ∨ k = 22 ∨ k = 23 ∨ k = 24 ∨ k = 25 ∨ k = 26 := by have := Yx h; omega
theorem qvr (n : Node) (h : known n.kind = true) : qb0 n = (qcc n || qsz n) := by
 rcases qid h with h | h | h | h | h | h | h | h | h | h | h | h | h | h | h | h | h | h | h | h | h | h | h | h | h | h <;> simp only [qb0, qcc, qsz, h, yw, shapes, Int.reduceToNat, List.getD_cons_succ, List.getD_cons_zero, memB, level, Js, List.any_cons, List.any_nil] <;> simp
 ·by_cases a1 : n.text = ⟨#[124]⟩ <;> by_cases a2 : n.text = ⟨#[38]⟩ <;> by_cases a3 : n.text = ⟨#[61, 61]⟩ <;> by_cases a4 : n.text = ⟨#[60]⟩ <;> by_cases a5 : n.text = ⟨#[43]⟩ <;> by_cases a6 : n.text = ⟨#[45]⟩ <;> by_cases a7 : n.text = ⟨#[42]⟩ <;> by_cases a8 : n.text = ⟨#[47]⟩ <;> simp [a1, a2, a3, a4, a5, a6, a7, a8]
theorem qzl (n : Node) (h : known n.kind = true) : Wx n = !((decide (n.kind = 17) && !kp n.text.data.toList) || (!decide (n.kind = 17) && qcc n && !Qj n.text.data.toList)) := by
 rcases qid h with h | h | h | h | h | h | h | h | h | h | h | h | h | h | h | h | h | h | h | h | h | h | h | h | h | h <;> simp [Wx, qcc, h, yw, shapes]
theorem qyq : ∀ k : Nat, k < 27 → 1 ≤ k → k ≠ 14 → ((shapes.getD k ⟨[], (0, 0), 0, [], 0⟩).first.length : Int) = qic k := by decide
theorem q4f : (yw 14).first.length = 1 ∧ (yw 14).rest = (0, 0) := by decide
theorem qwi {α : Type} (p : Nat → α → Bool) : ∀ (l : List α) (i : Nat), Qc p i l = true → ∀ (j : Nat) (m : α), l[j]? = some m → p (i + j) m = true
 | [], i, _, j, m, h => by simp at h
 | a :: l, i, ha, j, m, h => by
   simp only [Qc, Bool.and_eq_true] at ha
   cases j with
   | zero => simp at h; subst h; exact ha.1
   | succ j =>
     have := qwi p l (i + 1) ha.2 j m (by simpa using h)
     rwa [Nat.add_assoc, Nat.add_comm 1] at this
theorem qqo (n : Node) (h : (yw n.kind).rest = (0, 0)) (hl : (yw n.kind).first.length < n.kids.length) : qa4 n.kind n.kids = false := by
 cases hf : qa4 n.kind n.kids with
 | false => rfl
 | true =>
   have h1 := qwi _ n.kids 0 hf (yw n.kind).first.length n.kids[(yw n.kind).first.length] (List.getElem?_eq_getElem hl)
   have hp : qe1 n.kind ((yw n.kind).first.length : Int) = (0, 0) := by
    unfold qe1
    rw [if_neg (by omega), h]
   simp only [Nat.zero_add, fits, Bool.and_eq_true] at h1
   rw [hp] at h1
   have h2 := Yx h1.1.2
   have h3 := h1.2
   rw [if_pos rfl] at h3
   simp only [decide_eq_true_eq] at h3
   omega
theorem q28 (n : Node) (h : known n.kind = true) : qgi n = (!decide ((n.kids.length : Int) < qic n.kind) && qa4 n.kind n.kids) := by
 have kb := Yx h
 unfold qgi
 by_cases h14 : n.kind = 14
 ·have e : qic n.kind = 0 := by rw [h14]; rfl
  have ht := q4f
  rw [← h14] at ht
  rw [e]
  by_cases h0 : n.kids.length = 0
  ·rw [if_pos ⟨h14, h0⟩, h0]
   have : n.kids = [] := List.length_eq_zero_iff.1 h0
   rw [this]; rfl
  ·rw [if_neg (fun h => h0 h.2), ht.1]
   by_cases h1 : 1 < n.kids.length
   ·rw [if_pos (.inr ⟨h1, ht.2⟩), qqo n ht.2 (by rw [ht.1]; exact h1)]; simp
   ·rw [if_neg (by omega), decide_eq_false (by omega)]; simp
 ·have ht : ((yw n.kind).first.length : Int) = qic n.kind := by
   have := qyq n.kind.toNat (by omega) (by omega) (by omega)
   rw [show ((n.kind.toNat : Nat) : Int) = n.kind by omega] at this
   exact this
  rw [if_neg (fun h => h14 h.1), ← ht]
  by_cases h1 : n.kids.length < (yw n.kind).first.length
  ·rw [if_pos (.inl h1), decide_eq_true (by omega)]; simp
  ·rw [decide_eq_false (by omega)]
   by_cases h2 : n.kids.length > (yw n.kind).first.length ∧ (yw n.kind).rest = (0, 0)
   ·rw [if_pos (.inr h2), qqo n h2.2 h2.1]; simp
   ·rw [if_neg (fun h => h.elim h1 h2)]; simp
theorem q3b (n : Node) : qgj n = (!(decide (0 < (n.gaps.length : Int)) && !decide ((n.gaps.length : Int) = own n)) && qc8 n) := by
 unfold qgj
 by_cases h : n.gaps = []
 ·simp [h, qc8, Qc]
 ·have : 0 < n.gaps.length := List.length_pos_iff.2 h
  simp only [h, decide_false, Bool.false_or]
  rw [decide_eq_true (show 0 < (n.gaps.length : Int) by omega)]
  cases qc8 n <;> simp
set_option maxHeartbeats 4000000 in
/-- treemerge/treemergeref07.least -/
theorem qor (k : Int) : Fn Tryz.prog G 156 [.int .i64 k] (.int .i64 (qic k)) := by
 refine zk (T := tt) (N := 21) (rs := [.tmp 2]) (fun vs w => by simp) Tryz.func156 rfl rfl rfl rfl (by kernel_rfl) (zl rfl) (qz _ rfl) ?_
 repeat' first
  | refine ji env rfl ?_
  | refine qr (fun h => ?_) (fun h => ?_)
  | refine qu (fun h => ?_) (fun h => ?_)
  | refine qj (fun h => ?_) (fun h => ?_)
  | refine zd env rfl rfl (q4 ?_)
  | refine zm env rfl (q4 ?_)
 all_goals refine Jt ?_
 all_goals (simp_all [qic])
set_option maxHeartbeats 4000000 in
/-- treemerge/treemergeref07.named -/
theorem qgv (n : Node) : Fn Tryz.prog G 148 [.agg (zf n)] (.bool (qcc n)) := by
 refine zk (T := tt) (N := 23) (rs := [.tmp 2]) (fun vs w => by simp) Tryz.func148 rfl rfl rfl rfl (by kernel_rfl) (zl rfl) (qz _ rfl) ?_
 repeat' first
  | refine ji env rfl ?_
  | refine qr (fun h => ?_) (fun h => ?_)
  | refine qu (fun h => ?_) (fun h => ?_)
  | refine qj (fun h => ?_) (fun h => ?_)
  | refine zd env rfl rfl (q4 ?_)
  | refine zm env rfl (q4 ?_)
 all_goals refine wy ?_
 all_goals (simp_all [qcc])
set_option maxHeartbeats 4000000 in
/-- treemerge/treemergeref07.word -/
theorem q3n (n : Node) : Fn Tryz.prog G 158 [.agg (zf n)] (.bool (qsz n)) := by
 refine zk (T := tt) (N := 38) (rs := [.tmp 2]) (fun vs w => by simp) Tryz.func158 rfl rfl rfl rfl (by kernel_rfl) (zl rfl) (qz _ rfl) ?_
 repeat' first
  | refine ji env rfl ?_
  | refine ql (qjz _) ?_
  | refine qr (fun h => ?_) (fun h => ?_)
  | refine qu (fun h => ?_) (fun h => ?_)
  | refine qj (fun h => ?_) (fun h => ?_)
  | refine zd env rfl rfl (q4 ?_)
  | refine zm env rfl (q4 ?_)
 all_goals refine wy ?_
 all_goals (simp_all [qsz])
end Go.Proofs.YtigmilhpeodhbaaGreatDoorW.Ex.Gr
