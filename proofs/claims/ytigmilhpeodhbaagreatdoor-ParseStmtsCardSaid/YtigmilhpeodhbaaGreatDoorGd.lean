/- Which kind may be a kid at which position of another kind. No conditions beside those in each theorem. -/
import Derived.Test.YtigmilhpeodhbaaGreatDoorGc
namespace Go.Proofs.YtigmilhpeodhbaaGreatDoorW.Ex.Gr
open Go Go.Proofs.YtigmilhpeodhbaaGreatDoorW.Ex
set_option linter.all false
set_option maxRecDepth 100000
theorem qoe {parent pos kid : Int} (h : known parent = false ∨ pos < 0 ∨ known kid = false) : fits parent pos kid = false := by
 rcases h with h | h | h
 ·simp [fits, h]
 ·simp [fits, show ¬ 0 ≤ pos by omega]
 ·simp [fits, h]
theorem q1s {s : Shape} {pos : Int} (h0 : 0 ≤ pos) (h : pos < s.first.length) : (s.first.map qqc)[pos.toNat]? = some [.int .i64 (s.first.getD pos.toNat (0, 0)).1, .int .i64 (s.first.getD pos.toNat (0, 0)).2] := by
 have : pos.toNat < s.first.length := by omega
 rw [List.getElem?_map, List.getD_eq_getElem?_getD, List.getElem?_eq_getElem this]
 rfl
set_option maxHeartbeats 4000000 in
/-- treemerge/grammar.Fits -/
theorem qr0 (parent pos kid : Int) : Fn Tryz.prog G 114 [.int .i64 parent, .int .i64 pos, .int .i64 kid] (.bool (fits parent pos kid)) := by
 cases hp : known parent
 case false =>
  rw [qoe (.inl hp)]
  refine zk (T := tt) (N := 48) (rs := [.tmp 6]) (fun vs w => by simp) Tryz.func114 rfl rfl rfl rfl (by kernel_rfl) (zl rfl) (qz _ rfl) ?_
  repeat' first
   | refine ji env rfl ?_
   | (refine qe ?_ ?_; (· simp only [hp, Bool.not_true, Bool.not_false]))
   | (refine qf ?_ ?_; (· simp only [hp, Bool.not_true, Bool.not_false]))
   | (refine qh ?_ ?_; (· simp only [hp, Bool.not_true, Bool.not_false]))
   | (refine qg ?_ ?_; (· simp only [hp, Bool.not_true, Bool.not_false]))
   | (refine qo ?_ ?_; (· simp only [hp, Bool.not_true, Bool.not_false]))
   | (refine qp ?_ ?_; (· simp only [hp, Bool.not_true, Bool.not_false]))
   | refine ql (wd _) ?_
   | refine ql (Yi _) ?_
   | refine qr (fun h => ?_) (fun h => ?_)
   | refine qu (fun h => ?_) (fun h => ?_)
   | refine qj (fun h => ?_) (fun h => ?_)
   | refine zd env rfl rfl (q4 ?_)
   | refine zm env rfl (q4 ?_)
  all_goals rfl
 cases hp0 : decide (pos < 0)
 case true =>
  rw [qoe (.inr (.inl (of_decide_eq_true hp0)))]
  refine zk (T := tt) (N := 48) (rs := [.tmp 6]) (fun vs w => by simp) Tryz.func114 rfl rfl rfl rfl (by kernel_rfl) (zl rfl) (qz _ rfl) ?_
  repeat' first
   | refine ji env rfl ?_
   | (refine qe ?_ ?_; (· simp only [hp, hp0, Bool.not_true, Bool.not_false]))
   | (refine qf ?_ ?_; (· simp only [hp, hp0, Bool.not_true, Bool.not_false]))
   | (refine qh ?_ ?_; (· simp only [hp, hp0, Bool.not_true, Bool.not_false]))
   | (refine qg ?_ ?_; (· simp only [hp, hp0, Bool.not_true, Bool.not_false]))
   | (refine qo ?_ ?_; (· simp only [hp, hp0, Bool.not_true, Bool.not_false]))
   | (refine qp ?_ ?_; (· simp only [hp, hp0, Bool.not_true, Bool.not_false]))
   | refine ql (wd _) ?_
   | refine ql (Yi _) ?_
   | refine qr (fun h => ?_) (fun h => ?_)
   | refine qu (fun h => ?_) (fun h => ?_)
   | refine qj (fun h => ?_) (fun h => ?_)
   | refine zd env rfl rfl (q4 ?_)
   | refine zm env rfl (q4 ?_)
  all_goals rfl
 cases hk : known kid
 case false =>
  rw [qoe (.inr (.inr hk))]
  refine zk (T := tt) (N := 48) (rs := [.tmp 6]) (fun vs w => by simp) Tryz.func114 rfl rfl rfl rfl (by kernel_rfl) (zl rfl) (qz _ rfl) ?_
  repeat' first
   | refine ji env rfl ?_
   | (refine qe ?_ ?_; (· simp only [hp, hp0, hk, Bool.not_true, Bool.not_false]))
   | (refine qf ?_ ?_; (· simp only [hp, hp0, hk, Bool.not_true, Bool.not_false]))
   | (refine qh ?_ ?_; (· simp only [hp, hp0, hk, Bool.not_true, Bool.not_false]))
   | (refine qg ?_ ?_; (· simp only [hp, hp0, hk, Bool.not_true, Bool.not_false]))
   | (refine qo ?_ ?_; (· simp only [hp, hp0, hk, Bool.not_true, Bool.not_false]))
   | (refine qp ?_ ?_; (· simp only [hp, hp0, hk, Bool.not_true, Bool.not_false]))
   | refine ql (wd _) ?_
   | refine ql (Yi _) ?_
   | refine qr (fun h => ?_) (fun h => ?_)
   | refine qu (fun h => ?_) (fun h => ?_)
   | refine qj (fun h => ?_) (fun h => ?_)
   | refine zd env rfl rfl (q4 ?_)
   | refine zm env rfl (q4 ?_)
  all_goals rfl
 have kb := Yx hp
 have h0 : 0 ≤ parent := by omega
 have h2 : parent.toNat < 27 := by omega
 have hg := qjn parent h2
 have hq : 0 ≤ pos := by simpa using hp0
 have hfit : fits parent pos kid = (if (qe1 parent pos).2 = 0 then decide ((qe1 parent pos).1 = kid) else decide ((qe1 parent pos).2 = Yq kid)) := by simp [fits, hp, hk, hq]
 rw [hfit]
 have hpart : ∀ pos : Int, qe1 parent pos = if pos < (yw parent).first.length then (yw parent).first.getD pos.toNat (0, 0) else (yw parent).rest := fun _ => rfl
 rw [hpart]
 clear hpart hfit kb
 generalize yw parent = s at *
 by_cases hl : pos < s.first.length
 case neg =>
  have hl' : decide (pos < ((s.first.map qqc).length : Int)) = false := by simpa using hl
  simp only [if_neg hl]
  refine zk (T := tt) (N := 48) (rs := [.tmp 6]) (fun vs w => by simp) Tryz.func114 rfl rfl rfl rfl (by kernel_rfl) (zl rfl) (qz _ rfl) ?_
  repeat' first
   | refine ji env rfl ?_
   | (refine qe ?_ ?_; (· simp only [hp, hp0, hk, hl', Bool.not_true, Bool.not_false]))
   | (refine qf ?_ ?_; (· simp only [hp, hp0, hk, hl', Bool.not_true, Bool.not_false]))
   | (refine qh ?_ ?_; (· simp only [hp, hp0, hk, hl', Bool.not_true, Bool.not_false]))
   | (refine qg ?_ ?_; (· simp only [hp, hp0, hk, hl', Bool.not_true, Bool.not_false]))
   | (refine qo ?_ ?_; (· simp only [hp, hp0, hk, hl', Bool.not_true, Bool.not_false]))
   | (refine qp ?_ ?_; (· simp only [hp, hp0, hk, hl', Bool.not_true, Bool.not_false]))
   | refine qkt env rfl rfl rfl rfl h0 h2 hg ?_
   | refine ql (wd _) ?_
   | refine ql (Yi _) ?_
   | refine qr (fun h => ?_) (fun h => ?_)
   | refine qu (fun h => ?_) (fun h => ?_)
   | refine qj (fun h => ?_) (fun h => ?_)
   | refine zd env rfl rfl (q4 ?_)
   | refine zm env rfl (q4 ?_)
  all_goals refine wy ?_
  all_goals simp_all
 have hl' : decide (pos < ((s.first.map qqc).length : Int)) = true := by simpa using hl
 have hx := q1s hq hl
 simp only [if_pos hl]
 generalize s.first.getD pos.toNat (0, 0) = p at *
 refine zk (T := tt) (N := 48) (rs := [.tmp 6]) (fun vs w => by simp) Tryz.func114 rfl rfl rfl rfl (by kernel_rfl) (zl rfl) (qz _ rfl) ?_
 repeat' first
  | refine ji env rfl ?_
  | (refine qe ?_ ?_; (· simp only [hp, hp0, hk, hl', Bool.not_true, Bool.not_false]))
  | (refine qf ?_ ?_; (· simp only [hp, hp0, hk, hl', Bool.not_true, Bool.not_false]))
  | (refine qh ?_ ?_; (· simp only [hp, hp0, hk, hl', Bool.not_true, Bool.not_false]))
  | (refine qg ?_ ?_; (· simp only [hp, hp0, hk, hl', Bool.not_true, Bool.not_false]))
  | (refine qo ?_ ?_; (· simp only [hp, hp0, hk, hl', Bool.not_true, Bool.not_false]))
  | (refine qp ?_ ?_; (· simp only [hp, hp0, hk, hl', Bool.not_true, Bool.not_false]))
  | refine qkt env rfl rfl rfl rfl h0 h2 hg ?_
  | refine qai env rfl rfl rfl rfl (Int.toNat_of_nonneg hq).symm hx ?_
  | refine ql (wd _) ?_
  | refine ql (Yi _) ?_
  | refine qr (fun h => ?_) (fun h => ?_)
  | refine qu (fun h => ?_) (fun h => ?_)
  | refine qj (fun h => ?_) (fun h => ?_)
  | refine zd env rfl rfl (q4 ?_)
  | refine zm env rfl (q4 ?_)
 all_goals refine wy ?_
 all_goals simp_all
set_option maxHeartbeats 4000000
def qw6 (parent pos kid : Int) : Bool :=
 if pos < 0 then false
 else if parent = 1 then decide (Yq kid = 1)
 else if parent = 2 then (decide (pos = 0) && decide (kid = 3)) || (decide (pos = 1) && decide (kid = 5)) || (decide (pos = 2) && decide (kid = 6))
 else if parent = 3 then decide (kid = 4)
 else if parent = 4 then decide (pos = 0) && decide (kid = 5)
 else if parent = 6 then decide (Yq kid = 2)
 else if parent = 7 then (decide (pos = 0) && decide (kid = 8)) || (decide (0 < pos) && decide (kid = 2))
 else if parent = 13 then (decide (pos = 0) && decide (Yq kid = 3)) || (decide (pos = 1) && decide (kid = 6)) || (decide (pos = 2) && decide (kid = 14))
 else if parent = 14 then decide (pos = 0) && decide (kid = 6)
 else if parent = 15 then (decide (pos = 0) && decide (Yq kid = 3)) || (decide (pos = 1) && decide (kid = 6))
 else if parent = 20 ∨ parent = 21 then decide (Yq kid = 3)
 else if parent = 24 then decide (pos < 2) && decide (Yq kid = 3)
 else if parent = 9 ∨ parent = 10 ∨ parent = 11 ∨ parent = 12 ∨ parent = 16 ∨ parent = 25 ∨ parent = 26 then decide (pos = 0) && decide (Yq kid = 3)
 else false
theorem g1 (k : Int) : (Yq k = 1) = (k = 2 ∨ k = 7 ∨ k = 9) := by
 apply propext; unfold Yq; (repeat' split) <;> omega
theorem g1' (k : Int) : (1 = Yq k) = (k = 2 ∨ k = 7 ∨ k = 9) := by rw [← g1]; exact propext ⟨Eq.symm, Eq.symm⟩
theorem g2 (k : Int) : (Yq k = 2) = (k = 10 ∨ k = 11 ∨ k = 12 ∨ k = 13 ∨ k = 15 ∨ k = 16) := by
 apply propext; unfold Yq; (repeat' split) <;> omega
theorem g2' (k : Int) : (2 = Yq k) = (k = 10 ∨ k = 11 ∨ k = 12 ∨ k = 13 ∨ k = 15 ∨ k = 16) := by rw [← g2]; exact propext ⟨Eq.symm, Eq.symm⟩
theorem g3' (k : Int) : (3 = Yq k) = (17 ≤ k ∧ k ≤ 26) := by rw [← qrz]; exact propext ⟨Eq.symm, Eq.symm⟩
theorem get1 {α : Type} (a d : α) (n : Nat) : [a].getD n d = if n = 0 then a else d := by
 rcases n with _ | n <;> simp
theorem get2 {α : Type} (a b d : α) (n : Nat) : [a, b].getD n d = if n = 0 then a else if n = 1 then b else d := by
 rcases n with _ | _ | n <;> simp
theorem get3 {α : Type} (a b c d : α) (n : Nat) : [a, b, c].getD n d = if n = 0 then a else if n = 1 then b else if n = 2 then c else d := by
 rcases n with _ | _ | _ | n <;> simp
theorem q0m (parent pos kid : Int) : qw6 parent pos kid = fits parent pos kid := by
 have key : ∀ s : Shape, yw parent = s → fits parent pos kid = (known parent && decide (0 ≤ pos) && known kid && (if (if pos < s.first.length then s.first.getD pos.toNat (0, 0) else s.rest).2 = 0 then decide ((if pos < s.first.length then s.first.getD pos.toNat (0, 0) else s.rest).1 = kid) else decide ((if pos < s.first.length then s.first.getD pos.toNat (0, 0) else s.rest).2 = Yq kid))) := by
  rintro _ rfl; rfl
 by_cases hk : known parent = true
 ·have := Yx hk
  have hp : parent = 1 ∨ parent = 2 ∨ parent = 3 ∨ parent = 4 ∨ parent = 5 ∨ parent = 6 ∨ parent = 7 ∨ parent = 8 ∨ parent = 9 ∨ parent = 10 ∨ parent = 11 ∨ parent = 12 ∨ parent = 13 ∨ parent = 14 ∨ parent = 15 ∨ parent = 16 ∨ parent = 17 ∨ parent = 18 ∨ parent = 19 ∨ parent = 20 ∨ parent = 21 ∨ parent = 22 ∨ parent = 23 ∨ parent = 24 ∨ parent = 25 ∨ parent = 26 := by omega
  rw [Bool.eq_iff_iff]
  rcases hp with rfl | rfl | rfl | rfl | rfl | rfl | rfl | rfl | rfl | rfl | rfl | rfl | rfl | rfl | rfl | rfl | rfl | rfl | rfl | rfl | rfl | rfl | rfl | rfl | rfl | rfl
  all_goals
   rw [key _ rfl]
   clear key this hk
   simp only [yw, shapes, Int.reduceToNat, List.getD_cons_succ, List.getD_cons_zero, qw6, known, g1, g2, qrz, get1, get2, get3, List.length_cons, List.length_nil, List.getD_nil]
   by_cases h0 : pos < 0
   ·have : ¬ 0 ≤ pos := by omega
    simp [h0, this]
   ·have e : 0 ≤ pos := by omega
    have e0 : (pos.toNat = 0) = (pos = 0) := by apply propext; omega
    have e1 : (pos.toNat = 1) = (pos = 1) := by apply propext; omega
    have e2 : (pos.toNat = 2) = (pos = 2) := by apply propext; omega
    simp only [e0, e1, e2, h0, e]
    by_cases h1 : pos = 0
    ·subst h1; simp [g1', g2', g3'] <;> omega
    ·by_cases h2 : pos = 1
     ·subst h2; simp [g1', g2', g3'] <;> omega
     ·by_cases h3 : pos = 2
      ·subst h3; simp [g1', g2', g3'] <;> omega
      ·have f1 : ¬ pos < 1 := by omega
       have f2 : ¬ pos < 2 := by omega
       have f3 : ¬ pos < 3 := by omega
       have f4 : 0 < pos := by omega
       simp [h0, h1, h2, h3, f1, f2, f3, f4, g1', g2', g3'] <;> omega
 ·have hf : fits parent pos kid = false := by simp [fits, Bool.eq_false_iff.2 hk]
  rw [hf]
  simp only [known, Bool.and_eq_true, decide_eq_true_eq] at hk
  simp only [qw6, show ¬ parent = 1 by omega, show ¬ parent = 2 by omega, show ¬ parent = 3 by omega, show ¬ parent = 4 by omega, show ¬ parent = 6 by omega, show ¬ parent = 7 by omega, show ¬ parent = 13 by omega, show ¬ parent = 14 by omega, show ¬ parent = 15 by omega, show ¬ parent = 20 by omega, show ¬ parent = 21 by omega, show ¬ parent = 24 by omega, show ¬ parent = 9 by omega, show ¬ parent = 10 by omega, show ¬ parent = 11 by omega, show ¬ parent = 12 by omega, show ¬ parent = 16 by omega, show ¬ parent = 25 by omega, show ¬ parent = 26 by omega, if_false, or_false]
  split <;> rfl
set_option maxHeartbeats 4000000 in
/-- treemerge/treemergeref07.Fits -/
theorem qx9 (parent pos kid : Int) : Fn Tryz.prog G 157 [.int .i64 parent, .int .i64 pos, .int .i64 kid] (.bool (fits parent pos kid)) := by
 refine zk (T := tt) (N := 152) (rs := [.tmp 6]) (fun vs w => by simp) Tryz.func157 rfl rfl rfl rfl (by kernel_rfl) (zl rfl) (qz _ rfl) ?_
 repeat' first
  | refine ji env rfl ?_
  | refine ql (qul _) ?_
  | refine qr (fun h => ?_) (fun h => ?_)
  | refine qu (fun h => ?_) (fun h => ?_)
  | refine qj (fun h => ?_) (fun h => ?_)
  | refine zd env rfl rfl (q4 ?_)
  | refine zm env rfl (q4 ?_)
 all_goals rw [← q0m]
 all_goals refine wy ?_
 all_goals simp_all [qw6]
 all_goals omega
end Go.Proofs.YtigmilhpeodhbaaGreatDoorW.Ex.Gr
