/- Whole trees: the reference's shape, node, first, size and Check, and the program's Check. Conditions: those of the trees that come in (Wf). -/
import Derived.Test.YtigmilhpeodhbaaGreatDoorGg
namespace Go.Proofs.YtigmilhpeodhbaaGreatDoorW.Ex.Gr
open Go.Proofs.YtigmilhpeodhbaaGreatDoorW.Plain
open Go Go.Proofs.YtigmilhpeodhbaaGreatDoorW.Ex
set_option linter.all false
set_option maxRecDepth 100000
theorem qwo (o : Option Nat) : decide (jz o 4000 < 0) = !(match o with | some k => decide (k ≤ 4000) | none => false) := by
 cases o with
 | none => rfl
 | some k =>
   by_cases h : k ≤ 4000
   ·have e : jz (some k) 4000 = 4000 - (k : Int) := by simp only [jz]; rw [if_pos (by omega)]
    rw [e]; simp [h]; omega
   have e : jz (some k) 4000 = -1 := by simp only [jz]; rw [if_neg (by omega)]
   rw [e]; simp [h]
set_option maxHeartbeats 4000000 in
theorem qp1 (n : Node) (hwf : Wf n) : Fn Tryz.prog G 18 [.agg (zp n)] (.int .i64 (checkErr n)) := by
 have hl := qwo (size? n 60)
 have hc : Fn Tryz.prog G 39 [.agg (zp n), .int .i64 4000, .int .i64 60] (.int .i64 (jz (size? n 60) 4000)) := (qob n hwf 4000 60 (by decide) (by decide) (by decide) (by decide))
 cases hb : decide (jz (size? n 60) 4000 < 0)
 case true =>
  have e : checkErr n = 3 := by
   rw [hb] at hl
   unfold checkErr
   split at hl
   ·rename_i k hk; rw [hk]; simp only; rw [if_neg (by simpa using hl)]
   rename_i hk; rw [hk]
  rw [e]
  refine jk (T := tt) (N := 8) (rs := [.tmp 2]) (fun vs w => by simp) Tryz.func18 rfl rfl rfl rfl (by kernel_rfl) (jp rfl) (zh _ rfl) ?_
  repeat' first
   | refine kt env rfl ?_
   | (refine qp ?_ ?_; (· simp only [hb, Bool.not_true, Bool.not_false]))
   | (refine qq ?_ ?_; (· simp only [hb, Bool.not_true, Bool.not_false]))
   | (refine qt ?_ ?_; (· simp only [hb, Bool.not_true, Bool.not_false]))
   | (refine qr ?_ ?_; (· simp only [hb, Bool.not_true, Bool.not_false]))
   | (refine za ?_ ?_; (· simp only [hb, Bool.not_true, Bool.not_false]))
   | (refine zb ?_ ?_; (· simp only [hb, Bool.not_true, Bool.not_false]))
   | refine qn (hc) ?_
   | refine qv (fun h => ?_) (fun h => ?_)
   | refine qy (fun h => ?_) (fun h => ?_)
   | refine qf (fun h => ?_) (fun h => ?_)
   | refine yx env rfl rfl (zk ?_)
   | refine jq env rfl (zk ?_)
  all_goals rfl
 have e : checkErr n = firstErr n := by
  rw [hb] at hl
  unfold checkErr
  split at hl
  ·rename_i k hk; rw [hk]; simp only; rw [if_pos (by simpa using hl)]
  cases hl
 rw [e]
 refine jk (T := tt) (N := 8) (rs := [.tmp 2]) (fun vs w => by simp) Tryz.func18 rfl rfl rfl rfl (by kernel_rfl) (jp rfl) (zh _ rfl) ?_
 repeat' first
  | refine kt env rfl ?_
  | (refine qp ?_ ?_; (· simp only [hb, Bool.not_true, Bool.not_false]))
  | (refine qq ?_ ?_; (· simp only [hb, Bool.not_true, Bool.not_false]))
  | (refine qt ?_ ?_; (· simp only [hb, Bool.not_true, Bool.not_false]))
  | (refine qr ?_ ?_; (· simp only [hb, Bool.not_true, Bool.not_false]))
  | (refine za ?_ ?_; (· simp only [hb, Bool.not_true, Bool.not_false]))
  | (refine zb ?_ ?_; (· simp only [hb, Bool.not_true, Bool.not_false]))
  | refine qn (hc) ?_
  | refine qn (qp0 n hwf) ?_
  | refine qv (fun h => ?_) (fun h => ?_)
  | refine qy (fun h => ?_) (fun h => ?_)
  | refine qf (fun h => ?_) (fun h => ?_)
  | refine yx env rfl rfl (zk ?_)
  | refine jq env rfl (zk ?_)
 all_goals rfl
end Go.Proofs.YtigmilhpeodhbaaGreatDoorW.Ex.Gr
