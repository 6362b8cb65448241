/- Whole trees: the reference's shape, node, first, size and Check, and the program's Check. Conditions: those of the trees that come in (Wf). -/
import Derived.Test.YtigmilhpeodhbaaDoorGg
namespace Go.Proofs.YtigmilhpeodhbaaDoorW.Ex.Gr
open Go.Proofs.YtigmilhpeodhbaaDoorW.Plain
open Go Go.Proofs.YtigmilhpeodhbaaDoorW.Ex
set_option linter.all false
set_option maxRecDepth 100000
theorem qqn (o : Option Nat) : decide (ji o 4000 < 0) = !(match o with | some k => decide (k ≤ 4000) | none => false) := by
 cases o with
 | none => rfl
 | some k =>
   by_cases h : k ≤ 4000
   ·have e : ji (some k) 4000 = 4000 - (k : Int) := by simp only [ji]; rw [if_pos (by omega)]
    rw [e]; simp [h]; omega
   have e : ji (some k) 4000 = -1 := by simp only [ji]; rw [if_neg (by omega)]
   rw [e]; simp [h]
set_option maxHeartbeats 4000000 in
theorem qk0 (n : Node) (hwf : Wf n) : Fn Tryd.prog G 33 [.agg (zu n)] (.int .i64 (checkErr n)) := by
 have hl := qqn (size? n 60)
 have hc : Fn Tryd.prog G 43 [.agg (zu n), .int .i64 4000, .int .i64 60] (.int .i64 (ji (size? n 60) 4000)) := (qjh n hwf 4000 60 (by decide) (by decide) (by decide) (by decide))
 cases hb : decide (ji (size? n 60) 4000 < 0)
 case true =>
  have e : checkErr n = 3 := by
   rw [hb] at hl
   unfold checkErr
   split at hl
   ·rename_i k hk; rw [hk]; simp only; rw [if_neg (by simpa using hl)]
   rename_i hk; rw [hk]
  rw [e]
  refine jj (T := tt) (N := 8) (rs := [.tmp 2]) (fun vs w => by simp) Tryd.func33 rfl rfl rfl rfl (by kernel_rfl) (jb rfl) (q8 _ rfl) ?_
  repeat' first
   | refine yo env rfl ?_
   | (refine qk ?_ ?_; (· simp only [hb, Bool.not_true, Bool.not_false]))
   | (refine ql ?_ ?_; (· simp only [hb, Bool.not_true, Bool.not_false]))
   | (refine qn ?_ ?_; (· simp only [hb, Bool.not_true, Bool.not_false]))
   | (refine qm ?_ ?_; (· simp only [hb, Bool.not_true, Bool.not_false]))
   | (refine qx ?_ ?_; (· simp only [hb, Bool.not_true, Bool.not_false]))
   | (refine qy ?_ ?_; (· simp only [hb, Bool.not_true, Bool.not_false]))
   | refine qr (hc) ?_
   | refine qq (fun h => ?_) (fun h => ?_)
   | refine qu (fun h => ?_) (fun h => ?_)
   | refine qi (fun h => ?_) (fun h => ?_)
   | refine yc env rfl rfl (za ?_)
   | refine jc env rfl (za ?_)
  all_goals rfl
 have e : checkErr n = firstErr n := by
  rw [hb] at hl
  unfold checkErr
  split at hl
  ·rename_i k hk; rw [hk]; simp only; rw [if_pos (by simpa using hl)]
  cases hl
 rw [e]
 refine jj (T := tt) (N := 8) (rs := [.tmp 2]) (fun vs w => by simp) Tryd.func33 rfl rfl rfl rfl (by kernel_rfl) (jb rfl) (q8 _ rfl) ?_
 repeat' first
  | refine yo env rfl ?_
  | (refine qk ?_ ?_; (· simp only [hb, Bool.not_true, Bool.not_false]))
  | (refine ql ?_ ?_; (· simp only [hb, Bool.not_true, Bool.not_false]))
  | (refine qn ?_ ?_; (· simp only [hb, Bool.not_true, Bool.not_false]))
  | (refine qm ?_ ?_; (· simp only [hb, Bool.not_true, Bool.not_false]))
  | (refine qx ?_ ?_; (· simp only [hb, Bool.not_true, Bool.not_false]))
  | (refine qy ?_ ?_; (· simp only [hb, Bool.not_true, Bool.not_false]))
  | refine qr (hc) ?_
  | refine qr (qkz n hwf) ?_
  | refine qq (fun h => ?_) (fun h => ?_)
  | refine qu (fun h => ?_) (fun h => ?_)
  | refine qi (fun h => ?_) (fun h => ?_)
  | refine yc env rfl rfl (za ?_)
  | refine jc env rfl (za ?_)
 all_goals rfl
end Go.Proofs.YtigmilhpeodhbaaDoorW.Ex.Gr
