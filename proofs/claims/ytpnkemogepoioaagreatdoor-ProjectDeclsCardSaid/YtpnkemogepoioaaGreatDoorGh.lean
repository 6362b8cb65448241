/- Whole trees: the reference's shape, node, first, size and Check, and the program's Check. Conditions: those of the trees that come in (Wf). -/
import Derived.Test.YtpnkemogepoioaaGreatDoorGg
namespace Go.Proofs.YtpnkemogepoioaaGreatDoorW.Ex.Gr
open Go.Proofs.YtpnkemogepoioaaGreatDoorW.Plain
open Go Go.Proofs.YtpnkemogepoioaaGreatDoorW.Ex
set_option linter.all false
set_option maxRecDepth 100000
theorem qto (o:Option Nat):decide (je o 4000 < 0)= !(match o with | some k=>decide (k≤4000) | none=>false):=by
 cases o with
 | none=>rfl
 | some k=>
   by_cases h:k≤4000
   ·have e:je (some k) 4000=4000 - (k:Int):=by simp only [je];rw [if_pos (by omega)]
    rw [e];simp [h];omega
   have e:je (some k) 4000= -1:=by simp only [je];rw [if_neg (by omega)]
   rw [e];simp [h]
set_option maxHeartbeats 4000000 in
theorem qnr (n:Node) (hwf:Wf n):Fn Tryz.prog G 44 [.agg (zq n)] (.int .i64 (checkErr n)):=by
 have hl:=qto (size? n 60)
 have hc:Fn Tryz.prog G 69 [.agg (zq n), .int .i64 4000, .int .i64 60] (.int .i64 (je (size? n 60) 4000)):=(qml n hwf 4000 60 (by decide) (by decide) (by decide) (by decide))
 cases hb:decide (je (size? n 60) 4000 < 0)
 case true=>
  have e:checkErr n=3:=by
   rw [hb] at hl
   unfold checkErr
   split at hl
   ·rename_i k hk;rw [hk];simp only;rw [if_neg (by simpa using hl)]
   rename_i hk;rw [hk]
  rw [e]
  refine zo (T:=tt) (N:=8) (rs:= [.tmp 2]) (fun vs w=>by simp) Tryz.func44 rfl rfl rfl rfl (by kernel_rfl) (z7 rfl) (q5 _ rfl) ?_
  repeat' first
   | refine yo env rfl ?_
   | (refine qk ?_ ?_;(· simp only [hb,Bool.not_true,Bool.not_false]))
   | (refine ql ?_ ?_;(· simp only [hb,Bool.not_true,Bool.not_false]))
   | (refine qn ?_ ?_;(· simp only [hb,Bool.not_true,Bool.not_false]))
   | (refine qm ?_ ?_;(· simp only [hb,Bool.not_true,Bool.not_false]))
   | (refine qu ?_ ?_;(· simp only [hb,Bool.not_true,Bool.not_false]))
   | (refine qv ?_ ?_;(· simp only [hb,Bool.not_true,Bool.not_false]))
   | refine qp (hc) ?_
   | refine qo (fun h=> ?_) (fun h=> ?_)
   | refine za (fun h=> ?_) (fun h=> ?_)
   | refine qf (fun h=> ?_) (fun h=> ?_)
   | refine j5 env rfl rfl (q9 ?_)
   | refine z8 env rfl (q9 ?_)
  all_goals rfl
 have e:checkErr n=firstErr n:=by
  rw [hb] at hl
  unfold checkErr
  split at hl
  ·rename_i k hk;rw [hk];simp only;rw [if_pos (by simpa using hl)]
  cases hl
 rw [e]
 refine zo (T:=tt) (N:=8) (rs:= [.tmp 2]) (fun vs w=>by simp) Tryz.func44 rfl rfl rfl rfl (by kernel_rfl) (z7 rfl) (q5 _ rfl) ?_
 repeat' first
  | refine yo env rfl ?_
  | (refine qk ?_ ?_;(· simp only [hb,Bool.not_true,Bool.not_false]))
  | (refine ql ?_ ?_;(· simp only [hb,Bool.not_true,Bool.not_false]))
  | (refine qn ?_ ?_;(· simp only [hb,Bool.not_true,Bool.not_false]))
  | (refine qm ?_ ?_;(· simp only [hb,Bool.not_true,Bool.not_false]))
  | (refine qu ?_ ?_;(· simp only [hb,Bool.not_true,Bool.not_false]))
  | (refine qv ?_ ?_;(· simp only [hb,Bool.not_true,Bool.not_false]))
  | refine qp (hc) ?_
  | refine qp (qnq n hwf) ?_
  | refine qo (fun h=> ?_) (fun h=> ?_)
  | refine za (fun h=> ?_) (fun h=> ?_)
  | refine qf (fun h=> ?_) (fun h=> ?_)
  | refine j5 env rfl rfl (q9 ?_)
  | refine z8 env rfl (q9 ?_)
 all_goals rfl
end Go.Proofs.YtpnkemogepoioaaGreatDoorW.Ex.Gr
