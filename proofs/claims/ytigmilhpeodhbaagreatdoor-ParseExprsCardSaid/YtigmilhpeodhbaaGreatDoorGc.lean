/- The grammar's functions on a node: Level, Own and Fits. No conditions beside those in each theorem. -/
import Derived.Test.YtigmilhpeodhbaaGreatDoorGb
namespace Go.Proofs.YtigmilhpeodhbaaGreatDoorW.Ex.Gr
open Go Go.Proofs.YtigmilhpeodhbaaGreatDoorW.Ex
set_option linter.all false
set_option maxRecDepth 100000
theorem q02 (a : Int) : (if a < 0 then 0 else a) = max 0 a := by split <;> omega
theorem qrz (k : Int) : (Yq k = 3) = (17 ≤ k ∧ k ≤ 26) := by
 apply propext
 unfold Yq
 split
 ·omega
 ·split
  ·omega
  ·split
   ·omega
   ·omega
theorem q2z : ∀ m : Nat, m < 27 → (shapes.getD m ⟨[], (0, 0), 0, [], 0⟩).own = ownN m := by decide
theorem qy0 (k : Int) (h0 : 1 ≤ k) (h1 : k < 27) : (yw k).own = ownN k := by
 have := q2z k.toNat (by omega)
 rw [show ((k.toNat : Nat) : Int) = k by omega] at this
 exact this
theorem q20 (n : Node) (h : known n.kind = false) : own n = 0 := by simp [own, h]
theorem Yx {k : Int} (h : known k = true) : 1 ≤ k ∧ k < 27 := by simpa [known] using h
set_option maxHeartbeats 4000000 in
/-- treemerge/grammar.Level -/
theorem qdk (n : Node) : Fn Tryz.prog G 116 [.agg (zf n)] (.int .i64 (level n)) := by
 refine zk (T := tt) (N := 28) (rs := [.tmp 2]) (fun vs w => by simp) Tryz.func116 rfl rfl rfl rfl (by kernel_rfl) (zl rfl) (qz _ rfl) ?_
 repeat' first
  | refine ji env rfl ?_
  | refine ql (Yi _) ?_
  | refine qr (fun h => ?_) (fun h => ?_)
  | refine qu (fun h => ?_) (fun h => ?_)
  | refine qj (fun h => ?_) (fun h => ?_)
  | refine zd env rfl rfl (q4 ?_)
  | refine zm env rfl (q4 ?_)
 all_goals refine Jt ?_
 all_goals (simp_all [level, Js, qrz])
 all_goals (try omega)
set_option maxHeartbeats 4000000 in
/-- treemerge/treemergeref07.Level -/
theorem qjz (n : Node) : Fn Tryz.prog G 170 [.agg (zf n)] (.int .i64 (level n)) := by
 refine zk (T := tt) (N := 28) (rs := [.tmp 2]) (fun vs w => by simp) Tryz.func170 rfl rfl rfl rfl (by kernel_rfl) (zl rfl) (qz _ rfl) ?_
 repeat' first
  | refine ji env rfl ?_
  | refine ql (qul _) ?_
  | refine qr (fun h => ?_) (fun h => ?_)
  | refine qu (fun h => ?_) (fun h => ?_)
  | refine qj (fun h => ?_) (fun h => ?_)
  | refine zd env rfl rfl (q4 ?_)
  | refine zm env rfl (q4 ?_)
 all_goals refine Jt ?_
 all_goals (simp_all [level, Js, qrz])
 all_goals (try omega)
set_option maxHeartbeats 4000000 in
/-- treemerge/treemergeref07.Own -/
theorem qsb (n : Node) (hk : n.kids.length ≤ 9223372036854775807) : Fn Tryz.prog G 149 [.agg (zf n)] (.int .i64 (own n)) := by
 have w1 : IntKind.i64.wrap ((n.kids.length : Int) - 1) = (n.kids.length : Int) - 1 := j6 (by omega) (by omega)
 have w2 : IntKind.i64.wrap ((n.kids.length : Int) - 2) = (n.kids.length : Int) - 2 := j6 (by omega) (by omega)
 have w3 : IntKind.i64.wrap ((n.kids.length : Int) - 1 - 1) = (n.kids.length : Int) - 1 - 1 := j6 (by omega) (by omega)
 refine zk (T := tt) (N := 56) (rs := [.tmp 2]) (fun vs w => by simp) Tryz.func149 rfl rfl rfl rfl (by kernel_rfl) (zl rfl) (qz _ rfl) ?_
 repeat' first
  | refine ji env rfl ?_
  | refine qr (fun h => ?_) (fun h => ?_)
  | refine qu (fun h => ?_) (fun h => ?_)
  | refine qj (fun h => ?_) (fun h => ?_)
  | refine zd env rfl rfl (q4 ?_)
  | refine zm env rfl (q4 ?_)
 all_goals refine Jt ?_
 all_goals (try simp only [List.length_map, w1, w2, w3])
 all_goals clear w1 w2 w3
 all_goals (simp_all [own, ownN, known, q02])
 all_goals (try omega)
 all_goals (cases hk2 : n.kids <;> simp <;> omega)
set_option maxHeartbeats 4000000 in
/-- treemerge/grammar.Own -/
theorem qtx (n : Node) (hk : n.kids.length ≤ 9223372036854775807) : Fn Tryz.prog G 79 [.agg (zf n)] (.int .i64 (own n)) := by
 cases hkn : known n.kind
 ·rw [q20 n hkn]
  refine zk (T := tt) (N := 45) (rs := [.tmp 2]) (fun vs w => by simp) Tryz.func79 rfl rfl rfl rfl (by kernel_rfl) (zl rfl) (qz _ rfl) ?_
  repeat' first
   | refine ji env rfl ?_
   | (refine qe ?_ ?_; (· simp only [hkn, Bool.not_false]))
   | (refine qf ?_ ?_; (· simp only [hkn, Bool.not_false]))
   | (refine qh ?_ ?_; (· simp only [hkn, Bool.not_false]))
   | (refine qg ?_ ?_; (· simp only [hkn, Bool.not_false]))
   | (refine qo ?_ ?_; (· simp only [hkn, Bool.not_false]))
   | (refine qp ?_ ?_; (· simp only [hkn, Bool.not_false]))
   | refine ql (wd _) ?_
   | refine qr (fun h => ?_) (fun h => ?_)
   | refine qu (fun h => ?_) (fun h => ?_)
   | refine qj (fun h => ?_) (fun h => ?_)
   | refine zd env rfl rfl (q4 ?_)
   | refine zm env rfl (q4 ?_)
  all_goals rfl
 have w1 : IntKind.i64.wrap ((n.kids.length : Int) - 1) = (n.kids.length : Int) - 1 := j6 (by omega) (by omega)
 have w2 : IntKind.i64.wrap ((n.kids.length : Int) - 2) = (n.kids.length : Int) - 2 := j6 (by omega) (by omega)
 have w3 : IntKind.i64.wrap ((n.kids.length : Int) - 1 - 1) = (n.kids.length : Int) - 1 - 1 := j6 (by omega) (by omega)
 have kb := Yx hkn
 have h0 : 0 ≤ n.kind := by omega
 have h2 : n.kind.toNat < 27 := by omega
 have hg := qjn n.kind h2
 have ho := qy0 n.kind kb.1 kb.2
 refine zk (T := tt) (N := 45) (rs := [.tmp 2]) (fun vs w => by simp) Tryz.func79 rfl rfl rfl rfl (by kernel_rfl) (zl rfl) (qz _ rfl) ?_
 repeat' first
  | refine ji env rfl ?_
  | (refine qe ?_ ?_; (· simp only [hkn, Bool.not_true]))
  | (refine qf ?_ ?_; (· simp only [hkn, Bool.not_true]))
  | (refine qh ?_ ?_; (· simp only [hkn, Bool.not_true]))
  | (refine qg ?_ ?_; (· simp only [hkn, Bool.not_true]))
  | (refine qo ?_ ?_; (· simp only [hkn, Bool.not_true]))
  | (refine qp ?_ ?_; (· simp only [hkn, Bool.not_true]))
  | refine qkt env rfl rfl rfl rfl h0 h2 hg ?_
  | refine ql (wd _) ?_
  | refine qr (fun h => ?_) (fun h => ?_)
  | refine qu (fun h => ?_) (fun h => ?_)
  | refine qj (fun h => ?_) (fun h => ?_)
  | refine zd env rfl rfl (q4 ?_)
  | refine zm env rfl (q4 ?_)
 all_goals refine Jt ?_
 all_goals (try simp only [List.length_map, w1, w3])
 all_goals clear w1 w2 w3 hg h2 h0
 all_goals (simp_all [own, ownN, q02])
 all_goals (first | done | (refine congrArg IntKind.i64.wrap (congrArg (_ + ·) ?_); split <;> omega))
end Go.Proofs.YtigmilhpeodhbaaGreatDoorW.Ex.Gr
