/- The grammar's functions on a node: Level, Own and Fits. No conditions beside those in each theorem. -/
import Derived.Test.YtbdhekefhcjhaaaDoorGb
namespace Go.Proofs.YtbdhekefhcjhaaaDoorW.Ex.Gr
open Go Go.Proofs.YtbdhekefhcjhaaaDoorW.Ex
set_option linter.all false
set_option maxRecDepth 100000
theorem max_if (a : Int) : (if a < 0 then 0 else a) = max 0 a := by split <;> omega
theorem group3 (k : Int) : (jk k = 3) = (17 ≤ k ∧ k ≤ 26) := by
 apply propext
 unfold jk
 split
 ·omega
 ·split
  ·omega
  ·split
   ·omega
   ·omega
theorem own_tab : ∀ m : Nat, m < 27 → (shapes.getD m ⟨[], (0, 0), 0, [], 0⟩).own = ownN m := by decide
theorem shape_own (k : Int) (h0 : 1 ≤ k) (h1 : k < 27) : (zy k).own = ownN k := by
 have := own_tab k.toNat (by omega)
 rw [show ((k.toNat : Nat) : Int) = k by omega] at this
 exact this
theorem own_out (n : Node) (h : known n.kind = false) : own n = 0 := by simp [own, h]
theorem we {k : Int} (h : known k = true) : 1 ≤ k ∧ k < 27 := by simpa [known] using h
set_option maxHeartbeats 4000000 in
/-- treemerge/grammar.Level -/
theorem Qk (n : Node) : Fn Tryd.prog G 77 [.agg (zk n)] (.int .i64 (level n)) := by
 refine zh (T := tt) (N := 28) (rs := [.tmp 2]) (fun vs w => by simp) Tryd.func77 rfl rfl rfl rfl (by kernel_rfl) (zb rfl) (qo _ rfl) ?_
 repeat' first
  | refine zl env rfl ?_
  | refine ql (kz _) ?_
  | refine qm (fun h => ?_) (fun h => ?_)
  | refine qr (fun h => ?_) (fun h => ?_)
  | refine qg (fun h => ?_) (fun h => ?_)
  | refine zj env rfl rfl (qq ?_)
  | refine za env rfl (qq ?_)
 all_goals refine ko ?_
 all_goals (simp_all [level, opLevel, group3])
 all_goals (try omega)
set_option maxHeartbeats 4000000 in
/-- treemerge/treemergeref07.Level -/
theorem R7_Level (n : Node) : Fn Tryd.prog G 85 [.agg (zk n)] (.int .i64 (level n)) := by
 refine zh (T := tt) (N := 28) (rs := [.tmp 2]) (fun vs w => by simp) Tryd.func85 rfl rfl rfl rfl (by kernel_rfl) (zb rfl) (qo _ rfl) ?_
 repeat' first
  | refine zl env rfl ?_
  | refine ql (R7_Group _) ?_
  | refine qm (fun h => ?_) (fun h => ?_)
  | refine qr (fun h => ?_) (fun h => ?_)
  | refine qg (fun h => ?_) (fun h => ?_)
  | refine zj env rfl rfl (qq ?_)
  | refine za env rfl (qq ?_)
 all_goals refine ko ?_
 all_goals (simp_all [level, opLevel, group3])
 all_goals (try omega)
set_option maxHeartbeats 4000000 in
/-- treemerge/treemergeref07.Own -/
theorem R7_Own (n : Node) (hk : n.kids.length ≤ 9223372036854775807) : Fn Tryd.prog G 15 [.agg (zk n)] (.int .i64 (own n)) := by
 have w1 : IntKind.i64.wrap ((n.kids.length : Int) - 1) = (n.kids.length : Int) - 1 := zv (by omega) (by omega)
 have w2 : IntKind.i64.wrap ((n.kids.length : Int) - 2) = (n.kids.length : Int) - 2 := zv (by omega) (by omega)
 have w3 : IntKind.i64.wrap ((n.kids.length : Int) - 1 - 1) = (n.kids.length : Int) - 1 - 1 := zv (by omega) (by omega)
 refine zh (T := tt) (N := 56) (rs := [.tmp 2]) (fun vs w => by simp) Tryd.func15 rfl rfl rfl rfl (by kernel_rfl) (zb rfl) (qo _ rfl) ?_
 repeat' first
  | refine zl env rfl ?_
  | refine qm (fun h => ?_) (fun h => ?_)
  | refine qr (fun h => ?_) (fun h => ?_)
  | refine qg (fun h => ?_) (fun h => ?_)
  | refine zj env rfl rfl (qq ?_)
  | refine za env rfl (qq ?_)
 all_goals refine ko ?_
 all_goals (try simp only [List.length_map, w1, w2, w3])
 all_goals clear w1 w2 w3
 all_goals (simp_all [own, ownN, known, max_if])
 all_goals (try omega)
 all_goals (cases hk2 : n.kids <;> simp <;> omega)
set_option maxHeartbeats 4000000 in
/-- treemerge/grammar.Own -/
theorem grammar_Own (n : Node) (hk : n.kids.length ≤ 9223372036854775807) : Fn Tryd.prog G 81 [.agg (zk n)] (.int .i64 (own n)) := by
 cases hkn : known n.kind
 ·rw [own_out n hkn]
  refine zh (T := tt) (N := 45) (rs := [.tmp 2]) (fun vs w => by simp) Tryd.func81 rfl rfl rfl rfl (by kernel_rfl) (zb rfl) (qo _ rfl) ?_
  repeat' first
   | refine zl env rfl ?_
   | (refine qc ?_ ?_; (· simp only [hkn, Bool.not_false]))
   | (refine qd ?_ ?_; (· simp only [hkn, Bool.not_false]))
   | (refine qf ?_ ?_; (· simp only [hkn, Bool.not_false]))
   | (refine qe ?_ ?_; (· simp only [hkn, Bool.not_false]))
   | (refine qh ?_ ?_; (· simp only [hkn, Bool.not_false]))
   | (refine qi ?_ ?_; (· simp only [hkn, Bool.not_false]))
   | refine ql (jf _) ?_
   | refine qm (fun h => ?_) (fun h => ?_)
   | refine qr (fun h => ?_) (fun h => ?_)
   | refine qg (fun h => ?_) (fun h => ?_)
   | refine zj env rfl rfl (qq ?_)
   | refine za env rfl (qq ?_)
  all_goals rfl
 have w1 : IntKind.i64.wrap ((n.kids.length : Int) - 1) = (n.kids.length : Int) - 1 := zv (by omega) (by omega)
 have w2 : IntKind.i64.wrap ((n.kids.length : Int) - 2) = (n.kids.length : Int) - 2 := zv (by omega) (by omega)
 have w3 : IntKind.i64.wrap ((n.kids.length : Int) - 1 - 1) = (n.kids.length : Int) - 1 - 1 := zv (by omega) (by omega)
 have kb := we hkn
 have h0 : 0 ≤ n.kind := by omega
 have h2 : n.kind.toNat < 27 := by omega
 have hg := Kz n.kind h2
 have ho := shape_own n.kind kb.1 kb.2
 refine zh (T := tt) (N := 45) (rs := [.tmp 2]) (fun vs w => by simp) Tryd.func81 rfl rfl rfl rfl (by kernel_rfl) (zb rfl) (qo _ rfl) ?_
 repeat' first
  | refine zl env rfl ?_
  | (refine qc ?_ ?_; (· simp only [hkn, Bool.not_true]))
  | (refine qd ?_ ?_; (· simp only [hkn, Bool.not_true]))
  | (refine qf ?_ ?_; (· simp only [hkn, Bool.not_true]))
  | (refine qe ?_ ?_; (· simp only [hkn, Bool.not_true]))
  | (refine qh ?_ ?_; (· simp only [hkn, Bool.not_true]))
  | (refine qi ?_ ?_; (· simp only [hkn, Bool.not_true]))
  | refine Ok_ixa env rfl rfl rfl rfl h0 h2 hg ?_
  | refine ql (jf _) ?_
  | refine qm (fun h => ?_) (fun h => ?_)
  | refine qr (fun h => ?_) (fun h => ?_)
  | refine qg (fun h => ?_) (fun h => ?_)
  | refine zj env rfl rfl (qq ?_)
  | refine za env rfl (qq ?_)
 all_goals refine ko ?_
 all_goals (try simp only [List.length_map, w1, w3])
 all_goals clear w1 w2 w3 hg h2 h0
 all_goals (simp_all [own, ownN, max_if])
 all_goals (first | done | (refine congrArg IntKind.i64.wrap (congrArg (_ + ·) ?_); split <;> omega))
end Go.Proofs.YtbdhekefhcjhaaaDoorW.Ex.Gr
