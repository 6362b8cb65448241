/- The grammar's functions on numbers: kinds and groups. No conditions beside those in each theorem. The grammar's functions on a node: Level, Own and Fits. No conditions beside those in each theorem. -/
import Derived.Test.YtimcdpioclioiaaGreatDoorGa
namespace Go.Proofs.YtimcdpioclioiaaGreatDoorW.Ex.Gr
open Go Go.Proofs.YtimcdpioclioiaaGreatDoorW.Ex
set_option linter.all false
set_option maxRecDepth 100000
/-- One turn of a loop over a list that looks for one that is not so. -/
theorem Ya {α : Type} (p : Nat → α → Bool) (l : List α) (C : α → List AV) (i : Nat) (hl : l.length ≤ 9223372036854775807) (hJ : i ≤ l.length ∧ j4 p 0 l = j4 p i (l.drop i)) :
 (∃ m, l[i]? = some m ∧ i < l.length ∧ decide ((i : Int) < ((l.map C).length : Int)) = true ∧ IntKind.i64.wrap ((i : Int) + 1) = (i : Int) + 1 ∧ j4 p 0 l = (p i m && j4 p (i + 1) (l.drop (i + 1)))) ∨
 (decide ((i : Int) < ((l.map C).length : Int)) = false ∧ j4 p 0 l = true) := by
 rcases Nat.lt_or_ge i l.length with h | h
 ·refine .inl ⟨l[i], List.getElem?_eq_getElem h, h, by simpa using h, zr (by omega) (by omega), ?_⟩
  rw [hJ.2, List.drop_eq_getElem_cons h]
  rfl
 ·refine .inr ⟨by simpa using h, ?_⟩
  rw [hJ.2, List.drop_of_length_le h]
  rfl
set_option maxHeartbeats 4000000 in
/-- treemerge/grammar.known -/
theorem jh (k : Int) : Fn Tryz.prog G 46 [.int .i64 k] (.bool (known k)) := by
 refine zg (T := tt) (N := 9) (rs := [.tmp 2]) (fun vs w => by simp) Tryz.func46 rfl rfl rfl rfl (by kernel_rfl) (zd rfl) (qo _ rfl) ?_
 repeat' first
  | refine zl env rfl ?_
  | refine qm (fun h => ?_) (fun h => ?_)
  | refine qr (fun h => ?_) (fun h => ?_)
  | refine qg (fun h => ?_) (fun h => ?_)
  | refine zi env rfl rfl (qq ?_)
  | refine zb env rfl (qq ?_)
 all_goals (first | refine kw ?_ | refine ju ?_)
 all_goals (simp_all [known])
 all_goals (try omega)
set_option maxHeartbeats 4000000 in
/-- treemerge/grammar.Group -/
theorem we (k : Int) : Fn Tryz.prog G 33 [.int .i64 k] (.int .i64 (jm k)) := by
 refine zg (T := tt) (N := 21) (rs := [.tmp 2]) (fun vs w => by simp) Tryz.func33 rfl rfl rfl rfl (by kernel_rfl) (zd rfl) (qo _ rfl) ?_
 repeat' first
  | refine zl env rfl ?_
  | refine qm (fun h => ?_) (fun h => ?_)
  | refine qr (fun h => ?_) (fun h => ?_)
  | refine qg (fun h => ?_) (fun h => ?_)
  | refine zi env rfl rfl (qq ?_)
  | refine zb env rfl (qq ?_)
 all_goals (first | refine kw ?_ | refine ju ?_)
 all_goals (simp_all [jm])
 all_goals (try omega)
set_option maxHeartbeats 4000000 in
/-- treemerge/treemergeref07.Group -/
theorem R7_Group (k : Int) : Fn Tryz.prog G 94 [.int .i64 k] (.int .i64 (jm k)) := by
 refine zg (T := tt) (N := 33) (rs := [.tmp 2]) (fun vs w => by simp) Tryz.func94 rfl rfl rfl rfl (by kernel_rfl) (zd rfl) (qo _ rfl) ?_
 repeat' first
  | refine zl env rfl ?_
  | refine qm (fun h => ?_) (fun h => ?_)
  | refine qr (fun h => ?_) (fun h => ?_)
  | refine qg (fun h => ?_) (fun h => ?_)
  | refine zi env rfl rfl (qq ?_)
  | refine zb env rfl (qq ?_)
 all_goals (first | refine kw ?_ | refine ju ?_)
 all_goals (simp_all [jm])
 all_goals (try omega)
set_option maxHeartbeats 4000000 in
/-- treemerge/grammar.most -/
theorem grammar_most (k : Int) : Fn Tryz.prog G 45 [.int .i64 k] (.int .i64 (most k)) := by
 refine zg (T := tt) (N := 9) (rs := [.tmp 2]) (fun vs w => by simp) Tryz.func45 rfl rfl rfl rfl (by kernel_rfl) (zd rfl) (qo _ rfl) ?_
 repeat' first
  | refine zl env rfl ?_
  | refine qm (fun h => ?_) (fun h => ?_)
  | refine qr (fun h => ?_) (fun h => ?_)
  | refine qg (fun h => ?_) (fun h => ?_)
  | refine zi env rfl rfl (qq ?_)
  | refine zb env rfl (qq ?_)
 all_goals (first | refine kw ?_ | refine ju ?_)
 all_goals (simp_all [most])
 all_goals (try omega)
set_option maxHeartbeats 4000000 in
/-- treemerge/treemergeref07.most -/
theorem R7_most (k : Int) : Fn Tryz.prog G 40 [.int .i64 k] (.int .i64 (most k)) := by
 refine zg (T := tt) (N := 9) (rs := [.tmp 2]) (fun vs w => by simp) Tryz.func40 rfl rfl rfl rfl (by kernel_rfl) (zd rfl) (qo _ rfl) ?_
 repeat' first
  | refine zl env rfl ?_
  | refine qm (fun h => ?_) (fun h => ?_)
  | refine qr (fun h => ?_) (fun h => ?_)
  | refine qg (fun h => ?_) (fun h => ?_)
  | refine zi env rfl rfl (qq ?_)
  | refine zb env rfl (qq ?_)
 all_goals (first | refine kw ?_ | refine ju ?_)
 all_goals (simp_all [most])
 all_goals (try omega)
end Go.Proofs.YtimcdpioclioiaaGreatDoorW.Ex.Gr

namespace Go.Proofs.YtimcdpioclioiaaGreatDoorW.Ex.Gr
open Go Go.Proofs.YtimcdpioclioiaaGreatDoorW.Ex
set_option linter.all false
set_option maxRecDepth 100000
theorem max_if (a : Int) : (if a < 0 then 0 else a) = max 0 a := by split <;> omega
theorem group3 (k : Int) : (jm k = 3) = (17 ≤ k ∧ k ≤ 26) := by
 apply propext
 unfold jm
 split
 ·omega
 ·split
  ·omega
  ·split
   ·omega
   ·omega
theorem own_tab : ∀ m : Nat, m < 27 → (shapes.getD m ⟨[], (0, 0), 0, [], 0⟩).own = ownN m := by decide
theorem shape_own (k : Int) (h0 : 1 ≤ k) (h1 : k < 27) : (zw k).own = ownN k := by
 have := own_tab k.toNat (by omega)
 rw [show ((k.toNat : Nat) : Int) = k by omega] at this
 exact this
theorem own_out (n : Node) (h : known n.kind = false) : own n = 0 := by simp [own, h]
theorem wm {k : Int} (h : known k = true) : 1 ≤ k ∧ k < 27 := by simpa [known] using h
set_option maxHeartbeats 4000000 in
/-- treemerge/grammar.Level -/
theorem Qo (n : Node) : Fn Tryz.prog G 71 [.agg (zo n)] (.int .i64 (level n)) := by
 refine zg (T := tt) (N := 28) (rs := [.tmp 2]) (fun vs w => by simp) Tryz.func71 rfl rfl rfl rfl (by kernel_rfl) (zd rfl) (qo _ rfl) ?_
 repeat' first
  | refine zl env rfl ?_
  | refine ql (we _) ?_
  | refine qm (fun h => ?_) (fun h => ?_)
  | refine qr (fun h => ?_) (fun h => ?_)
  | refine qg (fun h => ?_) (fun h => ?_)
  | refine zi env rfl rfl (qq ?_)
  | refine zb env rfl (qq ?_)
 all_goals refine kw ?_
 all_goals (simp_all [level, opLevel, group3])
 all_goals (try omega)
set_option maxHeartbeats 4000000 in
/-- treemerge/treemergeref07.Level -/
theorem R7_Level (n : Node) : Fn Tryz.prog G 95 [.agg (zo n)] (.int .i64 (level n)) := by
 refine zg (T := tt) (N := 28) (rs := [.tmp 2]) (fun vs w => by simp) Tryz.func95 rfl rfl rfl rfl (by kernel_rfl) (zd rfl) (qo _ rfl) ?_
 repeat' first
  | refine zl env rfl ?_
  | refine ql (R7_Group _) ?_
  | refine qm (fun h => ?_) (fun h => ?_)
  | refine qr (fun h => ?_) (fun h => ?_)
  | refine qg (fun h => ?_) (fun h => ?_)
  | refine zi env rfl rfl (qq ?_)
  | refine zb env rfl (qq ?_)
 all_goals refine kw ?_
 all_goals (simp_all [level, opLevel, group3])
 all_goals (try omega)
set_option maxHeartbeats 4000000 in
/-- treemerge/treemergeref07.Own -/
theorem R7_Own (n : Node) (hk : n.kids.length ≤ 9223372036854775807) : Fn Tryz.prog G 63 [.agg (zo n)] (.int .i64 (own n)) := by
 have w1 : IntKind.i64.wrap ((n.kids.length : Int) - 1) = (n.kids.length : Int) - 1 := zr (by omega) (by omega)
 have w2 : IntKind.i64.wrap ((n.kids.length : Int) - 2) = (n.kids.length : Int) - 2 := zr (by omega) (by omega)
 have w3 : IntKind.i64.wrap ((n.kids.length : Int) - 1 - 1) = (n.kids.length : Int) - 1 - 1 := zr (by omega) (by omega)
 refine zg (T := tt) (N := 56) (rs := [.tmp 2]) (fun vs w => by simp) Tryz.func63 rfl rfl rfl rfl (by kernel_rfl) (zd rfl) (qo _ rfl) ?_
 repeat' first
  | refine zl env rfl ?_
  | refine qm (fun h => ?_) (fun h => ?_)
  | refine qr (fun h => ?_) (fun h => ?_)
  | refine qg (fun h => ?_) (fun h => ?_)
  | refine zi env rfl rfl (qq ?_)
  | refine zb env rfl (qq ?_)
 all_goals refine kw ?_
 all_goals (try simp only [List.length_map, w1, w2, w3])
 all_goals clear w1 w2 w3
 all_goals (simp_all [own, ownN, known, max_if])
 all_goals (try omega)
 all_goals (cases hk2 : n.kids <;> simp <;> omega)
set_option maxHeartbeats 4000000 in
/-- treemerge/grammar.Own -/
theorem grammar_Own (n : Node) (hk : n.kids.length ≤ 9223372036854775807) : Fn Tryz.prog G 75 [.agg (zo n)] (.int .i64 (own n)) := by
 cases hkn : known n.kind
 ·rw [own_out n hkn]
  refine zg (T := tt) (N := 45) (rs := [.tmp 2]) (fun vs w => by simp) Tryz.func75 rfl rfl rfl rfl (by kernel_rfl) (zd rfl) (qo _ rfl) ?_
  repeat' first
   | refine zl env rfl ?_
   | (refine qc ?_ ?_; (· simp only [hkn, Bool.not_false]))
   | (refine qd ?_ ?_; (· simp only [hkn, Bool.not_false]))
   | (refine qf ?_ ?_; (· simp only [hkn, Bool.not_false]))
   | (refine qe ?_ ?_; (· simp only [hkn, Bool.not_false]))
   | (refine qh ?_ ?_; (· simp only [hkn, Bool.not_false]))
   | (refine qi ?_ ?_; (· simp only [hkn, Bool.not_false]))
   | refine ql (jh _) ?_
   | refine qm (fun h => ?_) (fun h => ?_)
   | refine qr (fun h => ?_) (fun h => ?_)
   | refine qg (fun h => ?_) (fun h => ?_)
   | refine zi env rfl rfl (qq ?_)
   | refine zb env rfl (qq ?_)
  all_goals rfl
 have w1 : IntKind.i64.wrap ((n.kids.length : Int) - 1) = (n.kids.length : Int) - 1 := zr (by omega) (by omega)
 have w2 : IntKind.i64.wrap ((n.kids.length : Int) - 2) = (n.kids.length : Int) - 2 := zr (by omega) (by omega)
 have w3 : IntKind.i64.wrap ((n.kids.length : Int) - 1 - 1) = (n.kids.length : Int) - 1 - 1 := zr (by omega) (by omega)
 have kb := wm hkn
 have h0 : 0 ≤ n.kind := by omega
 have h2 : n.kind.toNat < 27 := by omega
 have hg := g0_take n.kind h2
 have ho := shape_own n.kind kb.1 kb.2
 refine zg (T := tt) (N := 45) (rs := [.tmp 2]) (fun vs w => by simp) Tryz.func75 rfl rfl rfl rfl (by kernel_rfl) (zd rfl) (qo _ rfl) ?_
 repeat' first
  | refine zl env rfl ?_
  | (refine qc ?_ ?_; (· simp only [hkn, Bool.not_true]))
  | (refine qd ?_ ?_; (· simp only [hkn, Bool.not_true]))
  | (refine qf ?_ ?_; (· simp only [hkn, Bool.not_true]))
  | (refine qe ?_ ?_; (· simp only [hkn, Bool.not_true]))
  | (refine qh ?_ ?_; (· simp only [hkn, Bool.not_true]))
  | (refine qi ?_ ?_; (· simp only [hkn, Bool.not_true]))
  | refine Ok_ixa env rfl rfl rfl rfl h0 h2 hg ?_
  | refine ql (jh _) ?_
  | refine qm (fun h => ?_) (fun h => ?_)
  | refine qr (fun h => ?_) (fun h => ?_)
  | refine qg (fun h => ?_) (fun h => ?_)
  | refine zi env rfl rfl (qq ?_)
  | refine zb env rfl (qq ?_)
 all_goals refine kw ?_
 all_goals (try simp only [List.length_map, w1, w3])
 all_goals clear w1 w2 w3 hg h2 h0
 all_goals (simp_all [own, ownN, max_if])
 all_goals (first | done | (refine congrArg IntKind.i64.wrap (congrArg (_ + ·) ?_); split <;> omega))
end Go.Proofs.YtimcdpioclioiaaGreatDoorW.Ex.Gr
