/- Whole trees: the program's first, within and Check. Conditions: those of the trees that come in (Wf). -/
import Derived.Test.YtimcdpioclioiaaGreatDoorGe
namespace Go.Proofs.YtimcdpioclioiaaGreatDoorW.Ex.Gr
open Go Go.Proofs.YtimcdpioclioiaaGreatDoorW.Ex
set_option linter.all false
set_option maxRecDepth 100000
theorem first_turn (l : List Node) (i : Nat) (hl : l.length ≤ 9223372036854775807) (hJ : i ≤ l.length ∧ ja l = ja (l.drop i)) :
 (∃ m, l[i]? = some m ∧ m ∈ l ∧ i < l.length ∧ decide ((i : Int) < ((l.map Node.cells).length : Int)) = true ∧ IntKind.i64.wrap ((i : Int) + 1) = ((i + 1 : Nat) : Int) ∧
   ((decide (firstErr m = 0) = true ∧ ja l = ja (l.drop (i + 1))) ∨ (decide (firstErr m = 0) = false ∧ ja l = firstErr m))) ∨
 (decide ((i : Int) < ((l.map Node.cells).length : Int)) = false ∧ ja l = 0) := by
 rcases Nat.lt_or_ge i l.length with h | h
 ·refine .inl ⟨l[i], List.getElem?_eq_getElem h, List.getElem_mem h, h, by simpa using h, zr (by omega) (by omega), ?_⟩
  have e : ja (l.drop i) = if firstErr l[i] = 0 then ja (l.drop (i + 1)) else firstErr l[i] := by rw [List.drop_eq_getElem_cons h, ja]
  rw [hJ.2, e]
  by_cases hv : firstErr l[i] = 0
  ·exact .inl ⟨decide_eq_true hv, if_pos hv⟩
  ·exact .inr ⟨decide_eq_false hv, if_neg hv⟩
 ·refine .inr ⟨by simpa using h, ?_⟩
  rw [hJ.2, List.drop_of_length_le h, ja]
set_option maxHeartbeats 4000000 in
/-- grammar.first -/
theorem grammar_first : ∀ n : Node, Wf n → Fn Tryz.prog G 32 [.agg (zo n)] (.int .i64 (firstErr n)) := by
 intro n hwf
 induction hwf with | mk n hk hg ht hs _ ih => ?_
 cases k0 : known n.kind
 case false =>
  have e : jc n = 7 := by simp [jc, yc, k0]
  rw [yk, e]
  refine zg (T := tt) (N := 44) (rs := [.tmp 2]) (fun vs w => by simp) Tryz.func32 rfl rfl rfl rfl (by kernel_rfl) (zd rfl) (qo _ rfl) ?_
  repeat' first
   | refine zl env rfl ?_
   | (refine qc ?_ ?_; (· simp only [k0, Bool.not_true, Bool.not_false]))
   | (refine qd ?_ ?_; (· simp only [k0, Bool.not_true, Bool.not_false]))
   | (refine qf ?_ ?_; (· simp only [k0, Bool.not_true, Bool.not_false]))
   | (refine qe ?_ ?_; (· simp only [k0, Bool.not_true, Bool.not_false]))
   | (refine qh ?_ ?_; (· simp only [k0, Bool.not_true, Bool.not_false]))
   | (refine qi ?_ ?_; (· simp only [k0, Bool.not_true, Bool.not_false]))
   | refine ql (jh _) ?_
   | refine qm (fun h => ?_) (fun h => ?_)
   | refine qr (fun h => ?_) (fun h => ?_)
   | refine qg (fun h => ?_) (fun h => ?_)
   | refine zi env rfl rfl (qq ?_)
   | refine zb env rfl (qq ?_)
  all_goals rfl
 cases k1 : u3 n
 case false =>
  have e : jc n = 7 := by simp [jc, yc, k0, k1]
  rw [yk, e]
  refine zg (T := tt) (N := 44) (rs := [.tmp 2]) (fun vs w => by simp) Tryz.func32 rfl rfl rfl rfl (by kernel_rfl) (zd rfl) (qo _ rfl) ?_
  repeat' first
   | refine zl env rfl ?_
   | (refine qc ?_ ?_; (· simp only [k0, Bool.not_true, Bool.not_false]))
   | (refine qd ?_ ?_; (· simp only [k0, Bool.not_true, Bool.not_false]))
   | (refine qf ?_ ?_; (· simp only [k0, Bool.not_true, Bool.not_false]))
   | (refine qe ?_ ?_; (· simp only [k0, Bool.not_true, Bool.not_false]))
   | (refine qh ?_ ?_; (· simp only [k0, Bool.not_true, Bool.not_false]))
   | (refine qi ?_ ?_; (· simp only [k0, Bool.not_true, Bool.not_false]))
   | (refine qc ?_ ?_; (· simp only [k1, Bool.not_true, Bool.not_false]))
   | (refine qd ?_ ?_; (· simp only [k1, Bool.not_true, Bool.not_false]))
   | (refine qf ?_ ?_; (· simp only [k1, Bool.not_true, Bool.not_false]))
   | (refine qe ?_ ?_; (· simp only [k1, Bool.not_true, Bool.not_false]))
   | (refine qh ?_ ?_; (· simp only [k1, Bool.not_true, Bool.not_false]))
   | (refine qi ?_ ?_; (· simp only [k1, Bool.not_true, Bool.not_false]))
   | refine ql (jh _) ?_
   | refine ql (wt n k0 hk) ?_
   | refine qm (fun h => ?_) (fun h => ?_)
   | refine qr (fun h => ?_) (fun h => ?_)
   | refine qg (fun h => ?_) (fun h => ?_)
   | refine zi env rfl rfl (qq ?_)
   | refine zb env rfl (qq ?_)
  all_goals rfl
 cases k2 : y5 n
 case false =>
  have e : jc n = 7 := by simp [jc, yc, k0, k1, k2]
  rw [yk, e]
  refine zg (T := tt) (N := 44) (rs := [.tmp 2]) (fun vs w => by simp) Tryz.func32 rfl rfl rfl rfl (by kernel_rfl) (zd rfl) (qo _ rfl) ?_
  repeat' first
   | refine zl env rfl ?_
   | (refine qc ?_ ?_; (· simp only [k0, Bool.not_true, Bool.not_false]))
   | (refine qd ?_ ?_; (· simp only [k0, Bool.not_true, Bool.not_false]))
   | (refine qf ?_ ?_; (· simp only [k0, Bool.not_true, Bool.not_false]))
   | (refine qe ?_ ?_; (· simp only [k0, Bool.not_true, Bool.not_false]))
   | (refine qh ?_ ?_; (· simp only [k0, Bool.not_true, Bool.not_false]))
   | (refine qi ?_ ?_; (· simp only [k0, Bool.not_true, Bool.not_false]))
   | (refine qc ?_ ?_; (· simp only [k1, Bool.not_true, Bool.not_false]))
   | (refine qd ?_ ?_; (· simp only [k1, Bool.not_true, Bool.not_false]))
   | (refine qf ?_ ?_; (· simp only [k1, Bool.not_true, Bool.not_false]))
   | (refine qe ?_ ?_; (· simp only [k1, Bool.not_true, Bool.not_false]))
   | (refine qh ?_ ?_; (· simp only [k1, Bool.not_true, Bool.not_false]))
   | (refine qi ?_ ?_; (· simp only [k1, Bool.not_true, Bool.not_false]))
   | (refine qc ?_ ?_; (· simp only [k2, Bool.not_true, Bool.not_false]))
   | (refine qd ?_ ?_; (· simp only [k2, Bool.not_true, Bool.not_false]))
   | (refine qf ?_ ?_; (· simp only [k2, Bool.not_true, Bool.not_false]))
   | (refine qe ?_ ?_; (· simp only [k2, Bool.not_true, Bool.not_false]))
   | (refine qh ?_ ?_; (· simp only [k2, Bool.not_true, Bool.not_false]))
   | (refine qi ?_ ?_; (· simp only [k2, Bool.not_true, Bool.not_false]))
   | refine ql (jh _) ?_
   | refine ql (wt n k0 hk) ?_
   | refine ql (wc n k0) ?_
   | refine qm (fun h => ?_) (fun h => ?_)
   | refine qr (fun h => ?_) (fun h => ?_)
   | refine qg (fun h => ?_) (fun h => ?_)
   | refine zi env rfl rfl (qq ?_)
   | refine zb env rfl (qq ?_)
  all_goals rfl
 cases k3 : kc n
 case false =>
  have e : jc n = 7 := by simp [jc, yc, k0, k1, k2, k3]
  rw [yk, e]
  refine zg (T := tt) (N := 44) (rs := [.tmp 2]) (fun vs w => by simp) Tryz.func32 rfl rfl rfl rfl (by kernel_rfl) (zd rfl) (qo _ rfl) ?_
  repeat' first
   | refine zl env rfl ?_
   | (refine qc ?_ ?_; (· simp only [k0, Bool.not_true, Bool.not_false]))
   | (refine qd ?_ ?_; (· simp only [k0, Bool.not_true, Bool.not_false]))
   | (refine qf ?_ ?_; (· simp only [k0, Bool.not_true, Bool.not_false]))
   | (refine qe ?_ ?_; (· simp only [k0, Bool.not_true, Bool.not_false]))
   | (refine qh ?_ ?_; (· simp only [k0, Bool.not_true, Bool.not_false]))
   | (refine qi ?_ ?_; (· simp only [k0, Bool.not_true, Bool.not_false]))
   | (refine qc ?_ ?_; (· simp only [k1, Bool.not_true, Bool.not_false]))
   | (refine qd ?_ ?_; (· simp only [k1, Bool.not_true, Bool.not_false]))
   | (refine qf ?_ ?_; (· simp only [k1, Bool.not_true, Bool.not_false]))
   | (refine qe ?_ ?_; (· simp only [k1, Bool.not_true, Bool.not_false]))
   | (refine qh ?_ ?_; (· simp only [k1, Bool.not_true, Bool.not_false]))
   | (refine qi ?_ ?_; (· simp only [k1, Bool.not_true, Bool.not_false]))
   | (refine qc ?_ ?_; (· simp only [k2, Bool.not_true, Bool.not_false]))
   | (refine qd ?_ ?_; (· simp only [k2, Bool.not_true, Bool.not_false]))
   | (refine qf ?_ ?_; (· simp only [k2, Bool.not_true, Bool.not_false]))
   | (refine qe ?_ ?_; (· simp only [k2, Bool.not_true, Bool.not_false]))
   | (refine qh ?_ ?_; (· simp only [k2, Bool.not_true, Bool.not_false]))
   | (refine qi ?_ ?_; (· simp only [k2, Bool.not_true, Bool.not_false]))
   | (refine qc ?_ ?_; (· simp only [k3, Bool.not_true, Bool.not_false]))
   | (refine qd ?_ ?_; (· simp only [k3, Bool.not_true, Bool.not_false]))
   | (refine qf ?_ ?_; (· simp only [k3, Bool.not_true, Bool.not_false]))
   | (refine qe ?_ ?_; (· simp only [k3, Bool.not_true, Bool.not_false]))
   | (refine qh ?_ ?_; (· simp only [k3, Bool.not_true, Bool.not_false]))
   | (refine qi ?_ ?_; (· simp only [k3, Bool.not_true, Bool.not_false]))
   | refine ql (jh _) ?_
   | refine ql (wt n k0 hk) ?_
   | refine ql (wc n k0) ?_
   | refine ql (um n (Qc n k1 k0)) ?_
   | refine qm (fun h => ?_) (fun h => ?_)
   | refine qr (fun h => ?_) (fun h => ?_)
   | refine qg (fun h => ?_) (fun h => ?_)
   | refine zi env rfl rfl (qq ?_)
   | refine zb env rfl (qq ?_)
  all_goals rfl
 cases k4 : yy n
 case false =>
  have e : jc n = 4 := by simp [jc, yc, k0, k1, k2, k3, k4]
  rw [yk, e]
  refine zg (T := tt) (N := 44) (rs := [.tmp 2]) (fun vs w => by simp) Tryz.func32 rfl rfl rfl rfl (by kernel_rfl) (zd rfl) (qo _ rfl) ?_
  repeat' first
   | refine zl env rfl ?_
   | (refine qc ?_ ?_; (· simp only [k0, Bool.not_true, Bool.not_false]))
   | (refine qd ?_ ?_; (· simp only [k0, Bool.not_true, Bool.not_false]))
   | (refine qf ?_ ?_; (· simp only [k0, Bool.not_true, Bool.not_false]))
   | (refine qe ?_ ?_; (· simp only [k0, Bool.not_true, Bool.not_false]))
   | (refine qh ?_ ?_; (· simp only [k0, Bool.not_true, Bool.not_false]))
   | (refine qi ?_ ?_; (· simp only [k0, Bool.not_true, Bool.not_false]))
   | (refine qc ?_ ?_; (· simp only [k1, Bool.not_true, Bool.not_false]))
   | (refine qd ?_ ?_; (· simp only [k1, Bool.not_true, Bool.not_false]))
   | (refine qf ?_ ?_; (· simp only [k1, Bool.not_true, Bool.not_false]))
   | (refine qe ?_ ?_; (· simp only [k1, Bool.not_true, Bool.not_false]))
   | (refine qh ?_ ?_; (· simp only [k1, Bool.not_true, Bool.not_false]))
   | (refine qi ?_ ?_; (· simp only [k1, Bool.not_true, Bool.not_false]))
   | (refine qc ?_ ?_; (· simp only [k2, Bool.not_true, Bool.not_false]))
   | (refine qd ?_ ?_; (· simp only [k2, Bool.not_true, Bool.not_false]))
   | (refine qf ?_ ?_; (· simp only [k2, Bool.not_true, Bool.not_false]))
   | (refine qe ?_ ?_; (· simp only [k2, Bool.not_true, Bool.not_false]))
   | (refine qh ?_ ?_; (· simp only [k2, Bool.not_true, Bool.not_false]))
   | (refine qi ?_ ?_; (· simp only [k2, Bool.not_true, Bool.not_false]))
   | (refine qc ?_ ?_; (· simp only [k3, Bool.not_true, Bool.not_false]))
   | (refine qd ?_ ?_; (· simp only [k3, Bool.not_true, Bool.not_false]))
   | (refine qf ?_ ?_; (· simp only [k3, Bool.not_true, Bool.not_false]))
   | (refine qe ?_ ?_; (· simp only [k3, Bool.not_true, Bool.not_false]))
   | (refine qh ?_ ?_; (· simp only [k3, Bool.not_true, Bool.not_false]))
   | (refine qi ?_ ?_; (· simp only [k3, Bool.not_true, Bool.not_false]))
   | (refine qc ?_ ?_; (· simp only [k4, Bool.not_true, Bool.not_false]))
   | (refine qd ?_ ?_; (· simp only [k4, Bool.not_true, Bool.not_false]))
   | (refine qf ?_ ?_; (· simp only [k4, Bool.not_true, Bool.not_false]))
   | (refine qe ?_ ?_; (· simp only [k4, Bool.not_true, Bool.not_false]))
   | (refine qh ?_ ?_; (· simp only [k4, Bool.not_true, Bool.not_false]))
   | (refine qi ?_ ?_; (· simp only [k4, Bool.not_true, Bool.not_false]))
   | refine ql (jh _) ?_
   | refine ql (wt n k0 hk) ?_
   | refine ql (wc n k0) ?_
   | refine ql (um n (Qc n k1 k0)) ?_
   | refine ql (Qd n k0) ?_
   | refine qm (fun h => ?_) (fun h => ?_)
   | refine qr (fun h => ?_) (fun h => ?_)
   | refine qg (fun h => ?_) (fun h => ?_)
   | refine zi env rfl rfl (qq ?_)
   | refine zb env rfl (qq ?_)
  all_goals rfl
 cases k5 : ur n
 case false =>
  have e : jc n = 7 := by simp [jc, yc, k0, k1, k2, k3, k4, k5]
  rw [yk, e]
  refine zg (T := tt) (N := 44) (rs := [.tmp 2]) (fun vs w => by simp) Tryz.func32 rfl rfl rfl rfl (by kernel_rfl) (zd rfl) (qo _ rfl) ?_
  repeat' first
   | refine zl env rfl ?_
   | (refine qc ?_ ?_; (· simp only [k0, Bool.not_true, Bool.not_false]))
   | (refine qd ?_ ?_; (· simp only [k0, Bool.not_true, Bool.not_false]))
   | (refine qf ?_ ?_; (· simp only [k0, Bool.not_true, Bool.not_false]))
   | (refine qe ?_ ?_; (· simp only [k0, Bool.not_true, Bool.not_false]))
   | (refine qh ?_ ?_; (· simp only [k0, Bool.not_true, Bool.not_false]))
   | (refine qi ?_ ?_; (· simp only [k0, Bool.not_true, Bool.not_false]))
   | (refine qc ?_ ?_; (· simp only [k1, Bool.not_true, Bool.not_false]))
   | (refine qd ?_ ?_; (· simp only [k1, Bool.not_true, Bool.not_false]))
   | (refine qf ?_ ?_; (· simp only [k1, Bool.not_true, Bool.not_false]))
   | (refine qe ?_ ?_; (· simp only [k1, Bool.not_true, Bool.not_false]))
   | (refine qh ?_ ?_; (· simp only [k1, Bool.not_true, Bool.not_false]))
   | (refine qi ?_ ?_; (· simp only [k1, Bool.not_true, Bool.not_false]))
   | (refine qc ?_ ?_; (· simp only [k2, Bool.not_true, Bool.not_false]))
   | (refine qd ?_ ?_; (· simp only [k2, Bool.not_true, Bool.not_false]))
   | (refine qf ?_ ?_; (· simp only [k2, Bool.not_true, Bool.not_false]))
   | (refine qe ?_ ?_; (· simp only [k2, Bool.not_true, Bool.not_false]))
   | (refine qh ?_ ?_; (· simp only [k2, Bool.not_true, Bool.not_false]))
   | (refine qi ?_ ?_; (· simp only [k2, Bool.not_true, Bool.not_false]))
   | (refine qc ?_ ?_; (· simp only [k3, Bool.not_true, Bool.not_false]))
   | (refine qd ?_ ?_; (· simp only [k3, Bool.not_true, Bool.not_false]))
   | (refine qf ?_ ?_; (· simp only [k3, Bool.not_true, Bool.not_false]))
   | (refine qe ?_ ?_; (· simp only [k3, Bool.not_true, Bool.not_false]))
   | (refine qh ?_ ?_; (· simp only [k3, Bool.not_true, Bool.not_false]))
   | (refine qi ?_ ?_; (· simp only [k3, Bool.not_true, Bool.not_false]))
   | (refine qc ?_ ?_; (· simp only [k4, Bool.not_true, Bool.not_false]))
   | (refine qd ?_ ?_; (· simp only [k4, Bool.not_true, Bool.not_false]))
   | (refine qf ?_ ?_; (· simp only [k4, Bool.not_true, Bool.not_false]))
   | (refine qe ?_ ?_; (· simp only [k4, Bool.not_true, Bool.not_false]))
   | (refine qh ?_ ?_; (· simp only [k4, Bool.not_true, Bool.not_false]))
   | (refine qi ?_ ?_; (· simp only [k4, Bool.not_true, Bool.not_false]))
   | (refine qc ?_ ?_; (· simp only [k5, Bool.not_true, Bool.not_false]))
   | (refine qd ?_ ?_; (· simp only [k5, Bool.not_true, Bool.not_false]))
   | (refine qf ?_ ?_; (· simp only [k5, Bool.not_true, Bool.not_false]))
   | (refine qe ?_ ?_; (· simp only [k5, Bool.not_true, Bool.not_false]))
   | (refine qh ?_ ?_; (· simp only [k5, Bool.not_true, Bool.not_false]))
   | (refine qi ?_ ?_; (· simp only [k5, Bool.not_true, Bool.not_false]))
   | refine ql (jh _) ?_
   | refine ql (wt n k0 hk) ?_
   | refine ql (wc n k0) ?_
   | refine ql (um n (Qc n k1 k0)) ?_
   | refine ql (Qd n k0) ?_
   | refine ql (grammar_gaps n hg hk hs) ?_
   | refine qm (fun h => ?_) (fun h => ?_)
   | refine qr (fun h => ?_) (fun h => ?_)
   | refine qg (fun h => ?_) (fun h => ?_)
   | refine zi env rfl rfl (qq ?_)
   | refine zb env rfl (qq ?_)
  all_goals rfl
 have e : jc n = 0 := by simp [jc, yc, k0, k1, k2, k3, k4, k5]
 rw [yk, e, if_pos rfl]
 refine zg (T := tt) (N := 44) (rs := [.tmp 2]) (fun vs w => by simp) Tryz.func32 rfl rfl rfl rfl (by kernel_rfl) (zd rfl) (qo _ rfl) ?_
 repeat' first
  | refine zl env rfl ?_
  | (refine k7 (α := Nat) (fun i => i ≤ n.kids.length ∧ ja n.kids = ja (n.kids.drop i)) (fun i => n.kids.length - i) (fun i => [(34, .int .i64 i)]) (fun _ => []) (0) (fun _ => rfl) (fun _ => rfl) (⟨Nat.zero_le _, rfl⟩) ?_ ?_ (fun i hJ => ?_); (· simp [leFT, leV, leOs, leO, leC, rho, AV.ren, AV.ren1, AV.un, AV.un1, AV.closed]); (· simp [leFT, leV, leOs, leO, leC, rho, AV.ren, AV.ren1, AV.un, AV.un1, AV.closed]); rcases first_turn n.kids i hk hJ with ⟨m, hm, hmem, hlt, hb, hw, ⟨g1, he⟩ | ⟨g1, he⟩⟩ | ⟨hb, he⟩)
  | refine kz rfl ?_
  | refine yz rfl rfl ?_
  | (refine ko (i + 1) ?_ ?_ ?_ ?_; (· exact ⟨by omega, he⟩); (· omega); (· (simp only [hw]; simp [leFT, leV, leOs, leO, leC, rho, AV.ren, AV.ren1, AV.un, AV.un1, AV.closed])); (· simp [leFT, leV, leOs, leO, leC, rho, AV.ren, AV.ren1, AV.un, AV.un1, AV.closed]))
  | (refine qc ?_ ?_; (· simp only [k0, Bool.not_true, Bool.not_false]))
  | (refine qd ?_ ?_; (· simp only [k0, Bool.not_true, Bool.not_false]))
  | (refine qf ?_ ?_; (· simp only [k0, Bool.not_true, Bool.not_false]))
  | (refine qe ?_ ?_; (· simp only [k0, Bool.not_true, Bool.not_false]))
  | (refine qh ?_ ?_; (· simp only [k0, Bool.not_true, Bool.not_false]))
  | (refine qi ?_ ?_; (· simp only [k0, Bool.not_true, Bool.not_false]))
  | (refine qc ?_ ?_; (· simp only [k1, Bool.not_true, Bool.not_false]))
  | (refine qd ?_ ?_; (· simp only [k1, Bool.not_true, Bool.not_false]))
  | (refine qf ?_ ?_; (· simp only [k1, Bool.not_true, Bool.not_false]))
  | (refine qe ?_ ?_; (· simp only [k1, Bool.not_true, Bool.not_false]))
  | (refine qh ?_ ?_; (· simp only [k1, Bool.not_true, Bool.not_false]))
  | (refine qi ?_ ?_; (· simp only [k1, Bool.not_true, Bool.not_false]))
  | (refine qc ?_ ?_; (· simp only [k2, Bool.not_true, Bool.not_false]))
  | (refine qd ?_ ?_; (· simp only [k2, Bool.not_true, Bool.not_false]))
  | (refine qf ?_ ?_; (· simp only [k2, Bool.not_true, Bool.not_false]))
  | (refine qe ?_ ?_; (· simp only [k2, Bool.not_true, Bool.not_false]))
  | (refine qh ?_ ?_; (· simp only [k2, Bool.not_true, Bool.not_false]))
  | (refine qi ?_ ?_; (· simp only [k2, Bool.not_true, Bool.not_false]))
  | (refine qc ?_ ?_; (· simp only [k3, Bool.not_true, Bool.not_false]))
  | (refine qd ?_ ?_; (· simp only [k3, Bool.not_true, Bool.not_false]))
  | (refine qf ?_ ?_; (· simp only [k3, Bool.not_true, Bool.not_false]))
  | (refine qe ?_ ?_; (· simp only [k3, Bool.not_true, Bool.not_false]))
  | (refine qh ?_ ?_; (· simp only [k3, Bool.not_true, Bool.not_false]))
  | (refine qi ?_ ?_; (· simp only [k3, Bool.not_true, Bool.not_false]))
  | (refine qc ?_ ?_; (· simp only [k4, Bool.not_true, Bool.not_false]))
  | (refine qd ?_ ?_; (· simp only [k4, Bool.not_true, Bool.not_false]))
  | (refine qf ?_ ?_; (· simp only [k4, Bool.not_true, Bool.not_false]))
  | (refine qe ?_ ?_; (· simp only [k4, Bool.not_true, Bool.not_false]))
  | (refine qh ?_ ?_; (· simp only [k4, Bool.not_true, Bool.not_false]))
  | (refine qi ?_ ?_; (· simp only [k4, Bool.not_true, Bool.not_false]))
  | (refine qc ?_ ?_; (· simp only [k5, Bool.not_true, Bool.not_false]))
  | (refine qd ?_ ?_; (· simp only [k5, Bool.not_true, Bool.not_false]))
  | (refine qf ?_ ?_; (· simp only [k5, Bool.not_true, Bool.not_false]))
  | (refine qe ?_ ?_; (· simp only [k5, Bool.not_true, Bool.not_false]))
  | (refine qh ?_ ?_; (· simp only [k5, Bool.not_true, Bool.not_false]))
  | (refine qi ?_ ?_; (· simp only [k5, Bool.not_true, Bool.not_false]))
  | (refine qc ?_ ?_; (· simp only [hb]))
  | (refine qd ?_ ?_; (· simp only [hb]))
  | (refine qf ?_ ?_; (· simp only [hb]))
  | (refine qe ?_ ?_; (· simp only [hb]))
  | (refine qh ?_ ?_; (· simp only [hb]))
  | (refine qi ?_ ?_; (· simp only [hb]))
  | (refine qc ?_ ?_; (· simp only [g1, Bool.not_true, Bool.not_false]))
  | (refine qd ?_ ?_; (· simp only [g1, Bool.not_true, Bool.not_false]))
  | (refine qf ?_ ?_; (· simp only [g1, Bool.not_true, Bool.not_false]))
  | (refine qe ?_ ?_; (· simp only [g1, Bool.not_true, Bool.not_false]))
  | (refine qh ?_ ?_; (· simp only [g1, Bool.not_true, Bool.not_false]))
  | (refine qi ?_ ?_; (· simp only [g1, Bool.not_true, Bool.not_false]))
  | refine uw env rfl rfl rfl rfl rfl (u4 hm) ?_
  | refine ql (jh _) ?_
  | refine ql (wt n k0 hk) ?_
  | refine ql (wc n k0) ?_
  | refine ql (um n (Qc n k1 k0)) ?_
  | refine ql (Qd n k0) ?_
  | refine ql (grammar_gaps n hg hk hs) ?_
  | refine ql (ih m hmem) ?_
  | refine qm (fun h => ?_) (fun h => ?_)
  | refine qr (fun h => ?_) (fun h => ?_)
  | refine qg (fun h => ?_) (fun h => ?_)
  | refine zi env rfl rfl (qq ?_)
  | refine zb env rfl (qq ?_)
 all_goals refine kw ?_
 all_goals rw [he]
def zt (o : Option Nat) (left : Int) : Int := match o with
 | some s => if (s : Int) ≤ left then left - s else -1
 | none => -1
theorem size_pos : ∀ (n : Node) (d s : Nat), size? n d = some s → 0 < s := by
 intro n d s h
 cases n with
 | mk k t g l =>
   cases d with
   | zero => simp [size?] at h
   | succ d =>
     simp only [size?] at h
     split at h
     ·cases h
     ·simp only [Option.map_eq_some_iff] at h
      obtain ⟨a, _, rfl⟩ := h
      omega
theorem Yn (n : Node) : size? n 0 = none := by cases n; rfl
theorem vp (n : Node) (d : Nat) : size? n (d + 1) = if most n.kind < (n.kids.length : Int) then none else (sizeL? n.kids d).map (· + 1) := by cases n; rfl
theorem u0 (m : Node) (l : List Node) (d : Nat) : sizeL? (m :: l) d = match size? m d, sizeL? l d with | some a, some b => some (a + b) | _, _ => none := rfl
theorem within_cons (m : Node) (l : List Node) (d : Nat) (left : Int) (h0 : 0 ≤ left) :
 (zt (size? m d) left < 0 ∧ zt (sizeL? (m :: l) d) left = -1) ∨ (0 ≤ zt (size? m d) left ∧ zt (size? m d) left ≤ left ∧ zt (sizeL? (m :: l) d) left = zt (sizeL? l d) (zt (size? m d) left)) := by
 rw [u0]
 cases ha : size? m d with
 | none => exact .inl ⟨by simp [zt], by simp [zt]⟩
 | some a =>
   by_cases hl : (a : Int) ≤ left
   ·refine .inr ⟨by simp only [zt, if_pos hl]; omega, by simp only [zt, if_pos hl]; omega, ?_⟩
    cases hb : sizeL? l d with
    | none => simp [zt]
    | some b =>
      simp only [zt, if_pos hl]
      by_cases h2 : (b : Int) ≤ left - a
      ·rw [if_pos (by omega), if_pos h2]; omega
      ·rw [if_neg (by omega), if_neg h2]
   ·refine .inl ⟨by simp only [zt, if_neg hl]; omega, ?_⟩
    cases hb : sizeL? l d with
    | none => simp [zt]
    | some b => simp only [zt]; rw [if_neg (by omega)]
theorem within_step (n : Node) (left : Int) (d : Nat) (hl : 0 < left) : zt (size? n (d + 1)) left = if most n.kind < (n.kids.length : Int) then -1 else zt (sizeL? n.kids d) (left - 1) := by
 rw [vp]
 split
 ·rfl
 ·cases hb : sizeL? n.kids d with
  | none => rfl
  | some b =>
    simp only [Option.map_some, zt]
    by_cases h : (b : Int) ≤ left - 1
    ·rw [if_pos (by omega), if_pos h]; omega
    ·rw [if_neg (by omega), if_neg h]
theorem within_turn (l : List Node) (d i : Nat) (top left : Int) (hl : l.length ≤ 9223372036854775807) (hJ : i ≤ l.length ∧ 0 ≤ left ∧ left ≤ top ∧ zt (sizeL? l d) top = zt (sizeL? (l.drop i) d) left) :
 (∃ m, l[i]? = some m ∧ m ∈ l ∧ i < l.length ∧ decide ((i : Int) < ((l.map Node.cells).length : Int)) = true ∧ IntKind.i64.wrap ((i : Int) + 1) = ((i + 1 : Nat) : Int) ∧
   ((decide (zt (size? m d) left < 0) = true ∧ zt (sizeL? l d) top = -1) ∨
    (decide (zt (size? m d) left < 0) = false ∧ 0 ≤ zt (size? m d) left ∧ zt (size? m d) left ≤ top ∧ zt (sizeL? l d) top = zt (sizeL? (l.drop (i + 1)) d) (zt (size? m d) left)))) ∨
 (decide ((i : Int) < ((l.map Node.cells).length : Int)) = false ∧ zt (sizeL? l d) top = left) := by
 obtain ⟨h1, h2, h3, h4⟩ := hJ
 rcases Nat.lt_or_ge i l.length with h | h
 ·refine .inl ⟨l[i], List.getElem?_eq_getElem h, List.getElem_mem h, h, by simpa using h, zr (by omega) (by omega), ?_⟩
  rw [h4, List.drop_eq_getElem_cons h]
  rcases within_cons l[i] (l.drop (i + 1)) d left h2 with ⟨a, b⟩ | ⟨a, b, c⟩
  ·exact .inl ⟨decide_eq_true a, b⟩
  ·exact .inr ⟨decide_eq_false (by omega), a, by omega, c⟩
 ·refine .inr ⟨by simpa using h, ?_⟩
  rw [h4, List.drop_of_length_le h]
  show zt (some 0) left = left
  simp only [zt]
  rw [if_pos (by omega)]; omega
set_option maxHeartbeats 4000000 in
/-- grammar.within -/
theorem grammar_within : ∀ n : Node, Wf n → ∀ (left : Int) (d : Int), -9223372036854775808 ≤ left → left ≤ 9223372036854775807 → -9223372036854775808 ≤ d → d ≤ 9223372036854775807 →
 Fn Tryz.prog G 31 [.agg (zo n), .int .i64 left, .int .i64 d] (.int .i64 (zt (size? n d.toNat) left)) := by
 intro n hwf
 induction hwf with | mk n hk hg ht hs _ ih => ?_
 intro left d hl0 hl1 hd0 hd1
 by_cases c1 : left ≤ 0
 case pos =>
  have e1 : decide (left ≤ 0) = true := decide_eq_true c1
  have e : zt (size? n d.toNat) left = -1 := by
   unfold zt
   split
   ·rename_i s h; have := size_pos n _ s h; rw [if_neg (by omega)]
   ·rfl
  rw [e]
  refine zg (T := tt) (N := 42) (rs := [.tmp 6]) (fun vs w => by simp) Tryz.func31 rfl rfl rfl rfl (by kernel_rfl) (zd rfl) (qo _ rfl) ?_
  repeat' first
   | refine zl env rfl ?_
   | (refine qc ?_ ?_; (· simp only [e1]))
   | (refine qd ?_ ?_; (· simp only [e1]))
   | (refine qf ?_ ?_; (· simp only [e1]))
   | (refine qe ?_ ?_; (· simp only [e1]))
   | (refine qh ?_ ?_; (· simp only [e1]))
   | (refine qi ?_ ?_; (· simp only [e1]))
   | refine qm (fun h => ?_) (fun h => ?_)
   | refine qr (fun h => ?_) (fun h => ?_)
   | refine qg (fun h => ?_) (fun h => ?_)
   | refine zi env rfl rfl (qq ?_)
   | refine zb env rfl (qq ?_)
  all_goals rfl
 have e1 : decide (left ≤ 0) = false := decide_eq_false c1
 by_cases c2 : d ≤ 0
 case pos =>
  have e2 : decide (d ≤ 0) = true := decide_eq_true c2
  have e : zt (size? n d.toNat) left = -1 := by rw [show d.toNat = 0 by omega, Yn]; rfl
  rw [e]
  refine zg (T := tt) (N := 42) (rs := [.tmp 6]) (fun vs w => by simp) Tryz.func31 rfl rfl rfl rfl (by kernel_rfl) (zd rfl) (qo _ rfl) ?_
  repeat' first
   | refine zl env rfl ?_
   | (refine qc ?_ ?_; (· simp only [e1]))
   | (refine qd ?_ ?_; (· simp only [e1]))
   | (refine qf ?_ ?_; (· simp only [e1]))
   | (refine qe ?_ ?_; (· simp only [e1]))
   | (refine qh ?_ ?_; (· simp only [e1]))
   | (refine qi ?_ ?_; (· simp only [e1]))
   | (refine qc ?_ ?_; (· simp only [e2]))
   | (refine qd ?_ ?_; (· simp only [e2]))
   | (refine qf ?_ ?_; (· simp only [e2]))
   | (refine qe ?_ ?_; (· simp only [e2]))
   | (refine qh ?_ ?_; (· simp only [e2]))
   | (refine qi ?_ ?_; (· simp only [e2]))
   | refine qm (fun h => ?_) (fun h => ?_)
   | refine qr (fun h => ?_) (fun h => ?_)
   | refine qg (fun h => ?_) (fun h => ?_)
   | refine zi env rfl rfl (qq ?_)
   | refine zb env rfl (qq ?_)
  all_goals rfl
 have e2 : decide (d ≤ 0) = false := decide_eq_false c2
 obtain ⟨d, rfl⟩ : ∃ q : Nat, d = ((q + 1 : Nat) : Int) := ⟨d.toNat - 1, by omega⟩
 rw [Int.toNat_natCast, within_step n left d (by omega)]
 by_cases c3 : most n.kind < (n.kids.length : Int)
 case pos =>
  have e3 : decide (most n.kind < ((n.kids.map Node.cells).length : Int)) = true := by simpa using c3
  rw [if_pos c3]
  refine zg (T := tt) (N := 42) (rs := [.tmp 6]) (fun vs w => by simp) Tryz.func31 rfl rfl rfl rfl (by kernel_rfl) (zd rfl) (qo _ rfl) ?_
  repeat' first
   | refine zl env rfl ?_
   | (refine qc ?_ ?_; (· simp only [e1]))
   | (refine qd ?_ ?_; (· simp only [e1]))
   | (refine qf ?_ ?_; (· simp only [e1]))
   | (refine qe ?_ ?_; (· simp only [e1]))
   | (refine qh ?_ ?_; (· simp only [e1]))
   | (refine qi ?_ ?_; (· simp only [e1]))
   | (refine qc ?_ ?_; (· simp only [e2]))
   | (refine qd ?_ ?_; (· simp only [e2]))
   | (refine qf ?_ ?_; (· simp only [e2]))
   | (refine qe ?_ ?_; (· simp only [e2]))
   | (refine qh ?_ ?_; (· simp only [e2]))
   | (refine qi ?_ ?_; (· simp only [e2]))
   | (refine qc ?_ ?_; (· simp only [e3]))
   | (refine qd ?_ ?_; (· simp only [e3]))
   | (refine qf ?_ ?_; (· simp only [e3]))
   | (refine qe ?_ ?_; (· simp only [e3]))
   | (refine qh ?_ ?_; (· simp only [e3]))
   | (refine qi ?_ ?_; (· simp only [e3]))
   | refine ql (grammar_most _) ?_
   | refine qm (fun h => ?_) (fun h => ?_)
   | refine qr (fun h => ?_) (fun h => ?_)
   | refine qg (fun h => ?_) (fun h => ?_)
   | refine zi env rfl rfl (qq ?_)
   | refine zb env rfl (qq ?_)
  all_goals rfl
 have e3 : decide (most n.kind < ((n.kids.map Node.cells).length : Int)) = false := by simpa using c3
 rw [if_neg c3]
 have w1 : IntKind.i64.wrap (left - 1) = left - 1 := zr (by omega) (by omega)
 have w2 : IntKind.i64.wrap (((d + 1 : Nat) : Int) - 1) = (d : Int) := by rw [zr (by omega) (by omega)]; omega
 refine zg (T := tt) (N := 42) (rs := [.tmp 6]) (fun vs w => by simp) Tryz.func31 rfl rfl rfl rfl (by kernel_rfl) (zd rfl) (qo _ rfl) ?_
 repeat' first
  | refine zl env rfl ?_
  | (refine k7 (α := Nat × Int) (fun a => a.1 ≤ n.kids.length ∧ 0 ≤ a.2 ∧ a.2 ≤ left - 1 ∧ zt (sizeL? n.kids d) (left - 1) = zt (sizeL? (n.kids.drop a.1) d) a.2) (fun a => n.kids.length - a.1) (fun a => [(29, .int .i64 a.1), (1, .int .i64 a.2)]) (fun _ => []) ((0, left - 1)) (fun _ => rfl) (fun _ => rfl) (⟨Nat.zero_le _, by show 0 ≤ left - 1; omega, Int.le_refl _, rfl⟩) ?_ ?_ (fun ⟨i, r⟩ hJ => ?_); (· (simp only [w1]; simp [leFT, leV, leOs, leO, leC, rho, AV.ren, AV.ren1, AV.un, AV.un1, AV.closed])); (· (simp only [w1]; simp [leFT, leV, leOs, leO, leC, rho, AV.ren, AV.ren1, AV.un, AV.un1, AV.closed])); rcases within_turn n.kids d i (left - 1) r hk hJ with ⟨m, hm, hmem, hlt, hb, hw, ⟨g1, he⟩ | ⟨g1, p1, p2, he⟩⟩ | ⟨hb, he⟩)
  | refine kz rfl ?_
  | refine yz rfl rfl ?_
  | (refine ko ((i + 1, zt (size? m d) r)) ?_ ?_ ?_ ?_; (· exact ⟨by show i + 1 ≤ n.kids.length; omega, p1, p2, he⟩); (· (show n.kids.length - (i + 1) < n.kids.length - i; omega)); (· (simp only [hw]; simp [leFT, leV, leOs, leO, leC, rho, AV.ren, AV.ren1, AV.un, AV.un1, AV.closed])); (· simp [leFT, leV, leOs, leO, leC, rho, AV.ren, AV.ren1, AV.un, AV.un1, AV.closed]))
  | refine uw env rfl rfl rfl rfl rfl (u4 hm) ?_
  | refine ql (x := .int .i64 (zt (size? m d) r)) (by rw [w2]; exact ih m hmem r d (by omega) (by omega) (by omega) (by omega)) ?_
  | (refine qc ?_ ?_; (· simp only [e1]))
  | (refine qd ?_ ?_; (· simp only [e1]))
  | (refine qf ?_ ?_; (· simp only [e1]))
  | (refine qe ?_ ?_; (· simp only [e1]))
  | (refine qh ?_ ?_; (· simp only [e1]))
  | (refine qi ?_ ?_; (· simp only [e1]))
  | (refine qc ?_ ?_; (· simp only [e2]))
  | (refine qd ?_ ?_; (· simp only [e2]))
  | (refine qf ?_ ?_; (· simp only [e2]))
  | (refine qe ?_ ?_; (· simp only [e2]))
  | (refine qh ?_ ?_; (· simp only [e2]))
  | (refine qi ?_ ?_; (· simp only [e2]))
  | (refine qc ?_ ?_; (· simp only [e3]))
  | (refine qd ?_ ?_; (· simp only [e3]))
  | (refine qf ?_ ?_; (· simp only [e3]))
  | (refine qe ?_ ?_; (· simp only [e3]))
  | (refine qh ?_ ?_; (· simp only [e3]))
  | (refine qi ?_ ?_; (· simp only [e3]))
  | (refine qc ?_ ?_; (· simp only [hb]))
  | (refine qd ?_ ?_; (· simp only [hb]))
  | (refine qf ?_ ?_; (· simp only [hb]))
  | (refine qe ?_ ?_; (· simp only [hb]))
  | (refine qh ?_ ?_; (· simp only [hb]))
  | (refine qi ?_ ?_; (· simp only [hb]))
  | (refine qc ?_ ?_; (· simp only [g1]))
  | (refine qd ?_ ?_; (· simp only [g1]))
  | (refine qf ?_ ?_; (· simp only [g1]))
  | (refine qe ?_ ?_; (· simp only [g1]))
  | (refine qh ?_ ?_; (· simp only [g1]))
  | (refine qi ?_ ?_; (· simp only [g1]))
  | refine ql (grammar_most _) ?_
  | refine qm (fun h => ?_) (fun h => ?_)
  | refine qr (fun h => ?_) (fun h => ?_)
  | refine qg (fun h => ?_) (fun h => ?_)
  | refine zi env rfl rfl (qq ?_)
  | refine zb env rfl (qq ?_)
 all_goals refine kw ?_
 all_goals rw [he]
end Go.Proofs.YtimcdpioclioiaaGreatDoorW.Ex.Gr
