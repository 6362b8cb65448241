/- Whole trees: the program's first, within and Check. Conditions: those of the trees that come in (Wf). -/
import Derived.Test.YtigmilhpeodhbaaGreatDoorGe
namespace Go.Proofs.YtigmilhpeodhbaaGreatDoorW.Ex.Gr
open Go Go.Proofs.YtigmilhpeodhbaaGreatDoorW.Ex
set_option linter.all false
set_option maxRecDepth 100000
theorem qv9 (l : List Node) (i : Nat) (hl : l.length ≤ 9223372036854775807) (hJ : i ≤ l.length ∧ wx l = wx (l.drop i)) :
 (∃ m, l[i]? = some m ∧ m ∈ l ∧ i < l.length ∧ decide ((i : Int) < ((l.map Node.cells).length : Int)) = true ∧ IntKind.i64.wrap ((i : Int) + 1) = ((i + 1 : Nat) : Int) ∧
   ((decide (w0 m = 0) = true ∧ wx l = wx (l.drop (i + 1))) ∨ (decide (w0 m = 0) = false ∧ wx l = w0 m))) ∨
 (decide ((i : Int) < ((l.map Node.cells).length : Int)) = false ∧ wx l = 0) := by
 rcases Nat.lt_or_ge i l.length with h | h
 ·refine .inl ⟨l[i], List.getElem?_eq_getElem h, List.getElem_mem h, h, by simpa using h, j6 (by omega) (by omega), ?_⟩
  have e : wx (l.drop i) = if w0 l[i] = 0 then wx (l.drop (i + 1)) else w0 l[i] := by rw [List.drop_eq_getElem_cons h, wx]
  rw [hJ.2, e]
  by_cases hv : w0 l[i] = 0
  ·exact .inl ⟨decide_eq_true hv, if_pos hv⟩
  ·exact .inr ⟨decide_eq_false hv, if_neg hv⟩
 ·refine .inr ⟨by simpa using h, ?_⟩
  rw [hJ.2, List.drop_of_length_le h, wx]
set_option maxHeartbeats 4000000 in
/-- grammar.first -/
theorem qpk : ∀ n : Node, Wf n → Fn Tryz.prog G 40 [.agg (zf n)] (.int .i64 (w0 n)) := by
 intro n hwf
 induction hwf with | mk n hk hg ht hs _ ih => ?_
 cases k0 : known n.kind
 case false =>
  have e : wn n = 7 := by simp [wn, Qz, k0]
  rw [Jq, e]
  refine zk (T := tt) (N := 44) (rs := [.tmp 2]) (fun vs w => by simp) Tryz.func40 rfl rfl rfl rfl (by kernel_rfl) (zl rfl) (qz _ rfl) ?_
  repeat' first
   | refine ji env rfl ?_
   | (refine qe ?_ ?_; (· simp only [k0, Bool.not_true, Bool.not_false]))
   | (refine qf ?_ ?_; (· simp only [k0, Bool.not_true, Bool.not_false]))
   | (refine qh ?_ ?_; (· simp only [k0, Bool.not_true, Bool.not_false]))
   | (refine qg ?_ ?_; (· simp only [k0, Bool.not_true, Bool.not_false]))
   | (refine qo ?_ ?_; (· simp only [k0, Bool.not_true, Bool.not_false]))
   | (refine qp ?_ ?_; (· simp only [k0, Bool.not_true, Bool.not_false]))
   | refine ql (wd _) ?_
   | refine qr (fun h => ?_) (fun h => ?_)
   | refine qu (fun h => ?_) (fun h => ?_)
   | refine qj (fun h => ?_) (fun h => ?_)
   | refine zd env rfl rfl (q4 ?_)
   | refine zm env rfl (q4 ?_)
  all_goals rfl
 cases k1 : qgi n
 case false =>
  have e : wn n = 7 := by simp [wn, Qz, k0, k1]
  rw [Jq, e]
  refine zk (T := tt) (N := 44) (rs := [.tmp 2]) (fun vs w => by simp) Tryz.func40 rfl rfl rfl rfl (by kernel_rfl) (zl rfl) (qz _ rfl) ?_
  repeat' first
   | refine ji env rfl ?_
   | (refine qe ?_ ?_; (· simp only [k0, Bool.not_true, Bool.not_false]))
   | (refine qf ?_ ?_; (· simp only [k0, Bool.not_true, Bool.not_false]))
   | (refine qh ?_ ?_; (· simp only [k0, Bool.not_true, Bool.not_false]))
   | (refine qg ?_ ?_; (· simp only [k0, Bool.not_true, Bool.not_false]))
   | (refine qo ?_ ?_; (· simp only [k0, Bool.not_true, Bool.not_false]))
   | (refine qp ?_ ?_; (· simp only [k0, Bool.not_true, Bool.not_false]))
   | (refine qe ?_ ?_; (· simp only [k1, Bool.not_true, Bool.not_false]))
   | (refine qf ?_ ?_; (· simp only [k1, Bool.not_true, Bool.not_false]))
   | (refine qh ?_ ?_; (· simp only [k1, Bool.not_true, Bool.not_false]))
   | (refine qg ?_ ?_; (· simp only [k1, Bool.not_true, Bool.not_false]))
   | (refine qo ?_ ?_; (· simp only [k1, Bool.not_true, Bool.not_false]))
   | (refine qp ?_ ?_; (· simp only [k1, Bool.not_true, Bool.not_false]))
   | refine ql (wd _) ?_
   | refine ql (Y4 n k0 hk) ?_
   | refine qr (fun h => ?_) (fun h => ?_)
   | refine qu (fun h => ?_) (fun h => ?_)
   | refine qj (fun h => ?_) (fun h => ?_)
   | refine zd env rfl rfl (q4 ?_)
   | refine zm env rfl (q4 ?_)
  all_goals rfl
 cases k2 : qb0 n
 case false =>
  have e : wn n = 7 := by simp [wn, Qz, k0, k1, k2]
  rw [Jq, e]
  refine zk (T := tt) (N := 44) (rs := [.tmp 2]) (fun vs w => by simp) Tryz.func40 rfl rfl rfl rfl (by kernel_rfl) (zl rfl) (qz _ rfl) ?_
  repeat' first
   | refine ji env rfl ?_
   | (refine qe ?_ ?_; (· simp only [k0, Bool.not_true, Bool.not_false]))
   | (refine qf ?_ ?_; (· simp only [k0, Bool.not_true, Bool.not_false]))
   | (refine qh ?_ ?_; (· simp only [k0, Bool.not_true, Bool.not_false]))
   | (refine qg ?_ ?_; (· simp only [k0, Bool.not_true, Bool.not_false]))
   | (refine qo ?_ ?_; (· simp only [k0, Bool.not_true, Bool.not_false]))
   | (refine qp ?_ ?_; (· simp only [k0, Bool.not_true, Bool.not_false]))
   | (refine qe ?_ ?_; (· simp only [k1, Bool.not_true, Bool.not_false]))
   | (refine qf ?_ ?_; (· simp only [k1, Bool.not_true, Bool.not_false]))
   | (refine qh ?_ ?_; (· simp only [k1, Bool.not_true, Bool.not_false]))
   | (refine qg ?_ ?_; (· simp only [k1, Bool.not_true, Bool.not_false]))
   | (refine qo ?_ ?_; (· simp only [k1, Bool.not_true, Bool.not_false]))
   | (refine qp ?_ ?_; (· simp only [k1, Bool.not_true, Bool.not_false]))
   | (refine qe ?_ ?_; (· simp only [k2, Bool.not_true, Bool.not_false]))
   | (refine qf ?_ ?_; (· simp only [k2, Bool.not_true, Bool.not_false]))
   | (refine qh ?_ ?_; (· simp only [k2, Bool.not_true, Bool.not_false]))
   | (refine qg ?_ ?_; (· simp only [k2, Bool.not_true, Bool.not_false]))
   | (refine qo ?_ ?_; (· simp only [k2, Bool.not_true, Bool.not_false]))
   | (refine qp ?_ ?_; (· simp only [k2, Bool.not_true, Bool.not_false]))
   | refine ql (wd _) ?_
   | refine ql (Y4 n k0 hk) ?_
   | refine ql (Ye n k0) ?_
   | refine qr (fun h => ?_) (fun h => ?_)
   | refine qu (fun h => ?_) (fun h => ?_)
   | refine qj (fun h => ?_) (fun h => ?_)
   | refine zd env rfl rfl (q4 ?_)
   | refine zm env rfl (q4 ?_)
  all_goals rfl
 cases k3 : Yw n
 case false =>
  have e : wn n = 7 := by simp [wn, Qz, k0, k1, k2, k3]
  rw [Jq, e]
  refine zk (T := tt) (N := 44) (rs := [.tmp 2]) (fun vs w => by simp) Tryz.func40 rfl rfl rfl rfl (by kernel_rfl) (zl rfl) (qz _ rfl) ?_
  repeat' first
   | refine ji env rfl ?_
   | (refine qe ?_ ?_; (· simp only [k0, Bool.not_true, Bool.not_false]))
   | (refine qf ?_ ?_; (· simp only [k0, Bool.not_true, Bool.not_false]))
   | (refine qh ?_ ?_; (· simp only [k0, Bool.not_true, Bool.not_false]))
   | (refine qg ?_ ?_; (· simp only [k0, Bool.not_true, Bool.not_false]))
   | (refine qo ?_ ?_; (· simp only [k0, Bool.not_true, Bool.not_false]))
   | (refine qp ?_ ?_; (· simp only [k0, Bool.not_true, Bool.not_false]))
   | (refine qe ?_ ?_; (· simp only [k1, Bool.not_true, Bool.not_false]))
   | (refine qf ?_ ?_; (· simp only [k1, Bool.not_true, Bool.not_false]))
   | (refine qh ?_ ?_; (· simp only [k1, Bool.not_true, Bool.not_false]))
   | (refine qg ?_ ?_; (· simp only [k1, Bool.not_true, Bool.not_false]))
   | (refine qo ?_ ?_; (· simp only [k1, Bool.not_true, Bool.not_false]))
   | (refine qp ?_ ?_; (· simp only [k1, Bool.not_true, Bool.not_false]))
   | (refine qe ?_ ?_; (· simp only [k2, Bool.not_true, Bool.not_false]))
   | (refine qf ?_ ?_; (· simp only [k2, Bool.not_true, Bool.not_false]))
   | (refine qh ?_ ?_; (· simp only [k2, Bool.not_true, Bool.not_false]))
   | (refine qg ?_ ?_; (· simp only [k2, Bool.not_true, Bool.not_false]))
   | (refine qo ?_ ?_; (· simp only [k2, Bool.not_true, Bool.not_false]))
   | (refine qp ?_ ?_; (· simp only [k2, Bool.not_true, Bool.not_false]))
   | (refine qe ?_ ?_; (· simp only [k3, Bool.not_true, Bool.not_false]))
   | (refine qf ?_ ?_; (· simp only [k3, Bool.not_true, Bool.not_false]))
   | (refine qh ?_ ?_; (· simp only [k3, Bool.not_true, Bool.not_false]))
   | (refine qg ?_ ?_; (· simp only [k3, Bool.not_true, Bool.not_false]))
   | (refine qo ?_ ?_; (· simp only [k3, Bool.not_true, Bool.not_false]))
   | (refine qp ?_ ?_; (· simp only [k3, Bool.not_true, Bool.not_false]))
   | refine ql (wd _) ?_
   | refine ql (Y4 n k0 hk) ?_
   | refine ql (Ye n k0) ?_
   | refine ql (Wt n (qcf n k1 k0)) ?_
   | refine qr (fun h => ?_) (fun h => ?_)
   | refine qu (fun h => ?_) (fun h => ?_)
   | refine qj (fun h => ?_) (fun h => ?_)
   | refine zd env rfl rfl (q4 ?_)
   | refine zm env rfl (q4 ?_)
  all_goals rfl
 cases k4 : Wx n
 case false =>
  have e : wn n = 4 := by simp [wn, Qz, k0, k1, k2, k3, k4]
  rw [Jq, e]
  refine zk (T := tt) (N := 44) (rs := [.tmp 2]) (fun vs w => by simp) Tryz.func40 rfl rfl rfl rfl (by kernel_rfl) (zl rfl) (qz _ rfl) ?_
  repeat' first
   | refine ji env rfl ?_
   | (refine qe ?_ ?_; (· simp only [k0, Bool.not_true, Bool.not_false]))
   | (refine qf ?_ ?_; (· simp only [k0, Bool.not_true, Bool.not_false]))
   | (refine qh ?_ ?_; (· simp only [k0, Bool.not_true, Bool.not_false]))
   | (refine qg ?_ ?_; (· simp only [k0, Bool.not_true, Bool.not_false]))
   | (refine qo ?_ ?_; (· simp only [k0, Bool.not_true, Bool.not_false]))
   | (refine qp ?_ ?_; (· simp only [k0, Bool.not_true, Bool.not_false]))
   | (refine qe ?_ ?_; (· simp only [k1, Bool.not_true, Bool.not_false]))
   | (refine qf ?_ ?_; (· simp only [k1, Bool.not_true, Bool.not_false]))
   | (refine qh ?_ ?_; (· simp only [k1, Bool.not_true, Bool.not_false]))
   | (refine qg ?_ ?_; (· simp only [k1, Bool.not_true, Bool.not_false]))
   | (refine qo ?_ ?_; (· simp only [k1, Bool.not_true, Bool.not_false]))
   | (refine qp ?_ ?_; (· simp only [k1, Bool.not_true, Bool.not_false]))
   | (refine qe ?_ ?_; (· simp only [k2, Bool.not_true, Bool.not_false]))
   | (refine qf ?_ ?_; (· simp only [k2, Bool.not_true, Bool.not_false]))
   | (refine qh ?_ ?_; (· simp only [k2, Bool.not_true, Bool.not_false]))
   | (refine qg ?_ ?_; (· simp only [k2, Bool.not_true, Bool.not_false]))
   | (refine qo ?_ ?_; (· simp only [k2, Bool.not_true, Bool.not_false]))
   | (refine qp ?_ ?_; (· simp only [k2, Bool.not_true, Bool.not_false]))
   | (refine qe ?_ ?_; (· simp only [k3, Bool.not_true, Bool.not_false]))
   | (refine qf ?_ ?_; (· simp only [k3, Bool.not_true, Bool.not_false]))
   | (refine qh ?_ ?_; (· simp only [k3, Bool.not_true, Bool.not_false]))
   | (refine qg ?_ ?_; (· simp only [k3, Bool.not_true, Bool.not_false]))
   | (refine qo ?_ ?_; (· simp only [k3, Bool.not_true, Bool.not_false]))
   | (refine qp ?_ ?_; (· simp only [k3, Bool.not_true, Bool.not_false]))
   | (refine qe ?_ ?_; (· simp only [k4, Bool.not_true, Bool.not_false]))
   | (refine qf ?_ ?_; (· simp only [k4, Bool.not_true, Bool.not_false]))
   | (refine qh ?_ ?_; (· simp only [k4, Bool.not_true, Bool.not_false]))
   | (refine qg ?_ ?_; (· simp only [k4, Bool.not_true, Bool.not_false]))
   | (refine qo ?_ ?_; (· simp only [k4, Bool.not_true, Bool.not_false]))
   | (refine qp ?_ ?_; (· simp only [k4, Bool.not_true, Bool.not_false]))
   | refine ql (wd _) ?_
   | refine ql (Y4 n k0 hk) ?_
   | refine ql (Ye n k0) ?_
   | refine ql (Wt n (qcf n k1 k0)) ?_
   | refine ql (qcg n k0) ?_
   | refine qr (fun h => ?_) (fun h => ?_)
   | refine qu (fun h => ?_) (fun h => ?_)
   | refine qj (fun h => ?_) (fun h => ?_)
   | refine zd env rfl rfl (q4 ?_)
   | refine zm env rfl (q4 ?_)
  all_goals rfl
 cases k5 : qgj n
 case false =>
  have e : wn n = 7 := by simp [wn, Qz, k0, k1, k2, k3, k4, k5]
  rw [Jq, e]
  refine zk (T := tt) (N := 44) (rs := [.tmp 2]) (fun vs w => by simp) Tryz.func40 rfl rfl rfl rfl (by kernel_rfl) (zl rfl) (qz _ rfl) ?_
  repeat' first
   | refine ji env rfl ?_
   | (refine qe ?_ ?_; (· simp only [k0, Bool.not_true, Bool.not_false]))
   | (refine qf ?_ ?_; (· simp only [k0, Bool.not_true, Bool.not_false]))
   | (refine qh ?_ ?_; (· simp only [k0, Bool.not_true, Bool.not_false]))
   | (refine qg ?_ ?_; (· simp only [k0, Bool.not_true, Bool.not_false]))
   | (refine qo ?_ ?_; (· simp only [k0, Bool.not_true, Bool.not_false]))
   | (refine qp ?_ ?_; (· simp only [k0, Bool.not_true, Bool.not_false]))
   | (refine qe ?_ ?_; (· simp only [k1, Bool.not_true, Bool.not_false]))
   | (refine qf ?_ ?_; (· simp only [k1, Bool.not_true, Bool.not_false]))
   | (refine qh ?_ ?_; (· simp only [k1, Bool.not_true, Bool.not_false]))
   | (refine qg ?_ ?_; (· simp only [k1, Bool.not_true, Bool.not_false]))
   | (refine qo ?_ ?_; (· simp only [k1, Bool.not_true, Bool.not_false]))
   | (refine qp ?_ ?_; (· simp only [k1, Bool.not_true, Bool.not_false]))
   | (refine qe ?_ ?_; (· simp only [k2, Bool.not_true, Bool.not_false]))
   | (refine qf ?_ ?_; (· simp only [k2, Bool.not_true, Bool.not_false]))
   | (refine qh ?_ ?_; (· simp only [k2, Bool.not_true, Bool.not_false]))
   | (refine qg ?_ ?_; (· simp only [k2, Bool.not_true, Bool.not_false]))
   | (refine qo ?_ ?_; (· simp only [k2, Bool.not_true, Bool.not_false]))
   | (refine qp ?_ ?_; (· simp only [k2, Bool.not_true, Bool.not_false]))
   | (refine qe ?_ ?_; (· simp only [k3, Bool.not_true, Bool.not_false]))
   | (refine qf ?_ ?_; (· simp only [k3, Bool.not_true, Bool.not_false]))
   | (refine qh ?_ ?_; (· simp only [k3, Bool.not_true, Bool.not_false]))
   | (refine qg ?_ ?_; (· simp only [k3, Bool.not_true, Bool.not_false]))
   | (refine qo ?_ ?_; (· simp only [k3, Bool.not_true, Bool.not_false]))
   | (refine qp ?_ ?_; (· simp only [k3, Bool.not_true, Bool.not_false]))
   | (refine qe ?_ ?_; (· simp only [k4, Bool.not_true, Bool.not_false]))
   | (refine qf ?_ ?_; (· simp only [k4, Bool.not_true, Bool.not_false]))
   | (refine qh ?_ ?_; (· simp only [k4, Bool.not_true, Bool.not_false]))
   | (refine qg ?_ ?_; (· simp only [k4, Bool.not_true, Bool.not_false]))
   | (refine qo ?_ ?_; (· simp only [k4, Bool.not_true, Bool.not_false]))
   | (refine qp ?_ ?_; (· simp only [k4, Bool.not_true, Bool.not_false]))
   | (refine qe ?_ ?_; (· simp only [k5, Bool.not_true, Bool.not_false]))
   | (refine qf ?_ ?_; (· simp only [k5, Bool.not_true, Bool.not_false]))
   | (refine qh ?_ ?_; (· simp only [k5, Bool.not_true, Bool.not_false]))
   | (refine qg ?_ ?_; (· simp only [k5, Bool.not_true, Bool.not_false]))
   | (refine qo ?_ ?_; (· simp only [k5, Bool.not_true, Bool.not_false]))
   | (refine qp ?_ ?_; (· simp only [k5, Bool.not_true, Bool.not_false]))
   | refine ql (wd _) ?_
   | refine ql (Y4 n k0 hk) ?_
   | refine ql (Ye n k0) ?_
   | refine ql (Wt n (qcf n k1 k0)) ?_
   | refine ql (qcg n k0) ?_
   | refine ql (qjl n hg hk hs) ?_
   | refine qr (fun h => ?_) (fun h => ?_)
   | refine qu (fun h => ?_) (fun h => ?_)
   | refine qj (fun h => ?_) (fun h => ?_)
   | refine zd env rfl rfl (q4 ?_)
   | refine zm env rfl (q4 ?_)
  all_goals rfl
 have e : wn n = 0 := by simp [wn, Qz, k0, k1, k2, k3, k4, k5]
 rw [Jq, e, if_pos rfl]
 refine zk (T := tt) (N := 44) (rs := [.tmp 2]) (fun vs w => by simp) Tryz.func40 rfl rfl rfl rfl (by kernel_rfl) (zl rfl) (qz _ rfl) ?_
 repeat' first
  | refine ji env rfl ?_
  | (refine Jy (α := Nat) (fun i => i ≤ n.kids.length ∧ wx n.kids = wx (n.kids.drop i)) (fun i => n.kids.length - i) (fun i => [(34, .int .i64 i)]) (fun _ => []) (0) (fun _ => rfl) (fun _ => rfl) (⟨Nat.zero_le _, rfl⟩) ?_ ?_ (fun i hJ => ?_); (· simp [leFT, leV, leOs, leO, leC, rho, AV.ren, AV.ren1, AV.un, AV.un1, AV.closed]); (· simp [leFT, leV, leOs, leO, leC, rho, AV.ren, AV.ren1, AV.un, AV.un1, AV.closed]); rcases qv9 n.kids i hk hJ with ⟨m, hm, hmem, hlt, hb, hw, ⟨g1, he⟩ | ⟨g1, he⟩⟩ | ⟨hb, he⟩)
  | refine Jx rfl ?_
  | refine Zh rfl rfl ?_
  | (refine Jg (i + 1) ?_ ?_ ?_ ?_; (· exact ⟨by omega, he⟩); (· omega); (· (simp only [hw]; simp [leFT, leV, leOs, leO, leC, rho, AV.ren, AV.ren1, AV.un, AV.un1, AV.closed])); (· simp [leFT, leV, leOs, leO, leC, rho, AV.ren, AV.ren1, AV.un, AV.un1, AV.closed]))
  | (refine qe ?_ ?_; (· simp only [k0, Bool.not_true, Bool.not_false]))
  | (refine qf ?_ ?_; (· simp only [k0, Bool.not_true, Bool.not_false]))
  | (refine qh ?_ ?_; (· simp only [k0, Bool.not_true, Bool.not_false]))
  | (refine qg ?_ ?_; (· simp only [k0, Bool.not_true, Bool.not_false]))
  | (refine qo ?_ ?_; (· simp only [k0, Bool.not_true, Bool.not_false]))
  | (refine qp ?_ ?_; (· simp only [k0, Bool.not_true, Bool.not_false]))
  | (refine qe ?_ ?_; (· simp only [k1, Bool.not_true, Bool.not_false]))
  | (refine qf ?_ ?_; (· simp only [k1, Bool.not_true, Bool.not_false]))
  | (refine qh ?_ ?_; (· simp only [k1, Bool.not_true, Bool.not_false]))
  | (refine qg ?_ ?_; (· simp only [k1, Bool.not_true, Bool.not_false]))
  | (refine qo ?_ ?_; (· simp only [k1, Bool.not_true, Bool.not_false]))
  | (refine qp ?_ ?_; (· simp only [k1, Bool.not_true, Bool.not_false]))
  | (refine qe ?_ ?_; (· simp only [k2, Bool.not_true, Bool.not_false]))
  | (refine qf ?_ ?_; (· simp only [k2, Bool.not_true, Bool.not_false]))
  | (refine qh ?_ ?_; (· simp only [k2, Bool.not_true, Bool.not_false]))
  | (refine qg ?_ ?_; (· simp only [k2, Bool.not_true, Bool.not_false]))
  | (refine qo ?_ ?_; (· simp only [k2, Bool.not_true, Bool.not_false]))
  | (refine qp ?_ ?_; (· simp only [k2, Bool.not_true, Bool.not_false]))
  | (refine qe ?_ ?_; (· simp only [k3, Bool.not_true, Bool.not_false]))
  | (refine qf ?_ ?_; (· simp only [k3, Bool.not_true, Bool.not_false]))
  | (refine qh ?_ ?_; (· simp only [k3, Bool.not_true, Bool.not_false]))
  | (refine qg ?_ ?_; (· simp only [k3, Bool.not_true, Bool.not_false]))
  | (refine qo ?_ ?_; (· simp only [k3, Bool.not_true, Bool.not_false]))
  | (refine qp ?_ ?_; (· simp only [k3, Bool.not_true, Bool.not_false]))
  | (refine qe ?_ ?_; (· simp only [k4, Bool.not_true, Bool.not_false]))
  | (refine qf ?_ ?_; (· simp only [k4, Bool.not_true, Bool.not_false]))
  | (refine qh ?_ ?_; (· simp only [k4, Bool.not_true, Bool.not_false]))
  | (refine qg ?_ ?_; (· simp only [k4, Bool.not_true, Bool.not_false]))
  | (refine qo ?_ ?_; (· simp only [k4, Bool.not_true, Bool.not_false]))
  | (refine qp ?_ ?_; (· simp only [k4, Bool.not_true, Bool.not_false]))
  | (refine qe ?_ ?_; (· simp only [k5, Bool.not_true, Bool.not_false]))
  | (refine qf ?_ ?_; (· simp only [k5, Bool.not_true, Bool.not_false]))
  | (refine qh ?_ ?_; (· simp only [k5, Bool.not_true, Bool.not_false]))
  | (refine qg ?_ ?_; (· simp only [k5, Bool.not_true, Bool.not_false]))
  | (refine qo ?_ ?_; (· simp only [k5, Bool.not_true, Bool.not_false]))
  | (refine qp ?_ ?_; (· simp only [k5, Bool.not_true, Bool.not_false]))
  | (refine qe ?_ ?_; (· simp only [hb]))
  | (refine qf ?_ ?_; (· simp only [hb]))
  | (refine qh ?_ ?_; (· simp only [hb]))
  | (refine qg ?_ ?_; (· simp only [hb]))
  | (refine qo ?_ ?_; (· simp only [hb]))
  | (refine qp ?_ ?_; (· simp only [hb]))
  | (refine qe ?_ ?_; (· simp only [g1, Bool.not_true, Bool.not_false]))
  | (refine qf ?_ ?_; (· simp only [g1, Bool.not_true, Bool.not_false]))
  | (refine qh ?_ ?_; (· simp only [g1, Bool.not_true, Bool.not_false]))
  | (refine qg ?_ ?_; (· simp only [g1, Bool.not_true, Bool.not_false]))
  | (refine qo ?_ ?_; (· simp only [g1, Bool.not_true, Bool.not_false]))
  | (refine qp ?_ ?_; (· simp only [g1, Bool.not_true, Bool.not_false]))
  | refine qai env rfl rfl rfl rfl rfl (qan hm) ?_
  | refine ql (wd _) ?_
  | refine ql (Y4 n k0 hk) ?_
  | refine ql (Ye n k0) ?_
  | refine ql (Wt n (qcf n k1 k0)) ?_
  | refine ql (qcg n k0) ?_
  | refine ql (qjl n hg hk hs) ?_
  | refine ql (ih m hmem) ?_
  | refine qr (fun h => ?_) (fun h => ?_)
  | refine qu (fun h => ?_) (fun h => ?_)
  | refine qj (fun h => ?_) (fun h => ?_)
  | refine zd env rfl rfl (q4 ?_)
  | refine zm env rfl (q4 ?_)
 all_goals refine Jt ?_
 all_goals rw [he]
def j7 (o : Option Nat) (left : Int) : Int := match o with
 | some s => if (s : Int) ≤ left then left - s else -1
 | none => -1
theorem q0i : ∀ (n : Node) (d s : Nat), size? n d = some s → 0 < s := by
 intro n d s h
 cases n with
 | mk k t g l =>
   cases d with
   | zero => simp [size?] at h
   | succ d =>
     simp only [size?] at h
     split at h
     ·cases h
     ·simp only [Option.map_eq_some_iff] at h
      obtain ⟨a, _, rfl⟩ := h
      omega
theorem qp4 (n : Node) : size? n 0 = none := by cases n; rfl
theorem qp5 (n : Node) (d : Nat) : size? n (d + 1) = if most n.kind < (n.kids.length : Int) then none else (sizeL? n.kids d).map (· + 1) := by cases n; rfl
theorem qna (m : Node) (l : List Node) (d : Nat) : sizeL? (m :: l) d = match size? m d, sizeL? l d with | some a, some b => some (a + b) | _, _ => none := rfl
theorem qs3 (m : Node) (l : List Node) (d : Nat) (left : Int) (h0 : 0 ≤ left) :
 (j7 (size? m d) left < 0 ∧ j7 (sizeL? (m :: l) d) left = -1) ∨ (0 ≤ j7 (size? m d) left ∧ j7 (size? m d) left ≤ left ∧ j7 (sizeL? (m :: l) d) left = j7 (sizeL? l d) (j7 (size? m d) left)) := by
 rw [qna]
 cases ha : size? m d with
 | none => exact .inl ⟨by simp [j7], by simp [j7]⟩
 | some a =>
   by_cases hl : (a : Int) ≤ left
   ·refine .inr ⟨by simp only [j7, if_pos hl]; omega, by simp only [j7, if_pos hl]; omega, ?_⟩
    cases hb : sizeL? l d with
    | none => simp [j7]
    | some b =>
      simp only [j7, if_pos hl]
      by_cases h2 : (b : Int) ≤ left - a
      ·rw [if_pos (by omega), if_pos h2]; omega
      ·rw [if_neg (by omega), if_neg h2]
   ·refine .inl ⟨by simp only [j7, if_neg hl]; omega, ?_⟩
    cases hb : sizeL? l d with
    | none => simp [j7]
    | some b => simp only [j7]; rw [if_neg (by omega)]
theorem qs2 (n : Node) (left : Int) (d : Nat) (hl : 0 < left) : j7 (size? n (d + 1)) left = if most n.kind < (n.kids.length : Int) then -1 else j7 (sizeL? n.kids d) (left - 1) := by
 rw [qp5]
 split
 ·rfl
 ·cases hb : sizeL? n.kids d with
  | none => rfl
  | some b =>
    simp only [Option.map_some, j7]
    by_cases h : (b : Int) ≤ left - 1
    ·rw [if_pos (by omega), if_pos h]; omega
    ·rw [if_neg (by omega), if_neg h]
theorem qs1 (l : List Node) (d i : Nat) (top left : Int) (hl : l.length ≤ 9223372036854775807) (hJ : i ≤ l.length ∧ 0 ≤ left ∧ left ≤ top ∧ j7 (sizeL? l d) top = j7 (sizeL? (l.drop i) d) left) :
 (∃ m, l[i]? = some m ∧ m ∈ l ∧ i < l.length ∧ decide ((i : Int) < ((l.map Node.cells).length : Int)) = true ∧ IntKind.i64.wrap ((i : Int) + 1) = ((i + 1 : Nat) : Int) ∧
   ((decide (j7 (size? m d) left < 0) = true ∧ j7 (sizeL? l d) top = -1) ∨
    (decide (j7 (size? m d) left < 0) = false ∧ 0 ≤ j7 (size? m d) left ∧ j7 (size? m d) left ≤ top ∧ j7 (sizeL? l d) top = j7 (sizeL? (l.drop (i + 1)) d) (j7 (size? m d) left)))) ∨
 (decide ((i : Int) < ((l.map Node.cells).length : Int)) = false ∧ j7 (sizeL? l d) top = left) := by
 obtain ⟨h1, h2, h3, h4⟩ := hJ
 rcases Nat.lt_or_ge i l.length with h | h
 ·refine .inl ⟨l[i], List.getElem?_eq_getElem h, List.getElem_mem h, h, by simpa using h, j6 (by omega) (by omega), ?_⟩
  rw [h4, List.drop_eq_getElem_cons h]
  rcases qs3 l[i] (l.drop (i + 1)) d left h2 with ⟨a, b⟩ | ⟨a, b, c⟩
  ·exact .inl ⟨decide_eq_true a, b⟩
  ·exact .inr ⟨decide_eq_false (by omega), a, by omega, c⟩
 ·refine .inr ⟨by simpa using h, ?_⟩
  rw [h4, List.drop_of_length_le h]
  show j7 (some 0) left = left
  simp only [j7]
  rw [if_pos (by omega)]; omega
set_option maxHeartbeats 4000000 in
/-- grammar.within -/
theorem qn5 : ∀ n : Node, Wf n → ∀ (left : Int) (d : Int), -9223372036854775808 ≤ left → left ≤ 9223372036854775807 → -9223372036854775808 ≤ d → d ≤ 9223372036854775807 →
 Fn Tryz.prog G 39 [.agg (zf n), .int .i64 left, .int .i64 d] (.int .i64 (j7 (size? n d.toNat) left)) := by
 intro n hwf
 induction hwf with | mk n hk hg ht hs _ ih => ?_
 intro left d hl0 hl1 hd0 hd1
 by_cases c1 : left ≤ 0
 case pos =>
  have e1 : decide (left ≤ 0) = true := decide_eq_true c1
  have e : j7 (size? n d.toNat) left = -1 := by
   unfold j7
   split
   ·rename_i s h; have := q0i n _ s h; rw [if_neg (by omega)]
   ·rfl
  rw [e]
  refine zk (T := tt) (N := 42) (rs := [.tmp 6]) (fun vs w => by simp) Tryz.func39 rfl rfl rfl rfl (by kernel_rfl) (zl rfl) (qz _ rfl) ?_
  repeat' first
   | refine ji env rfl ?_
   | (refine qe ?_ ?_; (· simp only [e1]))
   | (refine qf ?_ ?_; (· simp only [e1]))
   | (refine qh ?_ ?_; (· simp only [e1]))
   | (refine qg ?_ ?_; (· simp only [e1]))
   | (refine qo ?_ ?_; (· simp only [e1]))
   | (refine qp ?_ ?_; (· simp only [e1]))
   | refine qr (fun h => ?_) (fun h => ?_)
   | refine qu (fun h => ?_) (fun h => ?_)
   | refine qj (fun h => ?_) (fun h => ?_)
   | refine zd env rfl rfl (q4 ?_)
   | refine zm env rfl (q4 ?_)
  all_goals rfl
 have e1 : decide (left ≤ 0) = false := decide_eq_false c1
 by_cases c2 : d ≤ 0
 case pos =>
  have e2 : decide (d ≤ 0) = true := decide_eq_true c2
  have e : j7 (size? n d.toNat) left = -1 := by rw [show d.toNat = 0 by omega, qp4]; rfl
  rw [e]
  refine zk (T := tt) (N := 42) (rs := [.tmp 6]) (fun vs w => by simp) Tryz.func39 rfl rfl rfl rfl (by kernel_rfl) (zl rfl) (qz _ rfl) ?_
  repeat' first
   | refine ji env rfl ?_
   | (refine qe ?_ ?_; (· simp only [e1]))
   | (refine qf ?_ ?_; (· simp only [e1]))
   | (refine qh ?_ ?_; (· simp only [e1]))
   | (refine qg ?_ ?_; (· simp only [e1]))
   | (refine qo ?_ ?_; (· simp only [e1]))
   | (refine qp ?_ ?_; (· simp only [e1]))
   | (refine qe ?_ ?_; (· simp only [e2]))
   | (refine qf ?_ ?_; (· simp only [e2]))
   | (refine qh ?_ ?_; (· simp only [e2]))
   | (refine qg ?_ ?_; (· simp only [e2]))
   | (refine qo ?_ ?_; (· simp only [e2]))
   | (refine qp ?_ ?_; (· simp only [e2]))
   | refine qr (fun h => ?_) (fun h => ?_)
   | refine qu (fun h => ?_) (fun h => ?_)
   | refine qj (fun h => ?_) (fun h => ?_)
   | refine zd env rfl rfl (q4 ?_)
   | refine zm env rfl (q4 ?_)
  all_goals rfl
 have e2 : decide (d ≤ 0) = false := decide_eq_false c2
 obtain ⟨d, rfl⟩ : ∃ q : Nat, d = ((q + 1 : Nat) : Int) := ⟨d.toNat - 1, by omega⟩
 rw [Int.toNat_natCast, qs2 n left d (by omega)]
 by_cases c3 : most n.kind < (n.kids.length : Int)
 case pos =>
  have e3 : decide (most n.kind < ((n.kids.map Node.cells).length : Int)) = true := by simpa using c3
  rw [if_pos c3]
  refine zk (T := tt) (N := 42) (rs := [.tmp 6]) (fun vs w => by simp) Tryz.func39 rfl rfl rfl rfl (by kernel_rfl) (zl rfl) (qz _ rfl) ?_
  repeat' first
   | refine ji env rfl ?_
   | (refine qe ?_ ?_; (· simp only [e1]))
   | (refine qf ?_ ?_; (· simp only [e1]))
   | (refine qh ?_ ?_; (· simp only [e1]))
   | (refine qg ?_ ?_; (· simp only [e1]))
   | (refine qo ?_ ?_; (· simp only [e1]))
   | (refine qp ?_ ?_; (· simp only [e1]))
   | (refine qe ?_ ?_; (· simp only [e2]))
   | (refine qf ?_ ?_; (· simp only [e2]))
   | (refine qh ?_ ?_; (· simp only [e2]))
   | (refine qg ?_ ?_; (· simp only [e2]))
   | (refine qo ?_ ?_; (· simp only [e2]))
   | (refine qp ?_ ?_; (· simp only [e2]))
   | (refine qe ?_ ?_; (· simp only [e3]))
   | (refine qf ?_ ?_; (· simp only [e3]))
   | (refine qh ?_ ?_; (· simp only [e3]))
   | (refine qg ?_ ?_; (· simp only [e3]))
   | (refine qo ?_ ?_; (· simp only [e3]))
   | (refine qp ?_ ?_; (· simp only [e3]))
   | refine ql (qjk _) ?_
   | refine qr (fun h => ?_) (fun h => ?_)
   | refine qu (fun h => ?_) (fun h => ?_)
   | refine qj (fun h => ?_) (fun h => ?_)
   | refine zd env rfl rfl (q4 ?_)
   | refine zm env rfl (q4 ?_)
  all_goals rfl
 have e3 : decide (most n.kind < ((n.kids.map Node.cells).length : Int)) = false := by simpa using c3
 rw [if_neg c3]
 have w1 : IntKind.i64.wrap (left - 1) = left - 1 := j6 (by omega) (by omega)
 have w2 : IntKind.i64.wrap (((d + 1 : Nat) : Int) - 1) = (d : Int) := by rw [j6 (by omega) (by omega)]; omega
 refine zk (T := tt) (N := 42) (rs := [.tmp 6]) (fun vs w => by simp) Tryz.func39 rfl rfl rfl rfl (by kernel_rfl) (zl rfl) (qz _ rfl) ?_
 repeat' first
  | refine ji env rfl ?_
  | (refine Jy (α := Nat × Int) (fun a => a.1 ≤ n.kids.length ∧ 0 ≤ a.2 ∧ a.2 ≤ left - 1 ∧ j7 (sizeL? n.kids d) (left - 1) = j7 (sizeL? (n.kids.drop a.1) d) a.2) (fun a => n.kids.length - a.1) (fun a => [(29, .int .i64 a.1), (1, .int .i64 a.2)]) (fun _ => []) ((0, left - 1)) (fun _ => rfl) (fun _ => rfl) (⟨Nat.zero_le _, by show 0 ≤ left - 1; omega, Int.le_refl _, rfl⟩) ?_ ?_ (fun ⟨i, r⟩ hJ => ?_); (· (simp only [w1]; simp [leFT, leV, leOs, leO, leC, rho, AV.ren, AV.ren1, AV.un, AV.un1, AV.closed])); (· (simp only [w1]; simp [leFT, leV, leOs, leO, leC, rho, AV.ren, AV.ren1, AV.un, AV.un1, AV.closed])); rcases qs1 n.kids d i (left - 1) r hk hJ with ⟨m, hm, hmem, hlt, hb, hw, ⟨g1, he⟩ | ⟨g1, p1, p2, he⟩⟩ | ⟨hb, he⟩)
  | refine Jx rfl ?_
  | refine Zh rfl rfl ?_
  | (refine Jg ((i + 1, j7 (size? m d) r)) ?_ ?_ ?_ ?_; (· exact ⟨by show i + 1 ≤ n.kids.length; omega, p1, p2, he⟩); (· (show n.kids.length - (i + 1) < n.kids.length - i; omega)); (· (simp only [hw]; simp [leFT, leV, leOs, leO, leC, rho, AV.ren, AV.ren1, AV.un, AV.un1, AV.closed])); (· simp [leFT, leV, leOs, leO, leC, rho, AV.ren, AV.ren1, AV.un, AV.un1, AV.closed]))
  | refine qai env rfl rfl rfl rfl rfl (qan hm) ?_
  | refine ql (x := .int .i64 (j7 (size? m d) r)) (by rw [w2]; exact ih m hmem r d (by omega) (by omega) (by omega) (by omega)) ?_
  | (refine qe ?_ ?_; (· simp only [e1]))
  | (refine qf ?_ ?_; (· simp only [e1]))
  | (refine qh ?_ ?_; (· simp only [e1]))
  | (refine qg ?_ ?_; (· simp only [e1]))
  | (refine qo ?_ ?_; (· simp only [e1]))
  | (refine qp ?_ ?_; (· simp only [e1]))
  | (refine qe ?_ ?_; (· simp only [e2]))
  | (refine qf ?_ ?_; (· simp only [e2]))
  | (refine qh ?_ ?_; (· simp only [e2]))
  | (refine qg ?_ ?_; (· simp only [e2]))
  | (refine qo ?_ ?_; (· simp only [e2]))
  | (refine qp ?_ ?_; (· simp only [e2]))
  | (refine qe ?_ ?_; (· simp only [e3]))
  | (refine qf ?_ ?_; (· simp only [e3]))
  | (refine qh ?_ ?_; (· simp only [e3]))
  | (refine qg ?_ ?_; (· simp only [e3]))
  | (refine qo ?_ ?_; (· simp only [e3]))
  | (refine qp ?_ ?_; (· simp only [e3]))
  | (refine qe ?_ ?_; (· simp only [hb]))
  | (refine qf ?_ ?_; (· simp only [hb]))
  | (refine qh ?_ ?_; (· simp only [hb]))
  | (refine qg ?_ ?_; (· simp only [hb]))
  | (refine qo ?_ ?_; (· simp only [hb]))
  | (refine qp ?_ ?_; (· simp only [hb]))
  | (refine qe ?_ ?_; (· simp only [g1]))
  | (refine qf ?_ ?_; (· simp only [g1]))
  | (refine qh ?_ ?_; (· simp only [g1]))
  | (refine qg ?_ ?_; (· simp only [g1]))
  | (refine qo ?_ ?_; (· simp only [g1]))
  | (refine qp ?_ ?_; (· simp only [g1]))
  | refine ql (qjk _) ?_
  | refine qr (fun h => ?_) (fun h => ?_)
  | refine qu (fun h => ?_) (fun h => ?_)
  | refine qj (fun h => ?_) (fun h => ?_)
  | refine zd env rfl rfl (q4 ?_)
  | refine zm env rfl (q4 ?_)
 all_goals refine Jt ?_
 all_goals rw [he]
end Go.Proofs.YtigmilhpeodhbaaGreatDoorW.Ex.Gr
