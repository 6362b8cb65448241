/- Whole trees: the reference's shape, node, first, size and Check, and the program's Check. Conditions: those of the trees that come in (Wf). -/
import Derived.Test.YtimcdpioclioiaaGreatDoorGg
namespace Go.Proofs.YtimcdpioclioiaaGreatDoorW.Ex.Gr
open Go.Proofs.YtimcdpioclioiaaGreatDoorW.Plain
open Go Go.Proofs.YtimcdpioclioiaaGreatDoorW.Ex
set_option linter.all false
set_option maxRecDepth 100000
theorem known_out {k : Int} (h : known k = false) : k < 1 ∨ (1 ≤ k ∧ 26 < k) := by
 simp only [known, Bool.and_eq_false_iff, decide_eq_false_iff_not] at h; omega
set_option maxHeartbeats 4000000 in
/-- R7.shape -/
theorem Yd (n : Node) (hk : n.kids.length ≤ 9223372036854775807) : Fn Tryz.prog G 59 [.agg (zo n)] (.bool (yc n)) := by
 cases k0 : known n.kind
 case false =>
  rw [show yc n = false by simp [yc, k0]]
  rcases known_out k0 with h | ⟨h, h'⟩
  ·have d1 : decide (n.kind < 1) = true := decide_eq_true h
   refine zg (T := tt) (N := 49) (rs := [.tmp 2]) (fun vs w => by simp) Tryz.func59 rfl rfl rfl rfl (by kernel_rfl) (zd rfl) (qo _ rfl) ?_
   repeat' first
    | refine zl env rfl ?_
    | (refine qc ?_ ?_; (· simp only [d1, Bool.not_true, Bool.not_false]))
    | (refine qd ?_ ?_; (· simp only [d1, Bool.not_true, Bool.not_false]))
    | (refine qf ?_ ?_; (· simp only [d1, Bool.not_true, Bool.not_false]))
    | (refine qe ?_ ?_; (· simp only [d1, Bool.not_true, Bool.not_false]))
    | (refine qh ?_ ?_; (· simp only [d1, Bool.not_true, Bool.not_false]))
    | (refine qi ?_ ?_; (· simp only [d1, Bool.not_true, Bool.not_false]))
    | refine qm (fun h => ?_) (fun h => ?_)
    | refine qr (fun h => ?_) (fun h => ?_)
    | refine qg (fun h => ?_) (fun h => ?_)
    | refine zi env rfl rfl (qq ?_)
    | refine zb env rfl (qq ?_)
   all_goals rfl
  ·have d1 : decide (n.kind < 1) = false := decide_eq_false (by omega)
   have d2 : decide (26 < n.kind) = true := decide_eq_true h'
   refine zg (T := tt) (N := 49) (rs := [.tmp 2]) (fun vs w => by simp) Tryz.func59 rfl rfl rfl rfl (by kernel_rfl) (zd rfl) (qo _ rfl) ?_
   repeat' first
    | refine zl env rfl ?_
    | (refine qc ?_ ?_; (· simp only [d1, Bool.not_true, Bool.not_false]))
    | (refine qd ?_ ?_; (· simp only [d1, Bool.not_true, Bool.not_false]))
    | (refine qf ?_ ?_; (· simp only [d1, Bool.not_true, Bool.not_false]))
    | (refine qe ?_ ?_; (· simp only [d1, Bool.not_true, Bool.not_false]))
    | (refine qh ?_ ?_; (· simp only [d1, Bool.not_true, Bool.not_false]))
    | (refine qi ?_ ?_; (· simp only [d1, Bool.not_true, Bool.not_false]))
    | (refine qc ?_ ?_; (· simp only [d2, Bool.not_true, Bool.not_false]))
    | (refine qd ?_ ?_; (· simp only [d2, Bool.not_true, Bool.not_false]))
    | (refine qf ?_ ?_; (· simp only [d2, Bool.not_true, Bool.not_false]))
    | (refine qe ?_ ?_; (· simp only [d2, Bool.not_true, Bool.not_false]))
    | (refine qh ?_ ?_; (· simp only [d2, Bool.not_true, Bool.not_false]))
    | (refine qi ?_ ?_; (· simp only [d2, Bool.not_true, Bool.not_false]))
    | refine qm (fun h => ?_) (fun h => ?_)
    | refine qr (fun h => ?_) (fun h => ?_)
    | refine qg (fun h => ?_) (fun h => ?_)
    | refine zi env rfl rfl (qq ?_)
    | refine zb env rfl (qq ?_)
   all_goals rfl
 have kb := wm k0
 have d1 : decide (n.kind < 1) = false := decide_eq_false (by omega)
 have d2 : decide (26 < n.kind) = false := decide_eq_false (by omega)
 have hke := kids_eq n k0
 cases d3 : decide (((n.kids.map Node.cells).length : Int) < Kg n.kind)
 case true =>
  rw [List.length_map] at d3
  rw [show yc n = false by simp only [yc, hke, d3]; simp]
  rw [← List.length_map (f := Node.cells)] at d3
  refine zg (T := tt) (N := 49) (rs := [.tmp 2]) (fun vs w => by simp) Tryz.func59 rfl rfl rfl rfl (by kernel_rfl) (zd rfl) (qo _ rfl) ?_
  repeat' first
   | refine zl env rfl ?_
   | (refine qc ?_ ?_; (· simp only [d1, Bool.not_true, Bool.not_false]))
   | (refine qd ?_ ?_; (· simp only [d1, Bool.not_true, Bool.not_false]))
   | (refine qf ?_ ?_; (· simp only [d1, Bool.not_true, Bool.not_false]))
   | (refine qe ?_ ?_; (· simp only [d1, Bool.not_true, Bool.not_false]))
   | (refine qh ?_ ?_; (· simp only [d1, Bool.not_true, Bool.not_false]))
   | (refine qi ?_ ?_; (· simp only [d1, Bool.not_true, Bool.not_false]))
   | (refine qc ?_ ?_; (· simp only [d2, Bool.not_true, Bool.not_false]))
   | (refine qd ?_ ?_; (· simp only [d2, Bool.not_true, Bool.not_false]))
   | (refine qf ?_ ?_; (· simp only [d2, Bool.not_true, Bool.not_false]))
   | (refine qe ?_ ?_; (· simp only [d2, Bool.not_true, Bool.not_false]))
   | (refine qh ?_ ?_; (· simp only [d2, Bool.not_true, Bool.not_false]))
   | (refine qi ?_ ?_; (· simp only [d2, Bool.not_true, Bool.not_false]))
   | (refine qc ?_ ?_; (· simp only [d3, Bool.not_true, Bool.not_false]))
   | (refine qd ?_ ?_; (· simp only [d3, Bool.not_true, Bool.not_false]))
   | (refine qf ?_ ?_; (· simp only [d3, Bool.not_true, Bool.not_false]))
   | (refine qe ?_ ?_; (· simp only [d3, Bool.not_true, Bool.not_false]))
   | (refine qh ?_ ?_; (· simp only [d3, Bool.not_true, Bool.not_false]))
   | (refine qi ?_ ?_; (· simp only [d3, Bool.not_true, Bool.not_false]))
   | refine ql (R7_least _) ?_
   | refine qm (fun h => ?_) (fun h => ?_)
   | refine qr (fun h => ?_) (fun h => ?_)
   | refine qg (fun h => ?_) (fun h => ?_)
   | refine zi env rfl rfl (qq ?_)
   | refine zb env rfl (qq ?_)
  all_goals rfl
 rw [List.length_map] at d3
 rw [d3, Bool.not_false, Bool.true_and] at hke
 rw [← List.length_map (f := Node.cells)] at d3
 cases k1 : ut n.kind n.kids
 case false =>
  rw [k1] at hke
  rw [show yc n = false by simp [yc, hke]]
  unfold ut at k1
  refine zg (T := tt) (N := 49) (rs := [.tmp 2]) (fun vs w => by simp) Tryz.func59 rfl rfl rfl rfl (by kernel_rfl) (zd rfl) (qo _ rfl) ?_
  repeat' first
   | refine zl env rfl ?_
   | (exfalso; rw [he] at k1; cases k1)
   | (refine k7 (α := Nat) (fun i => i ≤ (n.kids).length ∧ j4 (fun i m => fits n.kind i m.kind) 0 (n.kids) = j4 (fun i m => fits n.kind i m.kind) i ((n.kids).drop i)) (fun i => (n.kids).length - i) (fun i => [(3, .int .i64 i)]) (fun _ => []) (0) (fun _ => rfl) (fun _ => rfl) (⟨Nat.zero_le _, rfl⟩) ?_ ?_ (fun i hJ => ?_); (· simp [leFT, leV, leOs, leO, leC, rho, AV.ren, AV.ren1, AV.un, AV.un1, AV.closed]); (· simp [leFT, leV, leOs, leO, leC, rho, AV.ren, AV.ren1, AV.un, AV.un1, AV.closed]); rcases Ya (fun i m => fits n.kind i m.kind) (n.kids) (Node.cells) i hk hJ with ⟨m, hm, hlt, hb, hw, he⟩ | ⟨hb, he⟩)
   | refine kz rfl ?_
   | refine yz rfl rfl ?_
   | (refine ko (i + 1) ?_ ?_ ?_ ?_; (· exact ⟨by omega, by simp_all⟩); (· omega); (· (simp only [hw]; simp [leFT, leV, leOs, leO, leC, rho, AV.ren, AV.ren1, AV.un, AV.un1, AV.closed])); (· simp [leFT, leV, leOs, leO, leC, rho, AV.ren, AV.ren1, AV.un, AV.un1, AV.closed]))
   | refine uw env rfl rfl rfl rfl rfl (u4 hm) ?_
   | (refine qc ?_ ?_; (· simp only [d1, Bool.not_true, Bool.not_false]))
   | (refine qd ?_ ?_; (· simp only [d1, Bool.not_true, Bool.not_false]))
   | (refine qf ?_ ?_; (· simp only [d1, Bool.not_true, Bool.not_false]))
   | (refine qe ?_ ?_; (· simp only [d1, Bool.not_true, Bool.not_false]))
   | (refine qh ?_ ?_; (· simp only [d1, Bool.not_true, Bool.not_false]))
   | (refine qi ?_ ?_; (· simp only [d1, Bool.not_true, Bool.not_false]))
   | (refine qc ?_ ?_; (· simp only [d2, Bool.not_true, Bool.not_false]))
   | (refine qd ?_ ?_; (· simp only [d2, Bool.not_true, Bool.not_false]))
   | (refine qf ?_ ?_; (· simp only [d2, Bool.not_true, Bool.not_false]))
   | (refine qe ?_ ?_; (· simp only [d2, Bool.not_true, Bool.not_false]))
   | (refine qh ?_ ?_; (· simp only [d2, Bool.not_true, Bool.not_false]))
   | (refine qi ?_ ?_; (· simp only [d2, Bool.not_true, Bool.not_false]))
   | (refine qc ?_ ?_; (· simp only [d3, Bool.not_true, Bool.not_false]))
   | (refine qd ?_ ?_; (· simp only [d3, Bool.not_true, Bool.not_false]))
   | (refine qf ?_ ?_; (· simp only [d3, Bool.not_true, Bool.not_false]))
   | (refine qe ?_ ?_; (· simp only [d3, Bool.not_true, Bool.not_false]))
   | (refine qh ?_ ?_; (· simp only [d3, Bool.not_true, Bool.not_false]))
   | (refine qi ?_ ?_; (· simp only [d3, Bool.not_true, Bool.not_false]))
   | (refine qc ?_ ?_; (· simp only [hb, Bool.not_true, Bool.not_false]))
   | (refine qd ?_ ?_; (· simp only [hb, Bool.not_true, Bool.not_false]))
   | (refine qf ?_ ?_; (· simp only [hb, Bool.not_true, Bool.not_false]))
   | (refine qe ?_ ?_; (· simp only [hb, Bool.not_true, Bool.not_false]))
   | (refine qh ?_ ?_; (· simp only [hb, Bool.not_true, Bool.not_false]))
   | (refine qi ?_ ?_; (· simp only [hb, Bool.not_true, Bool.not_false]))
   | refine ql (R7_least _) ?_
   | refine ql (R7_Fits _ _ _) ?_
   | refine qm (fun h => ?_) (fun h => ?_)
   | refine qr (fun h => ?_) (fun h => ?_)
   | refine qg (fun h => ?_) (fun h => ?_)
   | refine zi env rfl rfl (qq ?_)
   | refine zb env rfl (qq ?_)
  all_goals (first | rfl | (exfalso; simp_all))
 rw [k1] at hke
 have hse := spelled_eq n k0
 have hl := Qc n hke k0
 rw [show yc n = ((Qa n || wordB n) && kc n) by simp [yc, hke, k0, hse]]
 unfold ut at k1
 have kf : ∀ (i : Nat) (m : Node), n.kids[i]? = some m → fits n.kind i m.kind = true := fun i m h => by simpa using all_at _ n.kids 0 k1 i m h
 refine zg (T := tt) (N := 49) (rs := [.tmp 2]) (fun vs w => by simp) Tryz.func59 rfl rfl rfl rfl (by kernel_rfl) (zd rfl) (qo _ rfl) ?_
 repeat' first
  | refine zl env rfl ?_
  | (refine k7 (α := Nat) (fun i => i ≤ (n.kids).length ∧ j4 (fun i m => fits n.kind i m.kind) 0 (n.kids) = j4 (fun i m => fits n.kind i m.kind) i ((n.kids).drop i)) (fun i => (n.kids).length - i) (fun i => [(3, .int .i64 i)]) (fun _ => []) (0) (fun _ => rfl) (fun _ => rfl) (⟨Nat.zero_le _, rfl⟩) ?_ ?_ (fun i hJ => ?_); (· simp [leFT, leV, leOs, leO, leC, rho, AV.ren, AV.ren1, AV.un, AV.un1, AV.closed]); (· simp [leFT, leV, leOs, leO, leC, rho, AV.ren, AV.ren1, AV.un, AV.un1, AV.closed]); rcases Ya (fun i m => fits n.kind i m.kind) (n.kids) (Node.cells) i hk hJ with ⟨m, hm, hlt, hb, hw, he⟩ | ⟨hb, he⟩)
  | refine kz rfl ?_
  | refine yz rfl rfl ?_
  | (refine ko (i + 1) ?_ ?_ ?_ ?_; (· exact ⟨by omega, by simp_all⟩); (· omega); (· (simp only [hw]; simp [leFT, leV, leOs, leO, leC, rho, AV.ren, AV.ren1, AV.un, AV.un1, AV.closed])); (· simp [leFT, leV, leOs, leO, leC, rho, AV.ren, AV.ren1, AV.un, AV.un1, AV.closed]))
  | refine uw env rfl rfl rfl rfl rfl (u4 hm) ?_
  | (refine qc ?_ ?_; (· simp only [d1, Bool.not_true, Bool.not_false]))
  | (refine qd ?_ ?_; (· simp only [d1, Bool.not_true, Bool.not_false]))
  | (refine qf ?_ ?_; (· simp only [d1, Bool.not_true, Bool.not_false]))
  | (refine qe ?_ ?_; (· simp only [d1, Bool.not_true, Bool.not_false]))
  | (refine qh ?_ ?_; (· simp only [d1, Bool.not_true, Bool.not_false]))
  | (refine qi ?_ ?_; (· simp only [d1, Bool.not_true, Bool.not_false]))
  | (refine qc ?_ ?_; (· simp only [d2, Bool.not_true, Bool.not_false]))
  | (refine qd ?_ ?_; (· simp only [d2, Bool.not_true, Bool.not_false]))
  | (refine qf ?_ ?_; (· simp only [d2, Bool.not_true, Bool.not_false]))
  | (refine qe ?_ ?_; (· simp only [d2, Bool.not_true, Bool.not_false]))
  | (refine qh ?_ ?_; (· simp only [d2, Bool.not_true, Bool.not_false]))
  | (refine qi ?_ ?_; (· simp only [d2, Bool.not_true, Bool.not_false]))
  | (refine qc ?_ ?_; (· simp only [d3, Bool.not_true, Bool.not_false]))
  | (refine qd ?_ ?_; (· simp only [d3, Bool.not_true, Bool.not_false]))
  | (refine qf ?_ ?_; (· simp only [d3, Bool.not_true, Bool.not_false]))
  | (refine qe ?_ ?_; (· simp only [d3, Bool.not_true, Bool.not_false]))
  | (refine qh ?_ ?_; (· simp only [d3, Bool.not_true, Bool.not_false]))
  | (refine qi ?_ ?_; (· simp only [d3, Bool.not_true, Bool.not_false]))
  | (refine qc ?_ ?_; (· simp only [hb, Bool.not_true, Bool.not_false]))
  | (refine qd ?_ ?_; (· simp only [hb, Bool.not_true, Bool.not_false]))
  | (refine qf ?_ ?_; (· simp only [hb, Bool.not_true, Bool.not_false]))
  | (refine qe ?_ ?_; (· simp only [hb, Bool.not_true, Bool.not_false]))
  | (refine qh ?_ ?_; (· simp only [hb, Bool.not_true, Bool.not_false]))
  | (refine qi ?_ ?_; (· simp only [hb, Bool.not_true, Bool.not_false]))
  | refine ql (R7_least _) ?_
  | refine ql (R7_Fits _ _ _) ?_
  | refine ql (Ye _) ?_
  | refine ql (R7_word _) ?_
  | refine ql (R7_levels n hl) ?_
  | refine qm (fun h => ?_) (fun h => ?_)
  | refine qr (fun h => ?_) (fun h => ?_)
  | refine qg (fun h => ?_) (fun h => ?_)
  | refine zi env rfl rfl (qq ?_)
  | refine zb env rfl (qq ?_)
 all_goals refine ju ?_
 all_goals (first | (simp_all; done) | (exfalso; simp_all [kf _ _ hm]))
theorem node_name (n : Node) (kn : known n.kind = true) :
 (decide (n.kind = 17) = true ∧ jg n.text.data.toList = false ∧ yy n = false) ∨ (decide (n.kind = 17) = false ∧ Qa n = true ∧ kl n.text.data.toList = false ∧ yy n = false) ∨
 (yy n = true ∧ ((decide (n.kind = 17) = true ∧ jg n.text.data.toList = true) ∨ (decide (n.kind = 17) = false ∧ Qa n = false) ∨ (decide (n.kind = 17) = false ∧ Qa n = true ∧ kl n.text.data.toList = true))) := by
 rw [called_eq n kn]
 generalize decide (n.kind = 17) = b1
 cases b1 <;> cases jg n.text.data.toList <;> cases Qa n <;> cases kl n.text.data.toList <;> simp
theorem node_gaps (n : Node) :
 (decide (0 < ((n.gaps.map sc).length : Int)) = true ∧ decide (((n.gaps.map sc).length : Int) = own n) = false ∧ ur n = false) ∨
 ((decide (0 < ((n.gaps.map sc).length : Int)) = false ∨ (decide (0 < ((n.gaps.map sc).length : Int)) = true ∧ decide (((n.gaps.map sc).length : Int) = own n) = true)) ∧ ur n = vl n) := by
 rw [gaps_eq, List.length_map]
 cases decide (0 < (n.gaps.length : Int)) <;> cases decide ((n.gaps.length : Int) = own n) <;> simp
set_option maxHeartbeats 4000000 in
/-- R7.node -/
theorem R7_node (n : Node) (hk : n.kids.length ≤ 9223372036854775807) (hg : n.gaps.length ≤ 9223372036854775807) (hs : ∀ g ∈ n.gaps, g.size ≤ 9223372036854775807) : Fn Tryz.prog G 41 [.agg (zo n)] (.int .i64 (jc n)) := by
 cases k0 : yc n
 case false =>
  rw [show jc n = 7 by simp [jc, k0]]
  refine zg (T := tt) (N := 57) (rs := [.tmp 2]) (fun vs w => by simp) Tryz.func41 rfl rfl rfl rfl (by kernel_rfl) (zd rfl) (qo _ rfl) ?_
  repeat' first
   | refine zl env rfl ?_
   | (refine qc ?_ ?_; (· simp only [k0, Bool.not_true, Bool.not_false]))
   | (refine qd ?_ ?_; (· simp only [k0, Bool.not_true, Bool.not_false]))
   | (refine qf ?_ ?_; (· simp only [k0, Bool.not_true, Bool.not_false]))
   | (refine qe ?_ ?_; (· simp only [k0, Bool.not_true, Bool.not_false]))
   | (refine qh ?_ ?_; (· simp only [k0, Bool.not_true, Bool.not_false]))
   | (refine qi ?_ ?_; (· simp only [k0, Bool.not_true, Bool.not_false]))
   | refine ql (Yd n hk) ?_
   | refine qm (fun h => ?_) (fun h => ?_)
   | refine qr (fun h => ?_) (fun h => ?_)
   | refine qg (fun h => ?_) (fun h => ?_)
   | refine zi env rfl rfl (qq ?_)
   | refine zb env rfl (qq ?_)
  all_goals rfl
 have kn : known n.kind = true := by simp only [yc, Bool.and_eq_true] at k0; exact k0.1.1.1
 rcases node_name n kn with ⟨a1, a2, hc⟩ | ⟨a1, a3, a4, hc⟩ | ⟨hc, hn⟩
 case inl =>
  rw [show jc n = 4 by simp [jc, k0, hc]]
  refine zg (T := tt) (N := 57) (rs := [.tmp 2]) (fun vs w => by simp) Tryz.func41 rfl rfl rfl rfl (by kernel_rfl) (zd rfl) (qo _ rfl) ?_
  repeat' first
   | refine zl env rfl ?_
   | (refine qc ?_ ?_; (· simp only [k0, Bool.not_true, Bool.not_false]))
   | (refine qd ?_ ?_; (· simp only [k0, Bool.not_true, Bool.not_false]))
   | (refine qf ?_ ?_; (· simp only [k0, Bool.not_true, Bool.not_false]))
   | (refine qe ?_ ?_; (· simp only [k0, Bool.not_true, Bool.not_false]))
   | (refine qh ?_ ?_; (· simp only [k0, Bool.not_true, Bool.not_false]))
   | (refine qi ?_ ?_; (· simp only [k0, Bool.not_true, Bool.not_false]))
   | (refine qc ?_ ?_; (· simp only [a1, Bool.not_true, Bool.not_false]))
   | (refine qd ?_ ?_; (· simp only [a1, Bool.not_true, Bool.not_false]))
   | (refine qf ?_ ?_; (· simp only [a1, Bool.not_true, Bool.not_false]))
   | (refine qe ?_ ?_; (· simp only [a1, Bool.not_true, Bool.not_false]))
   | (refine qh ?_ ?_; (· simp only [a1, Bool.not_true, Bool.not_false]))
   | (refine qi ?_ ?_; (· simp only [a1, Bool.not_true, Bool.not_false]))
   | (refine qc ?_ ?_; (· simp only [a2, Bool.not_true, Bool.not_false]))
   | (refine qd ?_ ?_; (· simp only [a2, Bool.not_true, Bool.not_false]))
   | (refine qf ?_ ?_; (· simp only [a2, Bool.not_true, Bool.not_false]))
   | (refine qe ?_ ?_; (· simp only [a2, Bool.not_true, Bool.not_false]))
   | (refine qh ?_ ?_; (· simp only [a2, Bool.not_true, Bool.not_false]))
   | (refine qi ?_ ?_; (· simp only [a2, Bool.not_true, Bool.not_false]))
   | (refine qc ?_ ?_; (· simp only [a3, Bool.not_true, Bool.not_false]))
   | (refine qd ?_ ?_; (· simp only [a3, Bool.not_true, Bool.not_false]))
   | (refine qf ?_ ?_; (· simp only [a3, Bool.not_true, Bool.not_false]))
   | (refine qe ?_ ?_; (· simp only [a3, Bool.not_true, Bool.not_false]))
   | (refine qh ?_ ?_; (· simp only [a3, Bool.not_true, Bool.not_false]))
   | (refine qi ?_ ?_; (· simp only [a3, Bool.not_true, Bool.not_false]))
   | (refine qc ?_ ?_; (· simp only [a4, Bool.not_true, Bool.not_false]))
   | (refine qd ?_ ?_; (· simp only [a4, Bool.not_true, Bool.not_false]))
   | (refine qf ?_ ?_; (· simp only [a4, Bool.not_true, Bool.not_false]))
   | (refine qe ?_ ?_; (· simp only [a4, Bool.not_true, Bool.not_false]))
   | (refine qh ?_ ?_; (· simp only [a4, Bool.not_true, Bool.not_false]))
   | (refine qi ?_ ?_; (· simp only [a4, Bool.not_true, Bool.not_false]))
   | refine ql (Yd n hk) ?_
   | refine ql (Zu _) ?_
   | refine ql (Ye _) ?_
   | refine ql (R3_Valid _) ?_
   | refine ql (R7_Own n hk) ?_
   | refine ql (R4_Valid _ (hs _ (gap_mem hm))) ?_
   | refine qm (fun h => ?_) (fun h => ?_)
   | refine qr (fun h => ?_) (fun h => ?_)
   | refine qg (fun h => ?_) (fun h => ?_)
   | refine zi env rfl rfl (qq ?_)
   | refine zb env rfl (qq ?_)
  all_goals rfl
 case inr.inl =>
  rw [show jc n = 4 by simp [jc, k0, hc]]
  refine zg (T := tt) (N := 57) (rs := [.tmp 2]) (fun vs w => by simp) Tryz.func41 rfl rfl rfl rfl (by kernel_rfl) (zd rfl) (qo _ rfl) ?_
  repeat' first
   | refine zl env rfl ?_
   | (refine qc ?_ ?_; (· simp only [k0, Bool.not_true, Bool.not_false]))
   | (refine qd ?_ ?_; (· simp only [k0, Bool.not_true, Bool.not_false]))
   | (refine qf ?_ ?_; (· simp only [k0, Bool.not_true, Bool.not_false]))
   | (refine qe ?_ ?_; (· simp only [k0, Bool.not_true, Bool.not_false]))
   | (refine qh ?_ ?_; (· simp only [k0, Bool.not_true, Bool.not_false]))
   | (refine qi ?_ ?_; (· simp only [k0, Bool.not_true, Bool.not_false]))
   | (refine qc ?_ ?_; (· simp only [a1, Bool.not_true, Bool.not_false]))
   | (refine qd ?_ ?_; (· simp only [a1, Bool.not_true, Bool.not_false]))
   | (refine qf ?_ ?_; (· simp only [a1, Bool.not_true, Bool.not_false]))
   | (refine qe ?_ ?_; (· simp only [a1, Bool.not_true, Bool.not_false]))
   | (refine qh ?_ ?_; (· simp only [a1, Bool.not_true, Bool.not_false]))
   | (refine qi ?_ ?_; (· simp only [a1, Bool.not_true, Bool.not_false]))
   | (refine qc ?_ ?_; (· simp only [a2, Bool.not_true, Bool.not_false]))
   | (refine qd ?_ ?_; (· simp only [a2, Bool.not_true, Bool.not_false]))
   | (refine qf ?_ ?_; (· simp only [a2, Bool.not_true, Bool.not_false]))
   | (refine qe ?_ ?_; (· simp only [a2, Bool.not_true, Bool.not_false]))
   | (refine qh ?_ ?_; (· simp only [a2, Bool.not_true, Bool.not_false]))
   | (refine qi ?_ ?_; (· simp only [a2, Bool.not_true, Bool.not_false]))
   | (refine qc ?_ ?_; (· simp only [a3, Bool.not_true, Bool.not_false]))
   | (refine qd ?_ ?_; (· simp only [a3, Bool.not_true, Bool.not_false]))
   | (refine qf ?_ ?_; (· simp only [a3, Bool.not_true, Bool.not_false]))
   | (refine qe ?_ ?_; (· simp only [a3, Bool.not_true, Bool.not_false]))
   | (refine qh ?_ ?_; (· simp only [a3, Bool.not_true, Bool.not_false]))
   | (refine qi ?_ ?_; (· simp only [a3, Bool.not_true, Bool.not_false]))
   | (refine qc ?_ ?_; (· simp only [a4, Bool.not_true, Bool.not_false]))
   | (refine qd ?_ ?_; (· simp only [a4, Bool.not_true, Bool.not_false]))
   | (refine qf ?_ ?_; (· simp only [a4, Bool.not_true, Bool.not_false]))
   | (refine qe ?_ ?_; (· simp only [a4, Bool.not_true, Bool.not_false]))
   | (refine qh ?_ ?_; (· simp only [a4, Bool.not_true, Bool.not_false]))
   | (refine qi ?_ ?_; (· simp only [a4, Bool.not_true, Bool.not_false]))
   | refine ql (Yd n hk) ?_
   | refine ql (Zu _) ?_
   | refine ql (Ye _) ?_
   | refine ql (R3_Valid _) ?_
   | refine ql (R7_Own n hk) ?_
   | refine ql (R4_Valid _ (hs _ (gap_mem hm))) ?_
   | refine qm (fun h => ?_) (fun h => ?_)
   | refine qr (fun h => ?_) (fun h => ?_)
   | refine qg (fun h => ?_) (fun h => ?_)
   | refine zi env rfl rfl (qq ?_)
   | refine zb env rfl (qq ?_)
  all_goals rfl
 rcases node_gaps n with ⟨g1, g2, hgo⟩ | ⟨hgs, hgo⟩
 case inl =>
  rw [show jc n = 7 by simp [jc, k0, hc, hgo]]
  rcases hn with ⟨a1, a2⟩ | ⟨a1, a3⟩ | ⟨a1, a3, a4⟩
  all_goals
   refine zg (T := tt) (N := 57) (rs := [.tmp 2]) (fun vs w => by simp) Tryz.func41 rfl rfl rfl rfl (by kernel_rfl) (zd rfl) (qo _ rfl) ?_
   repeat' first
    | refine zl env rfl ?_
    | (refine qc ?_ ?_; (· simp only [k0, Bool.not_true, Bool.not_false]))
    | (refine qd ?_ ?_; (· simp only [k0, Bool.not_true, Bool.not_false]))
    | (refine qf ?_ ?_; (· simp only [k0, Bool.not_true, Bool.not_false]))
    | (refine qe ?_ ?_; (· simp only [k0, Bool.not_true, Bool.not_false]))
    | (refine qh ?_ ?_; (· simp only [k0, Bool.not_true, Bool.not_false]))
    | (refine qi ?_ ?_; (· simp only [k0, Bool.not_true, Bool.not_false]))
    | (refine qc ?_ ?_; (· simp only [a1, Bool.not_true, Bool.not_false]))
    | (refine qd ?_ ?_; (· simp only [a1, Bool.not_true, Bool.not_false]))
    | (refine qf ?_ ?_; (· simp only [a1, Bool.not_true, Bool.not_false]))
    | (refine qe ?_ ?_; (· simp only [a1, Bool.not_true, Bool.not_false]))
    | (refine qh ?_ ?_; (· simp only [a1, Bool.not_true, Bool.not_false]))
    | (refine qi ?_ ?_; (· simp only [a1, Bool.not_true, Bool.not_false]))
    | (refine qc ?_ ?_; (· simp only [a2, Bool.not_true, Bool.not_false]))
    | (refine qd ?_ ?_; (· simp only [a2, Bool.not_true, Bool.not_false]))
    | (refine qf ?_ ?_; (· simp only [a2, Bool.not_true, Bool.not_false]))
    | (refine qe ?_ ?_; (· simp only [a2, Bool.not_true, Bool.not_false]))
    | (refine qh ?_ ?_; (· simp only [a2, Bool.not_true, Bool.not_false]))
    | (refine qi ?_ ?_; (· simp only [a2, Bool.not_true, Bool.not_false]))
    | (refine qc ?_ ?_; (· simp only [a3, Bool.not_true, Bool.not_false]))
    | (refine qd ?_ ?_; (· simp only [a3, Bool.not_true, Bool.not_false]))
    | (refine qf ?_ ?_; (· simp only [a3, Bool.not_true, Bool.not_false]))
    | (refine qe ?_ ?_; (· simp only [a3, Bool.not_true, Bool.not_false]))
    | (refine qh ?_ ?_; (· simp only [a3, Bool.not_true, Bool.not_false]))
    | (refine qi ?_ ?_; (· simp only [a3, Bool.not_true, Bool.not_false]))
    | (refine qc ?_ ?_; (· simp only [a4, Bool.not_true, Bool.not_false]))
    | (refine qd ?_ ?_; (· simp only [a4, Bool.not_true, Bool.not_false]))
    | (refine qf ?_ ?_; (· simp only [a4, Bool.not_true, Bool.not_false]))
    | (refine qe ?_ ?_; (· simp only [a4, Bool.not_true, Bool.not_false]))
    | (refine qh ?_ ?_; (· simp only [a4, Bool.not_true, Bool.not_false]))
    | (refine qi ?_ ?_; (· simp only [a4, Bool.not_true, Bool.not_false]))
    | (refine qc ?_ ?_; (· simp only [g1, Bool.not_true, Bool.not_false]))
    | (refine qd ?_ ?_; (· simp only [g1, Bool.not_true, Bool.not_false]))
    | (refine qf ?_ ?_; (· simp only [g1, Bool.not_true, Bool.not_false]))
    | (refine qe ?_ ?_; (· simp only [g1, Bool.not_true, Bool.not_false]))
    | (refine qh ?_ ?_; (· simp only [g1, Bool.not_true, Bool.not_false]))
    | (refine qi ?_ ?_; (· simp only [g1, Bool.not_true, Bool.not_false]))
    | (refine qc ?_ ?_; (· simp only [g2, Bool.not_true, Bool.not_false]))
    | (refine qd ?_ ?_; (· simp only [g2, Bool.not_true, Bool.not_false]))
    | (refine qf ?_ ?_; (· simp only [g2, Bool.not_true, Bool.not_false]))
    | (refine qe ?_ ?_; (· simp only [g2, Bool.not_true, Bool.not_false]))
    | (refine qh ?_ ?_; (· simp only [g2, Bool.not_true, Bool.not_false]))
    | (refine qi ?_ ?_; (· simp only [g2, Bool.not_true, Bool.not_false]))
    | refine ql (Yd n hk) ?_
    | refine ql (Zu _) ?_
    | refine ql (Ye _) ?_
    | refine ql (R3_Valid _) ?_
    | refine ql (R7_Own n hk) ?_
    | refine ql (R4_Valid _ (hs _ (gap_mem hm))) ?_
    | refine qm (fun h => ?_) (fun h => ?_)
    | refine qr (fun h => ?_) (fun h => ?_)
    | refine qg (fun h => ?_) (fun h => ?_)
    | refine zi env rfl rfl (qq ?_)
    | refine zb env rfl (qq ?_)
   all_goals rfl
 rw [show jc n = if vl n = false then 7 else 0 by simp [jc, k0, hc, hgo]]
 unfold vl
 rcases hn with ⟨a1, a2⟩ | ⟨a1, a3⟩ | ⟨a1, a3, a4⟩ <;> rcases hgs with g1 | ⟨g1, g2⟩
 all_goals
  refine zg (T := tt) (N := 57) (rs := [.tmp 2]) (fun vs w => by simp) Tryz.func41 rfl rfl rfl rfl (by kernel_rfl) (zd rfl) (qo _ rfl) ?_
  repeat' first
   | refine zl env rfl ?_
   | (refine k7 (α := Nat) (fun i => i ≤ (n.gaps).length ∧ j4 (fun _ g => ye g) 0 (n.gaps) = j4 (fun _ g => ye g) i ((n.gaps).drop i)) (fun i => (n.gaps).length - i) (fun i => [(3, .int .i64 i)]) (fun _ => []) (0) (fun _ => rfl) (fun _ => rfl) (⟨Nat.zero_le _, rfl⟩) ?_ ?_ (fun i hJ => ?_); (· simp [leFT, leV, leOs, leO, leC, rho, AV.ren, AV.ren1, AV.un, AV.un1, AV.closed]); (· simp [leFT, leV, leOs, leO, leC, rho, AV.ren, AV.ren1, AV.un, AV.un1, AV.closed]); rcases Ya (fun _ g => ye g) (n.gaps) (sc) i hg hJ with ⟨m, hm, hlt, hb, hw, he⟩ | ⟨hb, he⟩)
   | refine kz rfl ?_
   | refine yz rfl rfl ?_
   | (refine ko (i + 1) ?_ ?_ ?_ ?_; (· exact ⟨by omega, by simp_all⟩); (· omega); (· (simp only [hw]; simp [leFT, leV, leOs, leO, leC, rho, AV.ren, AV.ren1, AV.un, AV.un1, AV.closed])); (· simp [leFT, leV, leOs, leO, leC, rho, AV.ren, AV.ren1, AV.un, AV.un1, AV.closed]))
   | refine uw env rfl rfl rfl rfl rfl (gap_at hm) ?_
   | (refine qc ?_ ?_; (· simp only [k0, Bool.not_true, Bool.not_false]))
   | (refine qd ?_ ?_; (· simp only [k0, Bool.not_true, Bool.not_false]))
   | (refine qf ?_ ?_; (· simp only [k0, Bool.not_true, Bool.not_false]))
   | (refine qe ?_ ?_; (· simp only [k0, Bool.not_true, Bool.not_false]))
   | (refine qh ?_ ?_; (· simp only [k0, Bool.not_true, Bool.not_false]))
   | (refine qi ?_ ?_; (· simp only [k0, Bool.not_true, Bool.not_false]))
   | (refine qc ?_ ?_; (· simp only [a1, Bool.not_true, Bool.not_false]))
   | (refine qd ?_ ?_; (· simp only [a1, Bool.not_true, Bool.not_false]))
   | (refine qf ?_ ?_; (· simp only [a1, Bool.not_true, Bool.not_false]))
   | (refine qe ?_ ?_; (· simp only [a1, Bool.not_true, Bool.not_false]))
   | (refine qh ?_ ?_; (· simp only [a1, Bool.not_true, Bool.not_false]))
   | (refine qi ?_ ?_; (· simp only [a1, Bool.not_true, Bool.not_false]))
   | (refine qc ?_ ?_; (· simp only [a2, Bool.not_true, Bool.not_false]))
   | (refine qd ?_ ?_; (· simp only [a2, Bool.not_true, Bool.not_false]))
   | (refine qf ?_ ?_; (· simp only [a2, Bool.not_true, Bool.not_false]))
   | (refine qe ?_ ?_; (· simp only [a2, Bool.not_true, Bool.not_false]))
   | (refine qh ?_ ?_; (· simp only [a2, Bool.not_true, Bool.not_false]))
   | (refine qi ?_ ?_; (· simp only [a2, Bool.not_true, Bool.not_false]))
   | (refine qc ?_ ?_; (· simp only [a3, Bool.not_true, Bool.not_false]))
   | (refine qd ?_ ?_; (· simp only [a3, Bool.not_true, Bool.not_false]))
   | (refine qf ?_ ?_; (· simp only [a3, Bool.not_true, Bool.not_false]))
   | (refine qe ?_ ?_; (· simp only [a3, Bool.not_true, Bool.not_false]))
   | (refine qh ?_ ?_; (· simp only [a3, Bool.not_true, Bool.not_false]))
   | (refine qi ?_ ?_; (· simp only [a3, Bool.not_true, Bool.not_false]))
   | (refine qc ?_ ?_; (· simp only [a4, Bool.not_true, Bool.not_false]))
   | (refine qd ?_ ?_; (· simp only [a4, Bool.not_true, Bool.not_false]))
   | (refine qf ?_ ?_; (· simp only [a4, Bool.not_true, Bool.not_false]))
   | (refine qe ?_ ?_; (· simp only [a4, Bool.not_true, Bool.not_false]))
   | (refine qh ?_ ?_; (· simp only [a4, Bool.not_true, Bool.not_false]))
   | (refine qi ?_ ?_; (· simp only [a4, Bool.not_true, Bool.not_false]))
   | (refine qc ?_ ?_; (· simp only [g1, Bool.not_true, Bool.not_false]))
   | (refine qd ?_ ?_; (· simp only [g1, Bool.not_true, Bool.not_false]))
   | (refine qf ?_ ?_; (· simp only [g1, Bool.not_true, Bool.not_false]))
   | (refine qe ?_ ?_; (· simp only [g1, Bool.not_true, Bool.not_false]))
   | (refine qh ?_ ?_; (· simp only [g1, Bool.not_true, Bool.not_false]))
   | (refine qi ?_ ?_; (· simp only [g1, Bool.not_true, Bool.not_false]))
   | (refine qc ?_ ?_; (· simp only [g2, Bool.not_true, Bool.not_false]))
   | (refine qd ?_ ?_; (· simp only [g2, Bool.not_true, Bool.not_false]))
   | (refine qf ?_ ?_; (· simp only [g2, Bool.not_true, Bool.not_false]))
   | (refine qe ?_ ?_; (· simp only [g2, Bool.not_true, Bool.not_false]))
   | (refine qh ?_ ?_; (· simp only [g2, Bool.not_true, Bool.not_false]))
   | (refine qi ?_ ?_; (· simp only [g2, Bool.not_true, Bool.not_false]))
   | (refine qc ?_ ?_; (· simp only [hb, Bool.not_true, Bool.not_false]))
   | (refine qd ?_ ?_; (· simp only [hb, Bool.not_true, Bool.not_false]))
   | (refine qf ?_ ?_; (· simp only [hb, Bool.not_true, Bool.not_false]))
   | (refine qe ?_ ?_; (· simp only [hb, Bool.not_true, Bool.not_false]))
   | (refine qh ?_ ?_; (· simp only [hb, Bool.not_true, Bool.not_false]))
   | (refine qi ?_ ?_; (· simp only [hb, Bool.not_true, Bool.not_false]))
   | refine ql (Yd n hk) ?_
   | refine ql (Zu _) ?_
   | refine ql (Ye _) ?_
   | refine ql (R3_Valid _) ?_
   | refine ql (R7_Own n hk) ?_
   | refine ql (R4_Valid _ (hs _ (gap_mem hm))) ?_
   | refine qm (fun h => ?_) (fun h => ?_)
   | refine qr (fun h => ?_) (fun h => ?_)
   | refine qg (fun h => ?_) (fun h => ?_)
   | refine zi env rfl rfl (qq ?_)
   | refine zb env rfl (qq ?_)
  all_goals refine kw ?_
  all_goals rw [he]
  all_goals (first | rfl | simp_all)
theorem rfirst_turn (n : Node) (i : Nat) (e : Int) (hl : n.kids.length ≤ 9223372036854775807) (hJ : i ≤ n.kids.length ∧ firstErr n = if e = 0 then ja (n.kids.drop i) else e) :
 (decide ((i : Int) < ((n.kids.map Node.cells).length : Int)) = true ∧ decide (e = 0) = false ∧ firstErr n = e) ∨
 (∃ m, n.kids[i]? = some m ∧ m ∈ n.kids ∧ i < n.kids.length ∧ decide ((i : Int) < ((n.kids.map Node.cells).length : Int)) = true ∧ decide (e = 0) = true ∧ IntKind.i64.wrap ((i : Int) + 1) = ((i + 1 : Nat) : Int) ∧
   firstErr n = if firstErr m = 0 then ja (n.kids.drop (i + 1)) else firstErr m) ∨
 (decide ((i : Int) < ((n.kids.map Node.cells).length : Int)) = false ∧ firstErr n = e) := by
 obtain ⟨h1, h2⟩ := hJ
 rcases Nat.lt_or_ge i n.kids.length with h | h
 ·have hd : decide ((i : Int) < ((n.kids.map Node.cells).length : Int)) = true := by simpa using h
  by_cases he : e = 0
  ·refine .inr (.inl ⟨n.kids[i], List.getElem?_eq_getElem h, List.getElem_mem h, h, hd, decide_eq_true he, zr (by omega) (by omega), ?_⟩)
   rw [h2, if_pos he, List.drop_eq_getElem_cons h, ja]
  ·exact .inl ⟨hd, decide_eq_false he, by rw [h2, if_neg he]⟩
 ·refine .inr (.inr ⟨by simpa using h, ?_⟩)
  rw [h2, List.drop_of_length_le h, ja]
  split <;> omega
set_option maxHeartbeats 4000000 in
/-- R7.first -/
theorem R7_first : ∀ n : Node, Wf n → Fn Tryz.prog G 26 [.agg (zo n)] (.int .i64 (firstErr n)) := by
 intro n hwf
 induction hwf with | mk n hk hg ht hs _ ih => ?_
 refine zg (T := tt) (N := 25) (rs := [.tmp 2]) (fun vs w => by simp) Tryz.func26 rfl rfl rfl rfl (by kernel_rfl) (zd rfl) (qo _ rfl) ?_
 repeat' first
  | refine zl env rfl ?_
  | (refine k7 (α := Nat × Int) (fun a => a.1 ≤ n.kids.length ∧ firstErr n = if a.2 = 0 then ja (n.kids.drop a.1) else a.2) (fun a => n.kids.length - a.1) (fun a => [(4, .int .i64 a.1), (3, .int .i64 a.2)]) (fun _ => []) ((0, jc n)) (fun _ => rfl) (fun _ => rfl) (⟨Nat.zero_le _, by rw [yk]; rfl⟩) ?_ ?_ (fun ⟨i, e⟩ hJ => ?_); (· simp [leFT, leV, leOs, leO, leC, rho, AV.ren, AV.ren1, AV.un, AV.un1, AV.closed]); (· simp [leFT, leV, leOs, leO, leC, rho, AV.ren, AV.ren1, AV.un, AV.un1, AV.closed]); rcases rfirst_turn n i e hk hJ with ⟨hb, g1, he⟩ | ⟨m, hm, hmem, hlt, hb, g1, hw, he⟩ | ⟨hb, he⟩)
  | refine kz rfl ?_
  | refine yz rfl rfl ?_
  | (refine ko ((i + 1, firstErr m)) ?_ ?_ ?_ ?_; (· exact ⟨by show i + 1 ≤ n.kids.length; omega, he⟩); (· (show n.kids.length - (i + 1) < n.kids.length - i; omega)); (· (simp only [hw]; simp [leFT, leV, leOs, leO, leC, rho, AV.ren, AV.ren1, AV.un, AV.un1, AV.closed])); (· simp [leFT, leV, leOs, leO, leC, rho, AV.ren, AV.ren1, AV.un, AV.un1, AV.closed]))
  | refine uw env rfl rfl rfl rfl rfl (u4 hm) ?_
  | (refine qc ?_ ?_; (· simp only [hb, Bool.not_true, Bool.not_false]))
  | (refine qd ?_ ?_; (· simp only [hb, Bool.not_true, Bool.not_false]))
  | (refine qf ?_ ?_; (· simp only [hb, Bool.not_true, Bool.not_false]))
  | (refine qe ?_ ?_; (· simp only [hb, Bool.not_true, Bool.not_false]))
  | (refine qh ?_ ?_; (· simp only [hb, Bool.not_true, Bool.not_false]))
  | (refine qi ?_ ?_; (· simp only [hb, Bool.not_true, Bool.not_false]))
  | (refine qc ?_ ?_; (· simp only [g1, Bool.not_true, Bool.not_false]))
  | (refine qd ?_ ?_; (· simp only [g1, Bool.not_true, Bool.not_false]))
  | (refine qf ?_ ?_; (· simp only [g1, Bool.not_true, Bool.not_false]))
  | (refine qe ?_ ?_; (· simp only [g1, Bool.not_true, Bool.not_false]))
  | (refine qh ?_ ?_; (· simp only [g1, Bool.not_true, Bool.not_false]))
  | (refine qi ?_ ?_; (· simp only [g1, Bool.not_true, Bool.not_false]))
  | refine ql (R7_node n hk hg hs) ?_
  | refine ql (ih m hmem) ?_
  | refine qm (fun h => ?_) (fun h => ?_)
  | refine qr (fun h => ?_) (fun h => ?_)
  | refine qg (fun h => ?_) (fun h => ?_)
  | refine zi env rfl rfl (qq ?_)
  | refine zb env rfl (qq ?_)
 all_goals refine kw ?_
 all_goals rw [he]
def jy (o : Option Nat) (k : Int) : Int := match o with
 | some s => if k + s ≤ 4001 then k + s else 4001
 | none => 4001
theorem sizeS_big {o : Option Nat} {k : Int} (h : 4001 ≤ k) : jy o k = 4001 := by
 unfold jy; split
 ·split <;> omega
 ·rfl
theorem sizeS_rng (o : Option Nat) (k : Int) (h0 : 0 ≤ k) (h : k ≤ 4001) : 0 ≤ jy o k ∧ jy o k ≤ 4001 := by
 unfold jy; split
 ·split <;> omega
 ·omega
theorem sizeS_cons (m : Node) (l : List Node) (d : Nat) (k : Int) (h0 : 0 ≤ k) : jy (sizeL? (m :: l) d) k = jy (sizeL? l d) (k + jy (size? m d) 0) := by
 rw [u0]
 cases ha : size? m d with
 | none => rw [sizeS_big (k := k + jy none 0) (by simp [jy]; omega)]; rfl
 | some a =>
   by_cases hl : (a : Int) ≤ 4001
   ·have e : jy (some a) 0 = a := by simp only [jy]; rw [if_pos (by omega)]; omega
    rw [e]
    cases hb : sizeL? l d with
    | none => rfl
    | some b =>
      simp only [jy]
      by_cases h2 : k + (a : Int) + b ≤ 4001
      ·rw [if_pos (by omega), if_pos h2]; omega
      ·rw [if_neg (by omega), if_neg h2]
   ·have e : jy (some a) 0 = 4001 := by simp only [jy]; rw [if_neg (by omega)]
    rw [e, sizeS_big (k := k + 4001) (by omega)]
    cases hb : sizeL? l d with
    | none => rfl
    | some b => simp only [jy]; rw [if_neg (by omega)]
theorem sizeS_step (n : Node) (d : Nat) : jy (size? n (d + 1)) 0 = if most n.kind < (n.kids.length : Int) then 4001 else jy (sizeL? n.kids d) 1 := by
 rw [vp]
 split
 ·rfl
 ·cases hb : sizeL? n.kids d with
  | none => rfl
  | some b =>
    simp only [Option.map_some, jy]
    by_cases h : (1 : Int) + b ≤ 4001
    ·rw [if_pos (by omega), if_pos h]; omega
    ·rw [if_neg (by omega), if_neg h]
theorem size_turn (l : List Node) (d i : Nat) (k : Int) (hl : l.length ≤ 9223372036854775807) (hJ : i ≤ l.length ∧ 0 ≤ k ∧ k ≤ 8001 ∧ jy (sizeL? l d) 1 = jy (sizeL? (l.drop i) d) k) :
 (decide ((i : Int) < ((l.map Node.cells).length : Int)) = true ∧ decide (k ≤ 4000) = false ∧ (if 4001 < k then (4001 : Int) else k) = jy (sizeL? l d) 1) ∨
 (∃ m, l[i]? = some m ∧ m ∈ l ∧ i < l.length ∧ decide ((i : Int) < ((l.map Node.cells).length : Int)) = true ∧ decide (k ≤ 4000) = true ∧ IntKind.i64.wrap ((i : Int) + 1) = ((i + 1 : Nat) : Int) ∧ IntKind.i64.wrap (k + jy (size? m d) 0) = k + jy (size? m d) 0 ∧
   0 ≤ k + jy (size? m d) 0 ∧ k + jy (size? m d) 0 ≤ 8001 ∧ jy (sizeL? l d) 1 = jy (sizeL? (l.drop (i + 1)) d) (k + jy (size? m d) 0)) ∨
 (decide ((i : Int) < ((l.map Node.cells).length : Int)) = false ∧ (if 4001 < k then (4001 : Int) else k) = jy (sizeL? l d) 1) := by
 obtain ⟨h1, h2, h3, h4⟩ := hJ
 rcases Nat.lt_or_ge i l.length with h | h
 ·have hd : decide ((i : Int) < ((l.map Node.cells).length : Int)) = true := by simpa using h
  by_cases hk : k ≤ 4000
  ·have hr := sizeS_rng (size? l[i] d) 0 (by omega) (by omega)
   refine .inr (.inl ⟨l[i], List.getElem?_eq_getElem h, List.getElem_mem h, h, hd, decide_eq_true hk, zr (by omega) (by omega), zr (by omega) (by omega), by omega, by omega, ?_⟩)
   rw [h4, List.drop_eq_getElem_cons h, sizeS_cons _ _ _ _ h2]
  ·refine .inl ⟨hd, decide_eq_false hk, ?_⟩
   rw [h4, sizeS_big (by omega)]
   split <;> omega
 ·refine .inr (.inr ⟨by simpa using h, ?_⟩)
  rw [h4, List.drop_of_length_le h]
  show _ = jy (some 0) k
  simp only [jy]
  split <;> split <;> omega
set_option maxHeartbeats 4000000 in
/-- R7.size -/
theorem R7_size : ∀ n : Node, Wf n → ∀ (d : Nat) (lev : Int), lev + d = 61 → -9223372036854775808 ≤ lev → lev ≤ 9223372036854775806 →
 Fn Tryz.prog G 25 [.agg (zo n), .int .i64 lev] (.int .i64 (jy (size? n d) 0)) := by
 intro n hwf
 induction hwf with | mk n hk hg ht hs _ ih => ?_
 intro d lev hl hl0 hl1
 cases d with
 | zero =>
   have e1 : decide (60 < lev) = true := decide_eq_true (by omega)
   rw [Yn]
   refine zg (T := tt) (N := 41) (rs := [.tmp 4]) (fun vs w => by simp) Tryz.func25 rfl rfl rfl rfl (by kernel_rfl) (zd rfl) (qo _ rfl) ?_
   repeat' first
    | refine zl env rfl ?_
    | (refine qc ?_ ?_; (· simp only [e1, Bool.not_true, Bool.not_false]))
    | (refine qd ?_ ?_; (· simp only [e1, Bool.not_true, Bool.not_false]))
    | (refine qf ?_ ?_; (· simp only [e1, Bool.not_true, Bool.not_false]))
    | (refine qe ?_ ?_; (· simp only [e1, Bool.not_true, Bool.not_false]))
    | (refine qh ?_ ?_; (· simp only [e1, Bool.not_true, Bool.not_false]))
    | (refine qi ?_ ?_; (· simp only [e1, Bool.not_true, Bool.not_false]))
    | refine qm (fun h => ?_) (fun h => ?_)
    | refine qr (fun h => ?_) (fun h => ?_)
    | refine qg (fun h => ?_) (fun h => ?_)
    | refine zi env rfl rfl (qq ?_)
    | refine zb env rfl (qq ?_)
   all_goals rfl
 | succ d =>
   have e1 : decide (60 < lev) = false := decide_eq_false (by omega)
   rw [sizeS_step]
   by_cases c3 : most n.kind < (n.kids.length : Int)
   case pos =>
    have e3 : decide (most n.kind < ((n.kids.map Node.cells).length : Int)) = true := by simpa using c3
    rw [if_pos c3]
    refine zg (T := tt) (N := 41) (rs := [.tmp 4]) (fun vs w => by simp) Tryz.func25 rfl rfl rfl rfl (by kernel_rfl) (zd rfl) (qo _ rfl) ?_
    repeat' first
     | refine zl env rfl ?_
     | (refine qc ?_ ?_; (· simp only [e1, Bool.not_true, Bool.not_false]))
     | (refine qd ?_ ?_; (· simp only [e1, Bool.not_true, Bool.not_false]))
     | (refine qf ?_ ?_; (· simp only [e1, Bool.not_true, Bool.not_false]))
     | (refine qe ?_ ?_; (· simp only [e1, Bool.not_true, Bool.not_false]))
     | (refine qh ?_ ?_; (· simp only [e1, Bool.not_true, Bool.not_false]))
     | (refine qi ?_ ?_; (· simp only [e1, Bool.not_true, Bool.not_false]))
     | (refine qc ?_ ?_; (· simp only [e3, Bool.not_true, Bool.not_false]))
     | (refine qd ?_ ?_; (· simp only [e3, Bool.not_true, Bool.not_false]))
     | (refine qf ?_ ?_; (· simp only [e3, Bool.not_true, Bool.not_false]))
     | (refine qe ?_ ?_; (· simp only [e3, Bool.not_true, Bool.not_false]))
     | (refine qh ?_ ?_; (· simp only [e3, Bool.not_true, Bool.not_false]))
     | (refine qi ?_ ?_; (· simp only [e3, Bool.not_true, Bool.not_false]))
     | refine ql (R7_most _) ?_
     | refine qm (fun h => ?_) (fun h => ?_)
     | refine qr (fun h => ?_) (fun h => ?_)
     | refine qg (fun h => ?_) (fun h => ?_)
     | refine zi env rfl rfl (qq ?_)
     | refine zb env rfl (qq ?_)
    all_goals rfl
   have e3 : decide (most n.kind < ((n.kids.map Node.cells).length : Int)) = false := by simpa using c3
   rw [if_neg c3]
   have w2 : IntKind.i64.wrap (lev + 1) = lev + 1 := zr (by omega) (by omega)
   refine zg (T := tt) (N := 41) (rs := [.tmp 4]) (fun vs w => by simp) Tryz.func25 rfl rfl rfl rfl (by kernel_rfl) (zd rfl) (qo _ rfl) ?_
   repeat' first
    | refine zl env rfl ?_
    | (refine k7 (α := Nat × Int) (fun a => a.1 ≤ n.kids.length ∧ 0 ≤ a.2 ∧ a.2 ≤ 8001 ∧ jy (sizeL? n.kids d) 1 = jy (sizeL? (n.kids.drop a.1) d) a.2) (fun a => n.kids.length - a.1) (fun a => [(6, .int .i64 a.1), (5, .int .i64 a.2)]) (fun _ => []) ((0, 1)) (fun _ => rfl) (fun _ => rfl) (⟨Nat.zero_le _, by decide, by decide, rfl⟩) ?_ ?_ (fun ⟨i, k⟩ hJ => ?_); (· simp [leFT, leV, leOs, leO, leC, rho, AV.ren, AV.ren1, AV.un, AV.un1, AV.closed]); (· simp [leFT, leV, leOs, leO, leC, rho, AV.ren, AV.ren1, AV.un, AV.un1, AV.closed]); rcases size_turn n.kids d i k hk hJ with ⟨hb, g1, he⟩ | ⟨m, hm, hmem, hlt, hb, g1, hw, hw2, p1, p2, he⟩ | ⟨hb, he⟩)
    | refine kz rfl ?_
    | refine yz rfl rfl ?_
    | (refine ko ((i + 1, k + jy (size? m d) 0)) ?_ ?_ ?_ ?_; (· exact ⟨by show i + 1 ≤ n.kids.length; omega, p1, p2, he⟩); (· (show n.kids.length - (i + 1) < n.kids.length - i; omega)); (· (simp only [hw, hw2]; simp [leFT, leV, leOs, leO, leC, rho, AV.ren, AV.ren1, AV.un, AV.un1, AV.closed])); (· simp [leFT, leV, leOs, leO, leC, rho, AV.ren, AV.ren1, AV.un, AV.un1, AV.closed]))
    | refine uw env rfl rfl rfl rfl rfl (u4 hm) ?_
    | refine ql (x := .int .i64 (jy (size? m d) 0)) (by rw [w2]; exact ih m hmem d (lev + 1) (by omega) (by omega) (by omega)) ?_
    | (refine qc ?_ ?_; (· simp only [e1, Bool.not_true, Bool.not_false]))
    | (refine qd ?_ ?_; (· simp only [e1, Bool.not_true, Bool.not_false]))
    | (refine qf ?_ ?_; (· simp only [e1, Bool.not_true, Bool.not_false]))
    | (refine qe ?_ ?_; (· simp only [e1, Bool.not_true, Bool.not_false]))
    | (refine qh ?_ ?_; (· simp only [e1, Bool.not_true, Bool.not_false]))
    | (refine qi ?_ ?_; (· simp only [e1, Bool.not_true, Bool.not_false]))
    | (refine qc ?_ ?_; (· simp only [e3, Bool.not_true, Bool.not_false]))
    | (refine qd ?_ ?_; (· simp only [e3, Bool.not_true, Bool.not_false]))
    | (refine qf ?_ ?_; (· simp only [e3, Bool.not_true, Bool.not_false]))
    | (refine qe ?_ ?_; (· simp only [e3, Bool.not_true, Bool.not_false]))
    | (refine qh ?_ ?_; (· simp only [e3, Bool.not_true, Bool.not_false]))
    | (refine qi ?_ ?_; (· simp only [e3, Bool.not_true, Bool.not_false]))
    | (refine qc ?_ ?_; (· simp only [hb, Bool.not_true, Bool.not_false]))
    | (refine qd ?_ ?_; (· simp only [hb, Bool.not_true, Bool.not_false]))
    | (refine qf ?_ ?_; (· simp only [hb, Bool.not_true, Bool.not_false]))
    | (refine qe ?_ ?_; (· simp only [hb, Bool.not_true, Bool.not_false]))
    | (refine qh ?_ ?_; (· simp only [hb, Bool.not_true, Bool.not_false]))
    | (refine qi ?_ ?_; (· simp only [hb, Bool.not_true, Bool.not_false]))
    | (refine qc ?_ ?_; (· simp only [g1, Bool.not_true, Bool.not_false]))
    | (refine qd ?_ ?_; (· simp only [g1, Bool.not_true, Bool.not_false]))
    | (refine qf ?_ ?_; (· simp only [g1, Bool.not_true, Bool.not_false]))
    | (refine qe ?_ ?_; (· simp only [g1, Bool.not_true, Bool.not_false]))
    | (refine qh ?_ ?_; (· simp only [g1, Bool.not_true, Bool.not_false]))
    | (refine qi ?_ ?_; (· simp only [g1, Bool.not_true, Bool.not_false]))
    | refine ql (R7_most _) ?_
    | refine qm (fun h => ?_) (fun h => ?_)
    | refine qr (fun h => ?_) (fun h => ?_)
    | refine qg (fun h => ?_) (fun h => ?_)
    | refine zi env rfl rfl (qq ?_)
    | refine zb env rfl (qq ?_)
   all_goals refine kw ?_
   all_goals exact he
theorem within_lim (o : Option Nat) : decide (zt o 4000 < 0) = !(match o with | some k => decide (k ≤ 4000) | none => false) := by
 cases o with
 | none => rfl
 | some k =>
   by_cases h : k ≤ 4000
   ·have e : zt (some k) 4000 = 4000 - (k : Int) := by simp only [zt]; rw [if_pos (by omega)]
    rw [e]; simp [h]; omega
   ·have e : zt (some k) 4000 = -1 := by simp only [zt]; rw [if_neg (by omega)]
    rw [e]; simp [h]
theorem size_lim (o : Option Nat) : decide (4000 < jy o 0) = !(match o with | some k => decide (k ≤ 4000) | none => false) := by
 cases o with
 | none => rfl
 | some k =>
   by_cases h : k ≤ 4000
   ·have e : jy (some k) 0 = (k : Int) := by simp only [jy]; rw [if_pos (by omega)]; omega
    rw [e]; simp [h]; omega
   ·by_cases h2 : k ≤ 4001
    ·have e : jy (some k) 0 = (k : Int) := by simp only [jy]; rw [if_pos (by omega)]; omega
     rw [e]; simp [h]; omega
    ·have e : jy (some k) 0 = 4001 := by simp only [jy]; rw [if_neg (by omega)]
     rw [e]; simp [h]
set_option maxHeartbeats 4000000 in
/-- Check -/
theorem grammar_Check (n : Node) (hwf : Wf n) : Fn Tryz.prog G 14 [.agg (zo n)] (.int .i64 (checkErr n)) := by
 have hl := within_lim (size? n 60)
 have hc : Fn Tryz.prog G 31 [.agg (zo n), .int .i64 4000, .int .i64 60] (.int .i64 (zt (size? n 60) 4000)) := (grammar_within n hwf 4000 60 (by decide) (by decide) (by decide) (by decide))
 cases hb : decide (zt (size? n 60) 4000 < 0)
 case true =>
  have e : checkErr n = 3 := by
   rw [hb] at hl
   unfold checkErr
   split at hl
   ·rename_i k hk; rw [hk]; simp only; rw [if_neg (by simpa using hl)]
   ·rename_i hk; rw [hk]
  rw [e]
  refine zg (T := tt) (N := 8) (rs := [.tmp 2]) (fun vs w => by simp) Tryz.func14 rfl rfl rfl rfl (by kernel_rfl) (zd rfl) (qo _ rfl) ?_
  repeat' first
   | refine zl env rfl ?_
   | (refine qc ?_ ?_; (· simp only [hb, Bool.not_true, Bool.not_false]))
   | (refine qd ?_ ?_; (· simp only [hb, Bool.not_true, Bool.not_false]))
   | (refine qf ?_ ?_; (· simp only [hb, Bool.not_true, Bool.not_false]))
   | (refine qe ?_ ?_; (· simp only [hb, Bool.not_true, Bool.not_false]))
   | (refine qh ?_ ?_; (· simp only [hb, Bool.not_true, Bool.not_false]))
   | (refine qi ?_ ?_; (· simp only [hb, Bool.not_true, Bool.not_false]))
   | refine ql (hc) ?_
   | refine qm (fun h => ?_) (fun h => ?_)
   | refine qr (fun h => ?_) (fun h => ?_)
   | refine qg (fun h => ?_) (fun h => ?_)
   | refine zi env rfl rfl (qq ?_)
   | refine zb env rfl (qq ?_)
  all_goals rfl
 have e : checkErr n = firstErr n := by
  rw [hb] at hl
  unfold checkErr
  split at hl
  ·rename_i k hk; rw [hk]; simp only; rw [if_pos (by simpa using hl)]
  ·cases hl
 rw [e]
 refine zg (T := tt) (N := 8) (rs := [.tmp 2]) (fun vs w => by simp) Tryz.func14 rfl rfl rfl rfl (by kernel_rfl) (zd rfl) (qo _ rfl) ?_
 repeat' first
  | refine zl env rfl ?_
  | (refine qc ?_ ?_; (· simp only [hb, Bool.not_true, Bool.not_false]))
  | (refine qd ?_ ?_; (· simp only [hb, Bool.not_true, Bool.not_false]))
  | (refine qf ?_ ?_; (· simp only [hb, Bool.not_true, Bool.not_false]))
  | (refine qe ?_ ?_; (· simp only [hb, Bool.not_true, Bool.not_false]))
  | (refine qh ?_ ?_; (· simp only [hb, Bool.not_true, Bool.not_false]))
  | (refine qi ?_ ?_; (· simp only [hb, Bool.not_true, Bool.not_false]))
  | refine ql (hc) ?_
  | refine ql (grammar_first n hwf) ?_
  | refine qm (fun h => ?_) (fun h => ?_)
  | refine qr (fun h => ?_) (fun h => ?_)
  | refine qg (fun h => ?_) (fun h => ?_)
  | refine zi env rfl rfl (qq ?_)
  | refine zb env rfl (qq ?_)
 all_goals rfl
set_option maxHeartbeats 4000000 in
/-- Check -/
theorem R7_Check (n : Node) (hwf : Wf n) : Fn Tryz.prog G 9 [.agg (zo n)] (.int .i64 (checkErr n)) := by
 have hl := size_lim (size? n 60)
 have hc : Fn Tryz.prog G 25 [.agg (zo n), .int .i64 1] (.int .i64 (jy (size? n 60) 0)) := (R7_size n hwf 60 1 (by decide) (by decide) (by decide))
 cases hb : decide (4000 < jy (size? n 60) 0)
 case true =>
  have e : checkErr n = 3 := by
   rw [hb] at hl
   unfold checkErr
   split at hl
   ·rename_i k hk; rw [hk]; simp only; rw [if_neg (by simpa using hl)]
   ·rename_i hk; rw [hk]
  rw [e]
  refine zg (T := tt) (N := 8) (rs := [.tmp 2]) (fun vs w => by simp) Tryz.func9 rfl rfl rfl rfl (by kernel_rfl) (zd rfl) (qo _ rfl) ?_
  repeat' first
   | refine zl env rfl ?_
   | (refine qc ?_ ?_; (· simp only [hb, Bool.not_true, Bool.not_false]))
   | (refine qd ?_ ?_; (· simp only [hb, Bool.not_true, Bool.not_false]))
   | (refine qf ?_ ?_; (· simp only [hb, Bool.not_true, Bool.not_false]))
   | (refine qe ?_ ?_; (· simp only [hb, Bool.not_true, Bool.not_false]))
   | (refine qh ?_ ?_; (· simp only [hb, Bool.not_true, Bool.not_false]))
   | (refine qi ?_ ?_; (· simp only [hb, Bool.not_true, Bool.not_false]))
   | refine ql (hc) ?_
   | refine qm (fun h => ?_) (fun h => ?_)
   | refine qr (fun h => ?_) (fun h => ?_)
   | refine qg (fun h => ?_) (fun h => ?_)
   | refine zi env rfl rfl (qq ?_)
   | refine zb env rfl (qq ?_)
  all_goals rfl
 have e : checkErr n = firstErr n := by
  rw [hb] at hl
  unfold checkErr
  split at hl
  ·rename_i k hk; rw [hk]; simp only; rw [if_pos (by simpa using hl)]
  ·cases hl
 rw [e]
 refine zg (T := tt) (N := 8) (rs := [.tmp 2]) (fun vs w => by simp) Tryz.func9 rfl rfl rfl rfl (by kernel_rfl) (zd rfl) (qo _ rfl) ?_
 repeat' first
  | refine zl env rfl ?_
  | (refine qc ?_ ?_; (· simp only [hb, Bool.not_true, Bool.not_false]))
  | (refine qd ?_ ?_; (· simp only [hb, Bool.not_true, Bool.not_false]))
  | (refine qf ?_ ?_; (· simp only [hb, Bool.not_true, Bool.not_false]))
  | (refine qe ?_ ?_; (· simp only [hb, Bool.not_true, Bool.not_false]))
  | (refine qh ?_ ?_; (· simp only [hb, Bool.not_true, Bool.not_false]))
  | (refine qi ?_ ?_; (· simp only [hb, Bool.not_true, Bool.not_false]))
  | refine ql (hc) ?_
  | refine ql (R7_first n hwf) ?_
  | refine qm (fun h => ?_) (fun h => ?_)
  | refine qr (fun h => ?_) (fun h => ?_)
  | refine qg (fun h => ?_) (fun h => ?_)
  | refine zi env rfl rfl (qq ?_)
  | refine zb env rfl (qq ?_)
 all_goals rfl
end Go.Proofs.YtimcdpioclioiaaGreatDoorW.Ex.Gr
