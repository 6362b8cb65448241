/- Whole trees: the reference's shape, node, first, size and Check, and the program's Check. Conditions: those of the trees that come in (Wf). -/
import Derived.Test.YtigmilhpeodhbaaGreatDoorGg
namespace Go.Proofs.YtigmilhpeodhbaaGreatDoorW.Ex.Gr
open Go.Proofs.YtigmilhpeodhbaaGreatDoorW.Plain
open Go Go.Proofs.YtigmilhpeodhbaaGreatDoorW.Ex
set_option linter.all false
set_option maxRecDepth 100000
theorem qzd {k : Int} (h : known k = false) : k < 1 ∨ (1 ≤ k ∧ 26 < k) := by
 simp only [known, Bool.and_eq_false_iff, decide_eq_false_iff_not] at h; omega
set_option maxHeartbeats 4000000 in
/-- R7.shape -/
theorem qgu (n : Node) (hk : n.kids.length ≤ 9223372036854775807) : Fn Tryz.prog G 146 [.agg (zf n)] (.bool (Qz n)) := by
 cases k0 : known n.kind
 case false =>
  rw [show Qz n = false by simp [Qz, k0]]
  rcases qzd k0 with h | ⟨h, h'⟩
  ·have d1 : decide (n.kind < 1) = true := decide_eq_true h
   refine zk (T := tt) (N := 49) (rs := [.tmp 2]) (fun vs w => by simp) Tryz.func146 rfl rfl rfl rfl (by kernel_rfl) (zl rfl) (qz _ rfl) ?_
   repeat' first
    | refine ji env rfl ?_
    | (refine qe ?_ ?_; (· simp only [d1, Bool.not_true, Bool.not_false]))
    | (refine qf ?_ ?_; (· simp only [d1, Bool.not_true, Bool.not_false]))
    | (refine qh ?_ ?_; (· simp only [d1, Bool.not_true, Bool.not_false]))
    | (refine qg ?_ ?_; (· simp only [d1, Bool.not_true, Bool.not_false]))
    | (refine qo ?_ ?_; (· simp only [d1, Bool.not_true, Bool.not_false]))
    | (refine qp ?_ ?_; (· simp only [d1, Bool.not_true, Bool.not_false]))
    | refine qr (fun h => ?_) (fun h => ?_)
    | refine qu (fun h => ?_) (fun h => ?_)
    | refine qj (fun h => ?_) (fun h => ?_)
    | refine zd env rfl rfl (q4 ?_)
    | refine zm env rfl (q4 ?_)
   all_goals rfl
  ·have d1 : decide (n.kind < 1) = false := decide_eq_false (by omega)
   have d2 : decide (26 < n.kind) = true := decide_eq_true h'
   refine zk (T := tt) (N := 49) (rs := [.tmp 2]) (fun vs w => by simp) Tryz.func146 rfl rfl rfl rfl (by kernel_rfl) (zl rfl) (qz _ rfl) ?_
   repeat' first
    | refine ji env rfl ?_
    | (refine qe ?_ ?_; (· simp only [d1, Bool.not_true, Bool.not_false]))
    | (refine qf ?_ ?_; (· simp only [d1, Bool.not_true, Bool.not_false]))
    | (refine qh ?_ ?_; (· simp only [d1, Bool.not_true, Bool.not_false]))
    | (refine qg ?_ ?_; (· simp only [d1, Bool.not_true, Bool.not_false]))
    | (refine qo ?_ ?_; (· simp only [d1, Bool.not_true, Bool.not_false]))
    | (refine qp ?_ ?_; (· simp only [d1, Bool.not_true, Bool.not_false]))
    | (refine qe ?_ ?_; (· simp only [d2, Bool.not_true, Bool.not_false]))
    | (refine qf ?_ ?_; (· simp only [d2, Bool.not_true, Bool.not_false]))
    | (refine qh ?_ ?_; (· simp only [d2, Bool.not_true, Bool.not_false]))
    | (refine qg ?_ ?_; (· simp only [d2, Bool.not_true, Bool.not_false]))
    | (refine qo ?_ ?_; (· simp only [d2, Bool.not_true, Bool.not_false]))
    | (refine qp ?_ ?_; (· simp only [d2, Bool.not_true, Bool.not_false]))
    | refine qr (fun h => ?_) (fun h => ?_)
    | refine qu (fun h => ?_) (fun h => ?_)
    | refine qj (fun h => ?_) (fun h => ?_)
    | refine zd env rfl rfl (q4 ?_)
    | refine zm env rfl (q4 ?_)
   all_goals rfl
 have kb := Yx k0
 have d1 : decide (n.kind < 1) = false := decide_eq_false (by omega)
 have d2 : decide (26 < n.kind) = false := decide_eq_false (by omega)
 have hke := q28 n k0
 cases d3 : decide (((n.kids.map Node.cells).length : Int) < qic n.kind)
 case true =>
  rw [List.length_map] at d3
  rw [show Qz n = false by simp only [Qz, hke, d3]; simp]
  rw [← List.length_map (f := Node.cells)] at d3
  refine zk (T := tt) (N := 49) (rs := [.tmp 2]) (fun vs w => by simp) Tryz.func146 rfl rfl rfl rfl (by kernel_rfl) (zl rfl) (qz _ rfl) ?_
  repeat' first
   | refine ji env rfl ?_
   | (refine qe ?_ ?_; (· simp only [d1, Bool.not_true, Bool.not_false]))
   | (refine qf ?_ ?_; (· simp only [d1, Bool.not_true, Bool.not_false]))
   | (refine qh ?_ ?_; (· simp only [d1, Bool.not_true, Bool.not_false]))
   | (refine qg ?_ ?_; (· simp only [d1, Bool.not_true, Bool.not_false]))
   | (refine qo ?_ ?_; (· simp only [d1, Bool.not_true, Bool.not_false]))
   | (refine qp ?_ ?_; (· simp only [d1, Bool.not_true, Bool.not_false]))
   | (refine qe ?_ ?_; (· simp only [d2, Bool.not_true, Bool.not_false]))
   | (refine qf ?_ ?_; (· simp only [d2, Bool.not_true, Bool.not_false]))
   | (refine qh ?_ ?_; (· simp only [d2, Bool.not_true, Bool.not_false]))
   | (refine qg ?_ ?_; (· simp only [d2, Bool.not_true, Bool.not_false]))
   | (refine qo ?_ ?_; (· simp only [d2, Bool.not_true, Bool.not_false]))
   | (refine qp ?_ ?_; (· simp only [d2, Bool.not_true, Bool.not_false]))
   | (refine qe ?_ ?_; (· simp only [d3, Bool.not_true, Bool.not_false]))
   | (refine qf ?_ ?_; (· simp only [d3, Bool.not_true, Bool.not_false]))
   | (refine qh ?_ ?_; (· simp only [d3, Bool.not_true, Bool.not_false]))
   | (refine qg ?_ ?_; (· simp only [d3, Bool.not_true, Bool.not_false]))
   | (refine qo ?_ ?_; (· simp only [d3, Bool.not_true, Bool.not_false]))
   | (refine qp ?_ ?_; (· simp only [d3, Bool.not_true, Bool.not_false]))
   | refine ql (qor _) ?_
   | refine qr (fun h => ?_) (fun h => ?_)
   | refine qu (fun h => ?_) (fun h => ?_)
   | refine qj (fun h => ?_) (fun h => ?_)
   | refine zd env rfl rfl (q4 ?_)
   | refine zm env rfl (q4 ?_)
  all_goals rfl
 rw [List.length_map] at d3
 rw [d3, Bool.not_false, Bool.true_and] at hke
 rw [← List.length_map (f := Node.cells)] at d3
 cases k1 : qa4 n.kind n.kids
 case false =>
  rw [k1] at hke
  rw [show Qz n = false by simp [Qz, hke]]
  unfold qa4 at k1
  refine zk (T := tt) (N := 49) (rs := [.tmp 2]) (fun vs w => by simp) Tryz.func146 rfl rfl rfl rfl (by kernel_rfl) (zl rfl) (qz _ rfl) ?_
  repeat' first
   | refine ji env rfl ?_
   | (exfalso; rw [he] at k1; cases k1)
   | (refine Jy (α := Nat) (fun i => i ≤ (n.kids).length ∧ Qc (fun i m => fits n.kind i m.kind) 0 (n.kids) = Qc (fun i m => fits n.kind i m.kind) i ((n.kids).drop i)) (fun i => (n.kids).length - i) (fun i => [(3, .int .i64 i)]) (fun _ => []) (0) (fun _ => rfl) (fun _ => rfl) (⟨Nat.zero_le _, rfl⟩) ?_ ?_ (fun i hJ => ?_); (· simp [leFT, leV, leOs, leO, leC, rho, AV.ren, AV.ren1, AV.un, AV.un1, AV.closed]); (· simp [leFT, leV, leOs, leO, leC, rho, AV.ren, AV.ren1, AV.un, AV.un1, AV.closed]); rcases qgt (fun i m => fits n.kind i m.kind) (n.kids) (Node.cells) i hk hJ with ⟨m, hm, hlt, hb, hw, he⟩ | ⟨hb, he⟩)
   | refine Jx rfl ?_
   | refine Zh rfl rfl ?_
   | (refine Jg (i + 1) ?_ ?_ ?_ ?_; (· exact ⟨by omega, by simp_all⟩); (· omega); (· (simp only [hw]; simp [leFT, leV, leOs, leO, leC, rho, AV.ren, AV.ren1, AV.un, AV.un1, AV.closed])); (· simp [leFT, leV, leOs, leO, leC, rho, AV.ren, AV.ren1, AV.un, AV.un1, AV.closed]))
   | refine qai env rfl rfl rfl rfl rfl (qan hm) ?_
   | (refine qe ?_ ?_; (· simp only [d1, Bool.not_true, Bool.not_false]))
   | (refine qf ?_ ?_; (· simp only [d1, Bool.not_true, Bool.not_false]))
   | (refine qh ?_ ?_; (· simp only [d1, Bool.not_true, Bool.not_false]))
   | (refine qg ?_ ?_; (· simp only [d1, Bool.not_true, Bool.not_false]))
   | (refine qo ?_ ?_; (· simp only [d1, Bool.not_true, Bool.not_false]))
   | (refine qp ?_ ?_; (· simp only [d1, Bool.not_true, Bool.not_false]))
   | (refine qe ?_ ?_; (· simp only [d2, Bool.not_true, Bool.not_false]))
   | (refine qf ?_ ?_; (· simp only [d2, Bool.not_true, Bool.not_false]))
   | (refine qh ?_ ?_; (· simp only [d2, Bool.not_true, Bool.not_false]))
   | (refine qg ?_ ?_; (· simp only [d2, Bool.not_true, Bool.not_false]))
   | (refine qo ?_ ?_; (· simp only [d2, Bool.not_true, Bool.not_false]))
   | (refine qp ?_ ?_; (· simp only [d2, Bool.not_true, Bool.not_false]))
   | (refine qe ?_ ?_; (· simp only [d3, Bool.not_true, Bool.not_false]))
   | (refine qf ?_ ?_; (· simp only [d3, Bool.not_true, Bool.not_false]))
   | (refine qh ?_ ?_; (· simp only [d3, Bool.not_true, Bool.not_false]))
   | (refine qg ?_ ?_; (· simp only [d3, Bool.not_true, Bool.not_false]))
   | (refine qo ?_ ?_; (· simp only [d3, Bool.not_true, Bool.not_false]))
   | (refine qp ?_ ?_; (· simp only [d3, Bool.not_true, Bool.not_false]))
   | (refine qe ?_ ?_; (· simp only [hb, Bool.not_true, Bool.not_false]))
   | (refine qf ?_ ?_; (· simp only [hb, Bool.not_true, Bool.not_false]))
   | (refine qh ?_ ?_; (· simp only [hb, Bool.not_true, Bool.not_false]))
   | (refine qg ?_ ?_; (· simp only [hb, Bool.not_true, Bool.not_false]))
   | (refine qo ?_ ?_; (· simp only [hb, Bool.not_true, Bool.not_false]))
   | (refine qp ?_ ?_; (· simp only [hb, Bool.not_true, Bool.not_false]))
   | refine ql (qor _) ?_
   | refine ql (qx9 _ _ _) ?_
   | refine qr (fun h => ?_) (fun h => ?_)
   | refine qu (fun h => ?_) (fun h => ?_)
   | refine qj (fun h => ?_) (fun h => ?_)
   | refine zd env rfl rfl (q4 ?_)
   | refine zm env rfl (q4 ?_)
  all_goals (first | rfl | (exfalso; simp_all))
 rw [k1] at hke
 have hse := qvr n k0
 have hl := qcf n hke k0
 rw [show Qz n = ((qcc n || qsz n) && Yw n) by simp [Qz, hke, k0, hse]]
 unfold qa4 at k1
 have kf : ∀ (i : Nat) (m : Node), n.kids[i]? = some m → fits n.kind i m.kind = true := fun i m h => by simpa using qwi _ n.kids 0 k1 i m h
 refine zk (T := tt) (N := 49) (rs := [.tmp 2]) (fun vs w => by simp) Tryz.func146 rfl rfl rfl rfl (by kernel_rfl) (zl rfl) (qz _ rfl) ?_
 repeat' first
  | refine ji env rfl ?_
  | (refine Jy (α := Nat) (fun i => i ≤ (n.kids).length ∧ Qc (fun i m => fits n.kind i m.kind) 0 (n.kids) = Qc (fun i m => fits n.kind i m.kind) i ((n.kids).drop i)) (fun i => (n.kids).length - i) (fun i => [(3, .int .i64 i)]) (fun _ => []) (0) (fun _ => rfl) (fun _ => rfl) (⟨Nat.zero_le _, rfl⟩) ?_ ?_ (fun i hJ => ?_); (· simp [leFT, leV, leOs, leO, leC, rho, AV.ren, AV.ren1, AV.un, AV.un1, AV.closed]); (· simp [leFT, leV, leOs, leO, leC, rho, AV.ren, AV.ren1, AV.un, AV.un1, AV.closed]); rcases qgt (fun i m => fits n.kind i m.kind) (n.kids) (Node.cells) i hk hJ with ⟨m, hm, hlt, hb, hw, he⟩ | ⟨hb, he⟩)
  | refine Jx rfl ?_
  | refine Zh rfl rfl ?_
  | (refine Jg (i + 1) ?_ ?_ ?_ ?_; (· exact ⟨by omega, by simp_all⟩); (· omega); (· (simp only [hw]; simp [leFT, leV, leOs, leO, leC, rho, AV.ren, AV.ren1, AV.un, AV.un1, AV.closed])); (· simp [leFT, leV, leOs, leO, leC, rho, AV.ren, AV.ren1, AV.un, AV.un1, AV.closed]))
  | refine qai env rfl rfl rfl rfl rfl (qan hm) ?_
  | (refine qe ?_ ?_; (· simp only [d1, Bool.not_true, Bool.not_false]))
  | (refine qf ?_ ?_; (· simp only [d1, Bool.not_true, Bool.not_false]))
  | (refine qh ?_ ?_; (· simp only [d1, Bool.not_true, Bool.not_false]))
  | (refine qg ?_ ?_; (· simp only [d1, Bool.not_true, Bool.not_false]))
  | (refine qo ?_ ?_; (· simp only [d1, Bool.not_true, Bool.not_false]))
  | (refine qp ?_ ?_; (· simp only [d1, Bool.not_true, Bool.not_false]))
  | (refine qe ?_ ?_; (· simp only [d2, Bool.not_true, Bool.not_false]))
  | (refine qf ?_ ?_; (· simp only [d2, Bool.not_true, Bool.not_false]))
  | (refine qh ?_ ?_; (· simp only [d2, Bool.not_true, Bool.not_false]))
  | (refine qg ?_ ?_; (· simp only [d2, Bool.not_true, Bool.not_false]))
  | (refine qo ?_ ?_; (· simp only [d2, Bool.not_true, Bool.not_false]))
  | (refine qp ?_ ?_; (· simp only [d2, Bool.not_true, Bool.not_false]))
  | (refine qe ?_ ?_; (· simp only [d3, Bool.not_true, Bool.not_false]))
  | (refine qf ?_ ?_; (· simp only [d3, Bool.not_true, Bool.not_false]))
  | (refine qh ?_ ?_; (· simp only [d3, Bool.not_true, Bool.not_false]))
  | (refine qg ?_ ?_; (· simp only [d3, Bool.not_true, Bool.not_false]))
  | (refine qo ?_ ?_; (· simp only [d3, Bool.not_true, Bool.not_false]))
  | (refine qp ?_ ?_; (· simp only [d3, Bool.not_true, Bool.not_false]))
  | (refine qe ?_ ?_; (· simp only [hb, Bool.not_true, Bool.not_false]))
  | (refine qf ?_ ?_; (· simp only [hb, Bool.not_true, Bool.not_false]))
  | (refine qh ?_ ?_; (· simp only [hb, Bool.not_true, Bool.not_false]))
  | (refine qg ?_ ?_; (· simp only [hb, Bool.not_true, Bool.not_false]))
  | (refine qo ?_ ?_; (· simp only [hb, Bool.not_true, Bool.not_false]))
  | (refine qp ?_ ?_; (· simp only [hb, Bool.not_true, Bool.not_false]))
  | refine ql (qor _) ?_
  | refine ql (qx9 _ _ _) ?_
  | refine ql (qgv _) ?_
  | refine ql (q3n _) ?_
  | refine ql (qzq n hl) ?_
  | refine qr (fun h => ?_) (fun h => ?_)
  | refine qu (fun h => ?_) (fun h => ?_)
  | refine qj (fun h => ?_) (fun h => ?_)
  | refine zd env rfl rfl (q4 ?_)
  | refine zm env rfl (q4 ?_)
 all_goals refine wy ?_
 all_goals (first | (simp_all; done) | (exfalso; simp_all [kf _ _ hm]))
theorem qy7 (n : Node) (kn : known n.kind = true) :
 (decide (n.kind = 17) = true ∧ kp n.text.data.toList = false ∧ Wx n = false) ∨ (decide (n.kind = 17) = false ∧ qcc n = true ∧ Qj n.text.data.toList = false ∧ Wx n = false) ∨
 (Wx n = true ∧ ((decide (n.kind = 17) = true ∧ kp n.text.data.toList = true) ∨ (decide (n.kind = 17) = false ∧ qcc n = false) ∨ (decide (n.kind = 17) = false ∧ qcc n = true ∧ Qj n.text.data.toList = true))) := by
 rw [qzl n kn]
 generalize decide (n.kind = 17) = b1
 cases b1 <;> cases kp n.text.data.toList <;> cases qcc n <;> cases Qj n.text.data.toList <;> simp
theorem qy8 (n : Node) :
 (decide (0 < ((n.gaps.map sc).length : Int)) = true ∧ decide (((n.gaps.map sc).length : Int) = own n) = false ∧ qgj n = false) ∨
 ((decide (0 < ((n.gaps.map sc).length : Int)) = false ∨ (decide (0 < ((n.gaps.map sc).length : Int)) = true ∧ decide (((n.gaps.map sc).length : Int) = own n) = true)) ∧ qgj n = qc8 n) := by
 rw [q3b, List.length_map]
 cases decide (0 < (n.gaps.length : Int)) <;> cases decide ((n.gaps.length : Int) = own n) <;> simp
set_option maxHeartbeats 4000000 in
/-- R7.node -/
theorem q3p (n : Node) (hk : n.kids.length ≤ 9223372036854775807) (hg : n.gaps.length ≤ 9223372036854775807) (hs : ∀ g ∈ n.gaps, g.size ≤ 9223372036854775807) : Fn Tryz.prog G 137 [.agg (zf n)] (.int .i64 (wn n)) := by
 cases k0 : Qz n
 case false =>
  rw [show wn n = 7 by simp [wn, k0]]
  refine zk (T := tt) (N := 57) (rs := [.tmp 2]) (fun vs w => by simp) Tryz.func137 rfl rfl rfl rfl (by kernel_rfl) (zl rfl) (qz _ rfl) ?_
  repeat' first
   | refine ji env rfl ?_
   | (refine qe ?_ ?_; (· simp only [k0, Bool.not_true, Bool.not_false]))
   | (refine qf ?_ ?_; (· simp only [k0, Bool.not_true, Bool.not_false]))
   | (refine qh ?_ ?_; (· simp only [k0, Bool.not_true, Bool.not_false]))
   | (refine qg ?_ ?_; (· simp only [k0, Bool.not_true, Bool.not_false]))
   | (refine qo ?_ ?_; (· simp only [k0, Bool.not_true, Bool.not_false]))
   | (refine qp ?_ ?_; (· simp only [k0, Bool.not_true, Bool.not_false]))
   | refine ql (qgu n hk) ?_
   | refine qr (fun h => ?_) (fun h => ?_)
   | refine qu (fun h => ?_) (fun h => ?_)
   | refine qj (fun h => ?_) (fun h => ?_)
   | refine zd env rfl rfl (q4 ?_)
   | refine zm env rfl (q4 ?_)
  all_goals rfl
 have kn : known n.kind = true := by simp only [Qz, Bool.and_eq_true] at k0; exact k0.1.1.1
 rcases qy7 n kn with ⟨a1, a2, hc⟩ | ⟨a1, a3, a4, hc⟩ | ⟨hc, hn⟩
 case inl =>
  rw [show wn n = 4 by simp [wn, k0, hc]]
  refine zk (T := tt) (N := 57) (rs := [.tmp 2]) (fun vs w => by simp) Tryz.func137 rfl rfl rfl rfl (by kernel_rfl) (zl rfl) (qz _ rfl) ?_
  repeat' first
   | refine ji env rfl ?_
   | (refine qe ?_ ?_; (· simp only [k0, Bool.not_true, Bool.not_false]))
   | (refine qf ?_ ?_; (· simp only [k0, Bool.not_true, Bool.not_false]))
   | (refine qh ?_ ?_; (· simp only [k0, Bool.not_true, Bool.not_false]))
   | (refine qg ?_ ?_; (· simp only [k0, Bool.not_true, Bool.not_false]))
   | (refine qo ?_ ?_; (· simp only [k0, Bool.not_true, Bool.not_false]))
   | (refine qp ?_ ?_; (· simp only [k0, Bool.not_true, Bool.not_false]))
   | (refine qe ?_ ?_; (· simp only [a1, Bool.not_true, Bool.not_false]))
   | (refine qf ?_ ?_; (· simp only [a1, Bool.not_true, Bool.not_false]))
   | (refine qh ?_ ?_; (· simp only [a1, Bool.not_true, Bool.not_false]))
   | (refine qg ?_ ?_; (· simp only [a1, Bool.not_true, Bool.not_false]))
   | (refine qo ?_ ?_; (· simp only [a1, Bool.not_true, Bool.not_false]))
   | (refine qp ?_ ?_; (· simp only [a1, Bool.not_true, Bool.not_false]))
   | (refine qe ?_ ?_; (· simp only [a2, Bool.not_true, Bool.not_false]))
   | (refine qf ?_ ?_; (· simp only [a2, Bool.not_true, Bool.not_false]))
   | (refine qh ?_ ?_; (· simp only [a2, Bool.not_true, Bool.not_false]))
   | (refine qg ?_ ?_; (· simp only [a2, Bool.not_true, Bool.not_false]))
   | (refine qo ?_ ?_; (· simp only [a2, Bool.not_true, Bool.not_false]))
   | (refine qp ?_ ?_; (· simp only [a2, Bool.not_true, Bool.not_false]))
   | (refine qe ?_ ?_; (· simp only [a3, Bool.not_true, Bool.not_false]))
   | (refine qf ?_ ?_; (· simp only [a3, Bool.not_true, Bool.not_false]))
   | (refine qh ?_ ?_; (· simp only [a3, Bool.not_true, Bool.not_false]))
   | (refine qg ?_ ?_; (· simp only [a3, Bool.not_true, Bool.not_false]))
   | (refine qo ?_ ?_; (· simp only [a3, Bool.not_true, Bool.not_false]))
   | (refine qp ?_ ?_; (· simp only [a3, Bool.not_true, Bool.not_false]))
   | (refine qe ?_ ?_; (· simp only [a4, Bool.not_true, Bool.not_false]))
   | (refine qf ?_ ?_; (· simp only [a4, Bool.not_true, Bool.not_false]))
   | (refine qh ?_ ?_; (· simp only [a4, Bool.not_true, Bool.not_false]))
   | (refine qg ?_ ?_; (· simp only [a4, Bool.not_true, Bool.not_false]))
   | (refine qo ?_ ?_; (· simp only [a4, Bool.not_true, Bool.not_false]))
   | (refine qp ?_ ?_; (· simp only [a4, Bool.not_true, Bool.not_false]))
   | refine ql (qgu n hk) ?_
   | refine ql (qfe _) ?_
   | refine ql (qgv _) ?_
   | refine ql (qgw _) ?_
   | refine ql (qsb n hk) ?_
   | refine ql (qj0 _ (hs _ (qjm hm))) ?_
   | refine qr (fun h => ?_) (fun h => ?_)
   | refine qu (fun h => ?_) (fun h => ?_)
   | refine qj (fun h => ?_) (fun h => ?_)
   | refine zd env rfl rfl (q4 ?_)
   | refine zm env rfl (q4 ?_)
  all_goals rfl
 case inr.inl =>
  rw [show wn n = 4 by simp [wn, k0, hc]]
  refine zk (T := tt) (N := 57) (rs := [.tmp 2]) (fun vs w => by simp) Tryz.func137 rfl rfl rfl rfl (by kernel_rfl) (zl rfl) (qz _ rfl) ?_
  repeat' first
   | refine ji env rfl ?_
   | (refine qe ?_ ?_; (· simp only [k0, Bool.not_true, Bool.not_false]))
   | (refine qf ?_ ?_; (· simp only [k0, Bool.not_true, Bool.not_false]))
   | (refine qh ?_ ?_; (· simp only [k0, Bool.not_true, Bool.not_false]))
   | (refine qg ?_ ?_; (· simp only [k0, Bool.not_true, Bool.not_false]))
   | (refine qo ?_ ?_; (· simp only [k0, Bool.not_true, Bool.not_false]))
   | (refine qp ?_ ?_; (· simp only [k0, Bool.not_true, Bool.not_false]))
   | (refine qe ?_ ?_; (· simp only [a1, Bool.not_true, Bool.not_false]))
   | (refine qf ?_ ?_; (· simp only [a1, Bool.not_true, Bool.not_false]))
   | (refine qh ?_ ?_; (· simp only [a1, Bool.not_true, Bool.not_false]))
   | (refine qg ?_ ?_; (· simp only [a1, Bool.not_true, Bool.not_false]))
   | (refine qo ?_ ?_; (· simp only [a1, Bool.not_true, Bool.not_false]))
   | (refine qp ?_ ?_; (· simp only [a1, Bool.not_true, Bool.not_false]))
   | (refine qe ?_ ?_; (· simp only [a2, Bool.not_true, Bool.not_false]))
   | (refine qf ?_ ?_; (· simp only [a2, Bool.not_true, Bool.not_false]))
   | (refine qh ?_ ?_; (· simp only [a2, Bool.not_true, Bool.not_false]))
   | (refine qg ?_ ?_; (· simp only [a2, Bool.not_true, Bool.not_false]))
   | (refine qo ?_ ?_; (· simp only [a2, Bool.not_true, Bool.not_false]))
   | (refine qp ?_ ?_; (· simp only [a2, Bool.not_true, Bool.not_false]))
   | (refine qe ?_ ?_; (· simp only [a3, Bool.not_true, Bool.not_false]))
   | (refine qf ?_ ?_; (· simp only [a3, Bool.not_true, Bool.not_false]))
   | (refine qh ?_ ?_; (· simp only [a3, Bool.not_true, Bool.not_false]))
   | (refine qg ?_ ?_; (· simp only [a3, Bool.not_true, Bool.not_false]))
   | (refine qo ?_ ?_; (· simp only [a3, Bool.not_true, Bool.not_false]))
   | (refine qp ?_ ?_; (· simp only [a3, Bool.not_true, Bool.not_false]))
   | (refine qe ?_ ?_; (· simp only [a4, Bool.not_true, Bool.not_false]))
   | (refine qf ?_ ?_; (· simp only [a4, Bool.not_true, Bool.not_false]))
   | (refine qh ?_ ?_; (· simp only [a4, Bool.not_true, Bool.not_false]))
   | (refine qg ?_ ?_; (· simp only [a4, Bool.not_true, Bool.not_false]))
   | (refine qo ?_ ?_; (· simp only [a4, Bool.not_true, Bool.not_false]))
   | (refine qp ?_ ?_; (· simp only [a4, Bool.not_true, Bool.not_false]))
   | refine ql (qgu n hk) ?_
   | refine ql (qfe _) ?_
   | refine ql (qgv _) ?_
   | refine ql (qgw _) ?_
   | refine ql (qsb n hk) ?_
   | refine ql (qj0 _ (hs _ (qjm hm))) ?_
   | refine qr (fun h => ?_) (fun h => ?_)
   | refine qu (fun h => ?_) (fun h => ?_)
   | refine qj (fun h => ?_) (fun h => ?_)
   | refine zd env rfl rfl (q4 ?_)
   | refine zm env rfl (q4 ?_)
  all_goals rfl
 rcases qy8 n with ⟨g1, g2, hgo⟩ | ⟨hgs, hgo⟩
 case inl =>
  rw [show wn n = 7 by simp [wn, k0, hc, hgo]]
  rcases hn with ⟨a1, a2⟩ | ⟨a1, a3⟩ | ⟨a1, a3, a4⟩
  all_goals
   refine zk (T := tt) (N := 57) (rs := [.tmp 2]) (fun vs w => by simp) Tryz.func137 rfl rfl rfl rfl (by kernel_rfl) (zl rfl) (qz _ rfl) ?_
   repeat' first
    | refine ji env rfl ?_
    | (refine qe ?_ ?_; (· simp only [k0, Bool.not_true, Bool.not_false]))
    | (refine qf ?_ ?_; (· simp only [k0, Bool.not_true, Bool.not_false]))
    | (refine qh ?_ ?_; (· simp only [k0, Bool.not_true, Bool.not_false]))
    | (refine qg ?_ ?_; (· simp only [k0, Bool.not_true, Bool.not_false]))
    | (refine qo ?_ ?_; (· simp only [k0, Bool.not_true, Bool.not_false]))
    | (refine qp ?_ ?_; (· simp only [k0, Bool.not_true, Bool.not_false]))
    | (refine qe ?_ ?_; (· simp only [a1, Bool.not_true, Bool.not_false]))
    | (refine qf ?_ ?_; (· simp only [a1, Bool.not_true, Bool.not_false]))
    | (refine qh ?_ ?_; (· simp only [a1, Bool.not_true, Bool.not_false]))
    | (refine qg ?_ ?_; (· simp only [a1, Bool.not_true, Bool.not_false]))
    | (refine qo ?_ ?_; (· simp only [a1, Bool.not_true, Bool.not_false]))
    | (refine qp ?_ ?_; (· simp only [a1, Bool.not_true, Bool.not_false]))
    | (refine qe ?_ ?_; (· simp only [a2, Bool.not_true, Bool.not_false]))
    | (refine qf ?_ ?_; (· simp only [a2, Bool.not_true, Bool.not_false]))
    | (refine qh ?_ ?_; (· simp only [a2, Bool.not_true, Bool.not_false]))
    | (refine qg ?_ ?_; (· simp only [a2, Bool.not_true, Bool.not_false]))
    | (refine qo ?_ ?_; (· simp only [a2, Bool.not_true, Bool.not_false]))
    | (refine qp ?_ ?_; (· simp only [a2, Bool.not_true, Bool.not_false]))
    | (refine qe ?_ ?_; (· simp only [a3, Bool.not_true, Bool.not_false]))
    | (refine qf ?_ ?_; (· simp only [a3, Bool.not_true, Bool.not_false]))
    | (refine qh ?_ ?_; (· simp only [a3, Bool.not_true, Bool.not_false]))
    | (refine qg ?_ ?_; (· simp only [a3, Bool.not_true, Bool.not_false]))
    | (refine qo ?_ ?_; (· simp only [a3, Bool.not_true, Bool.not_false]))
    | (refine qp ?_ ?_; (· simp only [a3, Bool.not_true, Bool.not_false]))
    | (refine qe ?_ ?_; (· simp only [a4, Bool.not_true, Bool.not_false]))
    | (refine qf ?_ ?_; (· simp only [a4, Bool.not_true, Bool.not_false]))
    | (refine qh ?_ ?_; (· simp only [a4, Bool.not_true, Bool.not_false]))
    | (refine qg ?_ ?_; (· simp only [a4, Bool.not_true, Bool.not_false]))
    | (refine qo ?_ ?_; (· simp only [a4, Bool.not_true, Bool.not_false]))
    | (refine qp ?_ ?_; (· simp only [a4, Bool.not_true, Bool.not_false]))
    | (refine qe ?_ ?_; (· simp only [g1, Bool.not_true, Bool.not_false]))
    | (refine qf ?_ ?_; (· simp only [g1, Bool.not_true, Bool.not_false]))
    | (refine qh ?_ ?_; (· simp only [g1, Bool.not_true, Bool.not_false]))
    | (refine qg ?_ ?_; (· simp only [g1, Bool.not_true, Bool.not_false]))
    | (refine qo ?_ ?_; (· simp only [g1, Bool.not_true, Bool.not_false]))
    | (refine qp ?_ ?_; (· simp only [g1, Bool.not_true, Bool.not_false]))
    | (refine qe ?_ ?_; (· simp only [g2, Bool.not_true, Bool.not_false]))
    | (refine qf ?_ ?_; (· simp only [g2, Bool.not_true, Bool.not_false]))
    | (refine qh ?_ ?_; (· simp only [g2, Bool.not_true, Bool.not_false]))
    | (refine qg ?_ ?_; (· simp only [g2, Bool.not_true, Bool.not_false]))
    | (refine qo ?_ ?_; (· simp only [g2, Bool.not_true, Bool.not_false]))
    | (refine qp ?_ ?_; (· simp only [g2, Bool.not_true, Bool.not_false]))
    | refine ql (qgu n hk) ?_
    | refine ql (qfe _) ?_
    | refine ql (qgv _) ?_
    | refine ql (qgw _) ?_
    | refine ql (qsb n hk) ?_
    | refine ql (qj0 _ (hs _ (qjm hm))) ?_
    | refine qr (fun h => ?_) (fun h => ?_)
    | refine qu (fun h => ?_) (fun h => ?_)
    | refine qj (fun h => ?_) (fun h => ?_)
    | refine zd env rfl rfl (q4 ?_)
    | refine zm env rfl (q4 ?_)
   all_goals rfl
 rw [show wn n = if qc8 n = false then 7 else 0 by simp [wn, k0, hc, hgo]]
 unfold qc8
 rcases hn with ⟨a1, a2⟩ | ⟨a1, a3⟩ | ⟨a1, a3, a4⟩ <;> rcases hgs with g1 | ⟨g1, g2⟩
 all_goals
  refine zk (T := tt) (N := 57) (rs := [.tmp 2]) (fun vs w => by simp) Tryz.func137 rfl rfl rfl rfl (by kernel_rfl) (zl rfl) (qz _ rfl) ?_
  repeat' first
   | refine ji env rfl ?_
   | (refine Jy (α := Nat) (fun i => i ≤ (n.gaps).length ∧ Qc (fun _ g => Zd g) 0 (n.gaps) = Qc (fun _ g => Zd g) i ((n.gaps).drop i)) (fun i => (n.gaps).length - i) (fun i => [(3, .int .i64 i)]) (fun _ => []) (0) (fun _ => rfl) (fun _ => rfl) (⟨Nat.zero_le _, rfl⟩) ?_ ?_ (fun i hJ => ?_); (· simp [leFT, leV, leOs, leO, leC, rho, AV.ren, AV.ren1, AV.un, AV.un1, AV.closed]); (· simp [leFT, leV, leOs, leO, leC, rho, AV.ren, AV.ren1, AV.un, AV.un1, AV.closed]); rcases qgt (fun _ g => Zd g) (n.gaps) (sc) i hg hJ with ⟨m, hm, hlt, hb, hw, he⟩ | ⟨hb, he⟩)
   | refine Jx rfl ?_
   | refine Zh rfl rfl ?_
   | (refine Jg (i + 1) ?_ ?_ ?_ ?_; (· exact ⟨by omega, by simp_all⟩); (· omega); (· (simp only [hw]; simp [leFT, leV, leOs, leO, leC, rho, AV.ren, AV.ren1, AV.un, AV.un1, AV.closed])); (· simp [leFT, leV, leOs, leO, leC, rho, AV.ren, AV.ren1, AV.un, AV.un1, AV.closed]))
   | refine qai env rfl rfl rfl rfl rfl (q1q hm) ?_
   | (refine qe ?_ ?_; (· simp only [k0, Bool.not_true, Bool.not_false]))
   | (refine qf ?_ ?_; (· simp only [k0, Bool.not_true, Bool.not_false]))
   | (refine qh ?_ ?_; (· simp only [k0, Bool.not_true, Bool.not_false]))
   | (refine qg ?_ ?_; (· simp only [k0, Bool.not_true, Bool.not_false]))
   | (refine qo ?_ ?_; (· simp only [k0, Bool.not_true, Bool.not_false]))
   | (refine qp ?_ ?_; (· simp only [k0, Bool.not_true, Bool.not_false]))
   | (refine qe ?_ ?_; (· simp only [a1, Bool.not_true, Bool.not_false]))
   | (refine qf ?_ ?_; (· simp only [a1, Bool.not_true, Bool.not_false]))
   | (refine qh ?_ ?_; (· simp only [a1, Bool.not_true, Bool.not_false]))
   | (refine qg ?_ ?_; (· simp only [a1, Bool.not_true, Bool.not_false]))
   | (refine qo ?_ ?_; (· simp only [a1, Bool.not_true, Bool.not_false]))
   | (refine qp ?_ ?_; (· simp only [a1, Bool.not_true, Bool.not_false]))
   | (refine qe ?_ ?_; (· simp only [a2, Bool.not_true, Bool.not_false]))
   | (refine qf ?_ ?_; (· simp only [a2, Bool.not_true, Bool.not_false]))
   | (refine qh ?_ ?_; (· simp only [a2, Bool.not_true, Bool.not_false]))
   | (refine qg ?_ ?_; (· simp only [a2, Bool.not_true, Bool.not_false]))
   | (refine qo ?_ ?_; (· simp only [a2, Bool.not_true, Bool.not_false]))
   | (refine qp ?_ ?_; (· simp only [a2, Bool.not_true, Bool.not_false]))
   | (refine qe ?_ ?_; (· simp only [a3, Bool.not_true, Bool.not_false]))
   | (refine qf ?_ ?_; (· simp only [a3, Bool.not_true, Bool.not_false]))
   | (refine qh ?_ ?_; (· simp only [a3, Bool.not_true, Bool.not_false]))
   | (refine qg ?_ ?_; (· simp only [a3, Bool.not_true, Bool.not_false]))
   | (refine qo ?_ ?_; (· simp only [a3, Bool.not_true, Bool.not_false]))
   | (refine qp ?_ ?_; (· simp only [a3, Bool.not_true, Bool.not_false]))
   | (refine qe ?_ ?_; (· simp only [a4, Bool.not_true, Bool.not_false]))
   | (refine qf ?_ ?_; (· simp only [a4, Bool.not_true, Bool.not_false]))
   | (refine qh ?_ ?_; (· simp only [a4, Bool.not_true, Bool.not_false]))
   | (refine qg ?_ ?_; (· simp only [a4, Bool.not_true, Bool.not_false]))
   | (refine qo ?_ ?_; (· simp only [a4, Bool.not_true, Bool.not_false]))
   | (refine qp ?_ ?_; (· simp only [a4, Bool.not_true, Bool.not_false]))
   | (refine qe ?_ ?_; (· simp only [g1, Bool.not_true, Bool.not_false]))
   | (refine qf ?_ ?_; (· simp only [g1, Bool.not_true, Bool.not_false]))
   | (refine qh ?_ ?_; (· simp only [g1, Bool.not_true, Bool.not_false]))
   | (refine qg ?_ ?_; (· simp only [g1, Bool.not_true, Bool.not_false]))
   | (refine qo ?_ ?_; (· simp only [g1, Bool.not_true, Bool.not_false]))
   | (refine qp ?_ ?_; (· simp only [g1, Bool.not_true, Bool.not_false]))
   | (refine qe ?_ ?_; (· simp only [g2, Bool.not_true, Bool.not_false]))
   | (refine qf ?_ ?_; (· simp only [g2, Bool.not_true, Bool.not_false]))
   | (refine qh ?_ ?_; (· simp only [g2, Bool.not_true, Bool.not_false]))
   | (refine qg ?_ ?_; (· simp only [g2, Bool.not_true, Bool.not_false]))
   | (refine qo ?_ ?_; (· simp only [g2, Bool.not_true, Bool.not_false]))
   | (refine qp ?_ ?_; (· simp only [g2, Bool.not_true, Bool.not_false]))
   | (refine qe ?_ ?_; (· simp only [hb, Bool.not_true, Bool.not_false]))
   | (refine qf ?_ ?_; (· simp only [hb, Bool.not_true, Bool.not_false]))
   | (refine qh ?_ ?_; (· simp only [hb, Bool.not_true, Bool.not_false]))
   | (refine qg ?_ ?_; (· simp only [hb, Bool.not_true, Bool.not_false]))
   | (refine qo ?_ ?_; (· simp only [hb, Bool.not_true, Bool.not_false]))
   | (refine qp ?_ ?_; (· simp only [hb, Bool.not_true, Bool.not_false]))
   | refine ql (qgu n hk) ?_
   | refine ql (qfe _) ?_
   | refine ql (qgv _) ?_
   | refine ql (qgw _) ?_
   | refine ql (qsb n hk) ?_
   | refine ql (qj0 _ (hs _ (qjm hm))) ?_
   | refine qr (fun h => ?_) (fun h => ?_)
   | refine qu (fun h => ?_) (fun h => ?_)
   | refine qj (fun h => ?_) (fun h => ?_)
   | refine zd env rfl rfl (q4 ?_)
   | refine zm env rfl (q4 ?_)
  all_goals refine Jt ?_
  all_goals rw [he]
  all_goals (first | rfl | simp_all)
theorem qtc (n : Node) (i : Nat) (e : Int) (hl : n.kids.length ≤ 9223372036854775807) (hJ : i ≤ n.kids.length ∧ w0 n = if e = 0 then wx (n.kids.drop i) else e) :
 (decide ((i : Int) < ((n.kids.map Node.cells).length : Int)) = true ∧ decide (e = 0) = false ∧ w0 n = e) ∨
 (∃ m, n.kids[i]? = some m ∧ m ∈ n.kids ∧ i < n.kids.length ∧ decide ((i : Int) < ((n.kids.map Node.cells).length : Int)) = true ∧ decide (e = 0) = true ∧ IntKind.i64.wrap ((i : Int) + 1) = ((i + 1 : Nat) : Int) ∧
   w0 n = if w0 m = 0 then wx (n.kids.drop (i + 1)) else w0 m) ∨
 (decide ((i : Int) < ((n.kids.map Node.cells).length : Int)) = false ∧ w0 n = e) := by
 obtain ⟨h1, h2⟩ := hJ
 rcases Nat.lt_or_ge i n.kids.length with h | h
 ·have hd : decide ((i : Int) < ((n.kids.map Node.cells).length : Int)) = true := by simpa using h
  by_cases he : e = 0
  ·refine .inr (.inl ⟨n.kids[i], List.getElem?_eq_getElem h, List.getElem_mem h, h, hd, decide_eq_true he, j6 (by omega) (by omega), ?_⟩)
   rw [h2, if_pos he, List.drop_eq_getElem_cons h, wx]
  ·exact .inl ⟨hd, decide_eq_false he, by rw [h2, if_neg he]⟩
 ·refine .inr (.inr ⟨by simpa using h, ?_⟩)
  rw [h2, List.drop_of_length_le h, wx]
  split <;> omega
set_option maxHeartbeats 4000000 in
/-- R7.first -/
theorem q2b : ∀ n : Node, Wf n → Fn Tryz.prog G 104 [.agg (zf n)] (.int .i64 (w0 n)) := by
 intro n hwf
 induction hwf with | mk n hk hg ht hs _ ih => ?_
 refine zk (T := tt) (N := 25) (rs := [.tmp 2]) (fun vs w => by simp) Tryz.func104 rfl rfl rfl rfl (by kernel_rfl) (zl rfl) (qz _ rfl) ?_
 repeat' first
  | refine ji env rfl ?_
  | (refine Jy (α := Nat × Int) (fun a => a.1 ≤ n.kids.length ∧ w0 n = if a.2 = 0 then wx (n.kids.drop a.1) else a.2) (fun a => n.kids.length - a.1) (fun a => [(4, .int .i64 a.1), (3, .int .i64 a.2)]) (fun _ => []) ((0, wn n)) (fun _ => rfl) (fun _ => rfl) (⟨Nat.zero_le _, by rw [Jq]; rfl⟩) ?_ ?_ (fun ⟨i, e⟩ hJ => ?_); (· simp [leFT, leV, leOs, leO, leC, rho, AV.ren, AV.ren1, AV.un, AV.un1, AV.closed]); (· simp [leFT, leV, leOs, leO, leC, rho, AV.ren, AV.ren1, AV.un, AV.un1, AV.closed]); rcases qtc n i e hk hJ with ⟨hb, g1, he⟩ | ⟨m, hm, hmem, hlt, hb, g1, hw, he⟩ | ⟨hb, he⟩)
  | refine Jx rfl ?_
  | refine Zh rfl rfl ?_
  | (refine Jg ((i + 1, w0 m)) ?_ ?_ ?_ ?_; (· exact ⟨by show i + 1 ≤ n.kids.length; omega, he⟩); (· (show n.kids.length - (i + 1) < n.kids.length - i; omega)); (· (simp only [hw]; simp [leFT, leV, leOs, leO, leC, rho, AV.ren, AV.ren1, AV.un, AV.un1, AV.closed])); (· simp [leFT, leV, leOs, leO, leC, rho, AV.ren, AV.ren1, AV.un, AV.un1, AV.closed]))
  | refine qai env rfl rfl rfl rfl rfl (qan hm) ?_
  | (refine qe ?_ ?_; (· simp only [hb, Bool.not_true, Bool.not_false]))
  | (refine qf ?_ ?_; (· simp only [hb, Bool.not_true, Bool.not_false]))
  | (refine qh ?_ ?_; (· simp only [hb, Bool.not_true, Bool.not_false]))
  | (refine qg ?_ ?_; (· simp only [hb, Bool.not_true, Bool.not_false]))
  | (refine qo ?_ ?_; (· simp only [hb, Bool.not_true, Bool.not_false]))
  | (refine qp ?_ ?_; (· simp only [hb, Bool.not_true, Bool.not_false]))
  | (refine qe ?_ ?_; (· simp only [g1, Bool.not_true, Bool.not_false]))
  | (refine qf ?_ ?_; (· simp only [g1, Bool.not_true, Bool.not_false]))
  | (refine qh ?_ ?_; (· simp only [g1, Bool.not_true, Bool.not_false]))
  | (refine qg ?_ ?_; (· simp only [g1, Bool.not_true, Bool.not_false]))
  | (refine qo ?_ ?_; (· simp only [g1, Bool.not_true, Bool.not_false]))
  | (refine qp ?_ ?_; (· simp only [g1, Bool.not_true, Bool.not_false]))
  | refine ql (q3p n hk hg hs) ?_
  | refine ql (ih m hmem) ?_
  | refine qr (fun h => ?_) (fun h => ?_)
  | refine qu (fun h => ?_) (fun h => ?_)
  | refine qj (fun h => ?_) (fun h => ?_)
  | refine zd env rfl rfl (q4 ?_)
  | refine zm env rfl (q4 ?_)
 all_goals refine Jt ?_
 all_goals rw [he]
def ub (o : Option Nat) (k : Int) : Int := match o with
 | some s => if k + s ≤ 4001 then k + s else 4001
 | none => 4001
theorem qkh {o : Option Nat} {k : Int} (h : 4001 ≤ k) : ub o k = 4001 := by
 unfold ub; split
 ·split <;> omega
 ·rfl
theorem qyz (o : Option Nat) (k : Int) (h0 : 0 ≤ k) (h : k ≤ 4001) : 0 ≤ ub o k ∧ ub o k ≤ 4001 := by
 unfold ub; split
 ·split <;> omega
 ·omega
theorem qvu (m : Node) (l : List Node) (d : Nat) (k : Int) (h0 : 0 ≤ k) : ub (sizeL? (m :: l) d) k = ub (sizeL? l d) (k + ub (size? m d) 0) := by
 rw [qna]
 cases ha : size? m d with
 | none => rw [qkh (k := k + ub none 0) (by simp [ub]; omega)]; rfl
 | some a =>
   by_cases hl : (a : Int) ≤ 4001
   ·have e : ub (some a) 0 = a := by simp only [ub]; rw [if_pos (by omega)]; omega
    rw [e]
    cases hb : sizeL? l d with
    | none => rfl
    | some b =>
      simp only [ub]
      by_cases h2 : k + (a : Int) + b ≤ 4001
      ·rw [if_pos (by omega), if_pos h2]; omega
      ·rw [if_neg (by omega), if_neg h2]
   ·have e : ub (some a) 0 = 4001 := by simp only [ub]; rw [if_neg (by omega)]
    rw [e, qkh (k := k + 4001) (by omega)]
    cases hb : sizeL? l d with
    | none => rfl
    | some b => simp only [ub]; rw [if_neg (by omega)]
theorem qvt (n : Node) (d : Nat) : ub (size? n (d + 1)) 0 = if most n.kind < (n.kids.length : Int) then 4001 else ub (sizeL? n.kids d) 1 := by
 rw [qp5]
 split
 ·rfl
 ·cases hb : sizeL? n.kids d with
  | none => rfl
  | some b =>
    simp only [Option.map_some, ub]
    by_cases h : (1 : Int) + b ≤ 4001
    ·rw [if_pos (by omega), if_pos h]; omega
    ·rw [if_neg (by omega), if_neg h]
theorem qyy (l : List Node) (d i : Nat) (k : Int) (hl : l.length ≤ 9223372036854775807) (hJ : i ≤ l.length ∧ 0 ≤ k ∧ k ≤ 8001 ∧ ub (sizeL? l d) 1 = ub (sizeL? (l.drop i) d) k) :
 (decide ((i : Int) < ((l.map Node.cells).length : Int)) = true ∧ decide (k ≤ 4000) = false ∧ (if 4001 < k then (4001 : Int) else k) = ub (sizeL? l d) 1) ∨
 (∃ m, l[i]? = some m ∧ m ∈ l ∧ i < l.length ∧ decide ((i : Int) < ((l.map Node.cells).length : Int)) = true ∧ decide (k ≤ 4000) = true ∧ IntKind.i64.wrap ((i : Int) + 1) = ((i + 1 : Nat) : Int) ∧ IntKind.i64.wrap (k + ub (size? m d) 0) = k + ub (size? m d) 0 ∧
   0 ≤ k + ub (size? m d) 0 ∧ k + ub (size? m d) 0 ≤ 8001 ∧ ub (sizeL? l d) 1 = ub (sizeL? (l.drop (i + 1)) d) (k + ub (size? m d) 0)) ∨
 (decide ((i : Int) < ((l.map Node.cells).length : Int)) = false ∧ (if 4001 < k then (4001 : Int) else k) = ub (sizeL? l d) 1) := by
 obtain ⟨h1, h2, h3, h4⟩ := hJ
 rcases Nat.lt_or_ge i l.length with h | h
 ·have hd : decide ((i : Int) < ((l.map Node.cells).length : Int)) = true := by simpa using h
  by_cases hk : k ≤ 4000
  ·have hr := qyz (size? l[i] d) 0 (by omega) (by omega)
   refine .inr (.inl ⟨l[i], List.getElem?_eq_getElem h, List.getElem_mem h, h, hd, decide_eq_true hk, j6 (by omega) (by omega), j6 (by omega) (by omega), by omega, by omega, ?_⟩)
   rw [h4, List.drop_eq_getElem_cons h, qvu _ _ _ _ h2]
  ·refine .inl ⟨hd, decide_eq_false hk, ?_⟩
   rw [h4, qkh (by omega)]
   split <;> omega
 ·refine .inr (.inr ⟨by simpa using h, ?_⟩)
  rw [h4, List.drop_of_length_le h]
  show _ = ub (some 0) k
  simp only [ub]
  split <;> split <;> omega
set_option maxHeartbeats 4000000 in
/-- R7.size -/
theorem q3o : ∀ n : Node, Wf n → ∀ (d : Nat) (lev : Int), lev + d = 61 → -9223372036854775808 ≤ lev → lev ≤ 9223372036854775806 →
 Fn Tryz.prog G 103 [.agg (zf n), .int .i64 lev] (.int .i64 (ub (size? n d) 0)) := by
 intro n hwf
 induction hwf with | mk n hk hg ht hs _ ih => ?_
 intro d lev hl hl0 hl1
 cases d with
 | zero =>
   have e1 : decide (60 < lev) = true := decide_eq_true (by omega)
   rw [qp4]
   refine zk (T := tt) (N := 41) (rs := [.tmp 4]) (fun vs w => by simp) Tryz.func103 rfl rfl rfl rfl (by kernel_rfl) (zl rfl) (qz _ rfl) ?_
   repeat' first
    | refine ji env rfl ?_
    | (refine qe ?_ ?_; (· simp only [e1, Bool.not_true, Bool.not_false]))
    | (refine qf ?_ ?_; (· simp only [e1, Bool.not_true, Bool.not_false]))
    | (refine qh ?_ ?_; (· simp only [e1, Bool.not_true, Bool.not_false]))
    | (refine qg ?_ ?_; (· simp only [e1, Bool.not_true, Bool.not_false]))
    | (refine qo ?_ ?_; (· simp only [e1, Bool.not_true, Bool.not_false]))
    | (refine qp ?_ ?_; (· simp only [e1, Bool.not_true, Bool.not_false]))
    | refine qr (fun h => ?_) (fun h => ?_)
    | refine qu (fun h => ?_) (fun h => ?_)
    | refine qj (fun h => ?_) (fun h => ?_)
    | refine zd env rfl rfl (q4 ?_)
    | refine zm env rfl (q4 ?_)
   all_goals rfl
 | succ d =>
   have e1 : decide (60 < lev) = false := decide_eq_false (by omega)
   rw [qvt]
   by_cases c3 : most n.kind < (n.kids.length : Int)
   case pos =>
    have e3 : decide (most n.kind < ((n.kids.map Node.cells).length : Int)) = true := by simpa using c3
    rw [if_pos c3]
    refine zk (T := tt) (N := 41) (rs := [.tmp 4]) (fun vs w => by simp) Tryz.func103 rfl rfl rfl rfl (by kernel_rfl) (zl rfl) (qz _ rfl) ?_
    repeat' first
     | refine ji env rfl ?_
     | (refine qe ?_ ?_; (· simp only [e1, Bool.not_true, Bool.not_false]))
     | (refine qf ?_ ?_; (· simp only [e1, Bool.not_true, Bool.not_false]))
     | (refine qh ?_ ?_; (· simp only [e1, Bool.not_true, Bool.not_false]))
     | (refine qg ?_ ?_; (· simp only [e1, Bool.not_true, Bool.not_false]))
     | (refine qo ?_ ?_; (· simp only [e1, Bool.not_true, Bool.not_false]))
     | (refine qp ?_ ?_; (· simp only [e1, Bool.not_true, Bool.not_false]))
     | (refine qe ?_ ?_; (· simp only [e3, Bool.not_true, Bool.not_false]))
     | (refine qf ?_ ?_; (· simp only [e3, Bool.not_true, Bool.not_false]))
     | (refine qh ?_ ?_; (· simp only [e3, Bool.not_true, Bool.not_false]))
     | (refine qg ?_ ?_; (· simp only [e3, Bool.not_true, Bool.not_false]))
     | (refine qo ?_ ?_; (· simp only [e3, Bool.not_true, Bool.not_false]))
     | (refine qp ?_ ?_; (· simp only [e3, Bool.not_true, Bool.not_false]))
     | refine ql (qx8 _) ?_
     | refine qr (fun h => ?_) (fun h => ?_)
     | refine qu (fun h => ?_) (fun h => ?_)
     | refine qj (fun h => ?_) (fun h => ?_)
     | refine zd env rfl rfl (q4 ?_)
     | refine zm env rfl (q4 ?_)
    all_goals rfl
   have e3 : decide (most n.kind < ((n.kids.map Node.cells).length : Int)) = false := by simpa using c3
   rw [if_neg c3]
   have w2 : IntKind.i64.wrap (lev + 1) = lev + 1 := j6 (by omega) (by omega)
   refine zk (T := tt) (N := 41) (rs := [.tmp 4]) (fun vs w => by simp) Tryz.func103 rfl rfl rfl rfl (by kernel_rfl) (zl rfl) (qz _ rfl) ?_
   repeat' first
    | refine ji env rfl ?_
    | (refine Jy (α := Nat × Int) (fun a => a.1 ≤ n.kids.length ∧ 0 ≤ a.2 ∧ a.2 ≤ 8001 ∧ ub (sizeL? n.kids d) 1 = ub (sizeL? (n.kids.drop a.1) d) a.2) (fun a => n.kids.length - a.1) (fun a => [(6, .int .i64 a.1), (5, .int .i64 a.2)]) (fun _ => []) ((0, 1)) (fun _ => rfl) (fun _ => rfl) (⟨Nat.zero_le _, by decide, by decide, rfl⟩) ?_ ?_ (fun ⟨i, k⟩ hJ => ?_); (· simp [leFT, leV, leOs, leO, leC, rho, AV.ren, AV.ren1, AV.un, AV.un1, AV.closed]); (· simp [leFT, leV, leOs, leO, leC, rho, AV.ren, AV.ren1, AV.un, AV.un1, AV.closed]); rcases qyy n.kids d i k hk hJ with ⟨hb, g1, he⟩ | ⟨m, hm, hmem, hlt, hb, g1, hw, hw2, p1, p2, he⟩ | ⟨hb, he⟩)
    | refine Jx rfl ?_
    | refine Zh rfl rfl ?_
    | (refine Jg ((i + 1, k + ub (size? m d) 0)) ?_ ?_ ?_ ?_; (· exact ⟨by show i + 1 ≤ n.kids.length; omega, p1, p2, he⟩); (· (show n.kids.length - (i + 1) < n.kids.length - i; omega)); (· (simp only [hw, hw2]; simp [leFT, leV, leOs, leO, leC, rho, AV.ren, AV.ren1, AV.un, AV.un1, AV.closed])); (· simp [leFT, leV, leOs, leO, leC, rho, AV.ren, AV.ren1, AV.un, AV.un1, AV.closed]))
    | refine qai env rfl rfl rfl rfl rfl (qan hm) ?_
    | refine ql (x := .int .i64 (ub (size? m d) 0)) (by rw [w2]; exact ih m hmem d (lev + 1) (by omega) (by omega) (by omega)) ?_
    | (refine qe ?_ ?_; (· simp only [e1, Bool.not_true, Bool.not_false]))
    | (refine qf ?_ ?_; (· simp only [e1, Bool.not_true, Bool.not_false]))
    | (refine qh ?_ ?_; (· simp only [e1, Bool.not_true, Bool.not_false]))
    | (refine qg ?_ ?_; (· simp only [e1, Bool.not_true, Bool.not_false]))
    | (refine qo ?_ ?_; (· simp only [e1, Bool.not_true, Bool.not_false]))
    | (refine qp ?_ ?_; (· simp only [e1, Bool.not_true, Bool.not_false]))
    | (refine qe ?_ ?_; (· simp only [e3, Bool.not_true, Bool.not_false]))
    | (refine qf ?_ ?_; (· simp only [e3, Bool.not_true, Bool.not_false]))
    | (refine qh ?_ ?_; (· simp only [e3, Bool.not_true, Bool.not_false]))
    | (refine qg ?_ ?_; (· simp only [e3, Bool.not_true, Bool.not_false]))
    | (refine qo ?_ ?_; (· simp only [e3, Bool.not_true, Bool.not_false]))
    | (refine qp ?_ ?_; (· simp only [e3, Bool.not_true, Bool.not_false]))
    | (refine qe ?_ ?_; (· simp only [hb, Bool.not_true, Bool.not_false]))
    | (refine qf ?_ ?_; (· simp only [hb, Bool.not_true, Bool.not_false]))
    | (refine qh ?_ ?_; (· simp only [hb, Bool.not_true, Bool.not_false]))
    | (refine qg ?_ ?_; (· simp only [hb, Bool.not_true, Bool.not_false]))
    | (refine qo ?_ ?_; (· simp only [hb, Bool.not_true, Bool.not_false]))
    | (refine qp ?_ ?_; (· simp only [hb, Bool.not_true, Bool.not_false]))
    | (refine qe ?_ ?_; (· simp only [g1, Bool.not_true, Bool.not_false]))
    | (refine qf ?_ ?_; (· simp only [g1, Bool.not_true, Bool.not_false]))
    | (refine qh ?_ ?_; (· simp only [g1, Bool.not_true, Bool.not_false]))
    | (refine qg ?_ ?_; (· simp only [g1, Bool.not_true, Bool.not_false]))
    | (refine qo ?_ ?_; (· simp only [g1, Bool.not_true, Bool.not_false]))
    | (refine qp ?_ ?_; (· simp only [g1, Bool.not_true, Bool.not_false]))
    | refine ql (qx8 _) ?_
    | refine qr (fun h => ?_) (fun h => ?_)
    | refine qu (fun h => ?_) (fun h => ?_)
    | refine qj (fun h => ?_) (fun h => ?_)
    | refine zd env rfl rfl (q4 ?_)
    | refine zm env rfl (q4 ?_)
   all_goals refine Jt ?_
   all_goals exact he
theorem qvj (o : Option Nat) : decide (j7 o 4000 < 0) = !(match o with | some k => decide (k ≤ 4000) | none => false) := by
 cases o with
 | none => rfl
 | some k =>
   by_cases h : k ≤ 4000
   ·have e : j7 (some k) 4000 = 4000 - (k : Int) := by simp only [j7]; rw [if_pos (by omega)]
    rw [e]; simp [h]; omega
   ·have e : j7 (some k) 4000 = -1 := by simp only [j7]; rw [if_neg (by omega)]
    rw [e]; simp [h]
theorem q0j (o : Option Nat) : decide (4000 < ub o 0) = !(match o with | some k => decide (k ≤ 4000) | none => false) := by
 cases o with
 | none => rfl
 | some k =>
   by_cases h : k ≤ 4000
   ·have e : ub (some k) 0 = (k : Int) := by simp only [ub]; rw [if_pos (by omega)]; omega
    rw [e]; simp [h]; omega
   ·by_cases h2 : k ≤ 4001
    ·have e : ub (some k) 0 = (k : Int) := by simp only [ub]; rw [if_pos (by omega)]; omega
     rw [e]; simp [h]; omega
    ·have e : ub (some k) 0 = 4001 := by simp only [ub]; rw [if_neg (by omega)]
     rw [e]; simp [h]
set_option maxHeartbeats 4000000 in
/-- Check -/
theorem qpl (n : Node) (hwf : Wf n) : Fn Tryz.prog G 18 [.agg (zf n)] (.int .i64 (Zg n)) := by
 have hl := qvj (size? n 60)
 have hc : Fn Tryz.prog G 39 [.agg (zf n), .int .i64 4000, .int .i64 60] (.int .i64 (j7 (size? n 60) 4000)) := (qn5 n hwf 4000 60 (by decide) (by decide) (by decide) (by decide))
 cases hb : decide (j7 (size? n 60) 4000 < 0)
 case true =>
  have e : Zg n = 3 := by
   rw [hb] at hl
   unfold Zg
   split at hl
   ·rename_i k hk; rw [hk]; simp only; rw [if_neg (by simpa using hl)]
   ·rename_i hk; rw [hk]
  rw [e]
  refine zk (T := tt) (N := 8) (rs := [.tmp 2]) (fun vs w => by simp) Tryz.func18 rfl rfl rfl rfl (by kernel_rfl) (zl rfl) (qz _ rfl) ?_
  repeat' first
   | refine ji env rfl ?_
   | (refine qe ?_ ?_; (· simp only [hb, Bool.not_true, Bool.not_false]))
   | (refine qf ?_ ?_; (· simp only [hb, Bool.not_true, Bool.not_false]))
   | (refine qh ?_ ?_; (· simp only [hb, Bool.not_true, Bool.not_false]))
   | (refine qg ?_ ?_; (· simp only [hb, Bool.not_true, Bool.not_false]))
   | (refine qo ?_ ?_; (· simp only [hb, Bool.not_true, Bool.not_false]))
   | (refine qp ?_ ?_; (· simp only [hb, Bool.not_true, Bool.not_false]))
   | refine ql (hc) ?_
   | refine qr (fun h => ?_) (fun h => ?_)
   | refine qu (fun h => ?_) (fun h => ?_)
   | refine qj (fun h => ?_) (fun h => ?_)
   | refine zd env rfl rfl (q4 ?_)
   | refine zm env rfl (q4 ?_)
  all_goals rfl
 have e : Zg n = w0 n := by
  rw [hb] at hl
  unfold Zg
  split at hl
  ·rename_i k hk; rw [hk]; simp only; rw [if_pos (by simpa using hl)]
  ·cases hl
 rw [e]
 refine zk (T := tt) (N := 8) (rs := [.tmp 2]) (fun vs w => by simp) Tryz.func18 rfl rfl rfl rfl (by kernel_rfl) (zl rfl) (qz _ rfl) ?_
 repeat' first
  | refine ji env rfl ?_
  | (refine qe ?_ ?_; (· simp only [hb, Bool.not_true, Bool.not_false]))
  | (refine qf ?_ ?_; (· simp only [hb, Bool.not_true, Bool.not_false]))
  | (refine qh ?_ ?_; (· simp only [hb, Bool.not_true, Bool.not_false]))
  | (refine qg ?_ ?_; (· simp only [hb, Bool.not_true, Bool.not_false]))
  | (refine qo ?_ ?_; (· simp only [hb, Bool.not_true, Bool.not_false]))
  | (refine qp ?_ ?_; (· simp only [hb, Bool.not_true, Bool.not_false]))
  | refine ql (hc) ?_
  | refine ql (qpk n hwf) ?_
  | refine qr (fun h => ?_) (fun h => ?_)
  | refine qu (fun h => ?_) (fun h => ?_)
  | refine qj (fun h => ?_) (fun h => ?_)
  | refine zd env rfl rfl (q4 ?_)
  | refine zm env rfl (q4 ?_)
 all_goals rfl
set_option maxHeartbeats 4000000 in
/-- Check -/
theorem q2c (n : Node) (hwf : Wf n) : Fn Tryz.prog G 63 [.agg (zf n)] (.int .i64 (Zg n)) := by
 have hl := q0j (size? n 60)
 have hc : Fn Tryz.prog G 103 [.agg (zf n), .int .i64 1] (.int .i64 (ub (size? n 60) 0)) := (q3o n hwf 60 1 (by decide) (by decide) (by decide))
 cases hb : decide (4000 < ub (size? n 60) 0)
 case true =>
  have e : Zg n = 3 := by
   rw [hb] at hl
   unfold Zg
   split at hl
   ·rename_i k hk; rw [hk]; simp only; rw [if_neg (by simpa using hl)]
   ·rename_i hk; rw [hk]
  rw [e]
  refine zk (T := tt) (N := 8) (rs := [.tmp 2]) (fun vs w => by simp) Tryz.func63 rfl rfl rfl rfl (by kernel_rfl) (zl rfl) (qz _ rfl) ?_
  repeat' first
   | refine ji env rfl ?_
   | (refine qe ?_ ?_; (· simp only [hb, Bool.not_true, Bool.not_false]))
   | (refine qf ?_ ?_; (· simp only [hb, Bool.not_true, Bool.not_false]))
   | (refine qh ?_ ?_; (· simp only [hb, Bool.not_true, Bool.not_false]))
   | (refine qg ?_ ?_; (· simp only [hb, Bool.not_true, Bool.not_false]))
   | (refine qo ?_ ?_; (· simp only [hb, Bool.not_true, Bool.not_false]))
   | (refine qp ?_ ?_; (· simp only [hb, Bool.not_true, Bool.not_false]))
   | refine ql (hc) ?_
   | refine qr (fun h => ?_) (fun h => ?_)
   | refine qu (fun h => ?_) (fun h => ?_)
   | refine qj (fun h => ?_) (fun h => ?_)
   | refine zd env rfl rfl (q4 ?_)
   | refine zm env rfl (q4 ?_)
  all_goals rfl
 have e : Zg n = w0 n := by
  rw [hb] at hl
  unfold Zg
  split at hl
  ·rename_i k hk; rw [hk]; simp only; rw [if_pos (by simpa using hl)]
  ·cases hl
 rw [e]
 refine zk (T := tt) (N := 8) (rs := [.tmp 2]) (fun vs w => by simp) Tryz.func63 rfl rfl rfl rfl (by kernel_rfl) (zl rfl) (qz _ rfl) ?_
 repeat' first
  | refine ji env rfl ?_
  | (refine qe ?_ ?_; (· simp only [hb, Bool.not_true, Bool.not_false]))
  | (refine qf ?_ ?_; (· simp only [hb, Bool.not_true, Bool.not_false]))
  | (refine qh ?_ ?_; (· simp only [hb, Bool.not_true, Bool.not_false]))
  | (refine qg ?_ ?_; (· simp only [hb, Bool.not_true, Bool.not_false]))
  | (refine qo ?_ ?_; (· simp only [hb, Bool.not_true, Bool.not_false]))
  | (refine qp ?_ ?_; (· simp only [hb, Bool.not_true, Bool.not_false]))
  | refine ql (hc) ?_
  | refine ql (q2b n hwf) ?_
  | refine qr (fun h => ?_) (fun h => ?_)
  | refine qu (fun h => ?_) (fun h => ?_)
  | refine qj (fun h => ?_) (fun h => ?_)
  | refine zd env rfl rfl (q4 ?_)
  | refine zm env rfl (q4 ?_)
 all_goals rfl
end Go.Proofs.YtigmilhpeodhbaaGreatDoorW.Ex.Gr
