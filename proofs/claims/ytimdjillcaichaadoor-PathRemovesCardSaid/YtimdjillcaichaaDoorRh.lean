/- The contracts of the statements about paths. Conditions: those of the trees and numbers that come in. -/
import Derived.Test.YtimdjillcaichaaDoorRg
namespace Go.Proofs.YtimdjillcaichaaDoorW.Ex.Gr
open Go Go.Proofs.YtimdjillcaichaaDoorW.Ex
set_option linter.all false
set_option maxRecDepth 100000
theorem int_top {a : Int} (h : (Lit.int .i64 a).wf = true) : a ≤ 9223372036854775807 := by
  simp only [Lit.wf, IntKind.min, IntKind.max, IntKind.signed, IntKind.bits, Bool.and_eq_true, decide_eq_true_eq, if_true] at h
  omega
theorem L10_PathIndexes (n0 : Node) (z0 : Sz n0) (i1 : Int) (w1 : (Lit.int .i64 i1).wf = true) : M_F_L10_PathIndexes n0 i1 true :=
  H_F_L10_PathIndexes n0 i1 true (P_PathIndexes n0 i1 z0 (int_top w1))
theorem L10_PathChanges (n0 : Node) (z0 : Sz n0) (p1 : List Int) (w1 : p1.length ≤ maxLen ∧ ∀ a ∈ p1, (Lit.int .i64 a).wf = true) (n2 : Node) (z2 : Sz n2) : M_F_L10_PathChanges n0 p1 n2 true :=
  H_F_L10_PathChanges n0 p1 n2 true (P_PathChanges n0 p1 n2 z0 z2 w1.1)
theorem L10_PathReplaces (n0 : Node) (z0 : Sz n0) (p1 : List Int) (w1 : p1.length ≤ maxLen ∧ ∀ a ∈ p1, (Lit.int .i64 a).wf = true) (n2 : Node) (z2 : Sz n2) (p3 : List Int) (w3 : p3.length ≤ maxLen ∧ ∀ a ∈ p3, (Lit.int .i64 a).wf = true) : M_F_L10_PathReplaces n0 p1 n2 p3 true :=
  H_F_L10_PathReplaces n0 p1 n2 p3 true (P_PathReplaces n0 p1 n2 p3 z0 z2 w1.1 w3.1)
theorem L10_PathBack (n0 : Node) (z0 : Sz n0) (i1 : Int) (w1 : (Lit.int .i64 i1).wf = true) (n2 : Node) (z2 : Sz n2) : M_F_L10_PathBack n0 i1 n2 true :=
  H_F_L10_PathBack n0 i1 n2 true (P_PathBack n0 i1 n2 z0 z2 (int_top w1))
theorem L10_PathRemoves (n0 : Node) (z0 : Sz n0) (p1 : List Int) (w1 : p1.length ≤ maxLen ∧ ∀ a ∈ p1, (Lit.int .i64 a).wf = true) (n2 : Node) (z2 : Sz n2) : M_F_L10_PathRemoves n0 p1 n2 true :=
  H_F_L10_PathRemoves n0 p1 n2 true (P_PathRemoves n0 p1 n2 z0 z2 w1.1)
end Go.Proofs.YtimdjillcaichaaDoorW.Ex.Gr
