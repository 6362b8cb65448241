/- The program's functions, printed as functions on numbers, strings, lists and trees, with the proofs that they are what the code computes. Conditions: those in each theorem. -/
import Derived.Test.YtimdjillcaichaaDoorQb
namespace Go.Proofs.YtimdjillcaichaaDoorW.Ex.Gr
open Go Go.Proofs.YtimdjillcaichaaDoorW.Ex
set_option linter.all false
set_option maxRecDepth 100000
mutual
def F_R10_put (a0 : Node) (a1 : (List Int)) (a2 : Node) : Option (Node) :=
  if (decide (((a1.map ic).length : Int) = (0 : Int))) = true then
    some a2
  else
    F_R10_put_l0 (nofix a1) ([] : List Node) (0 : Int) (nofix a0) (nofix a2)
  partial_fixpoint
def F_R10_put_l0 (t1 : (List Int)) (t7 : (List Node)) (t8 : Int) (o0 : Node) (o1 : Node) : Option (Node) :=
  if (decide (t8 < ((o0.kids.map Node.cells).length : Int))) = true then
    ix t1 (0 : Int) >>= fun x1 =>
    if (decide (t8 = x1)) = true then
      ix o0.kids t8 >>= fun x2 =>
      lsub t1 (1 : Int) ((t1.map ic).length : Int) >>= fun x3 =>
      F_R10_put (nofix x2) (nofix x3) (nofix o1) >>= fun x4 =>
      app 72 t7 ([x4]) >>= fun x5 =>
      F_R10_put_t24 (nofix t1) (nofix x5) (nofix t8) (nofix o0) (nofix o1)
    else
      ix o0.kids t8 >>= fun x6 =>
      app 72 t7 ([x6]) >>= fun x7 =>
      F_R10_put_t24 (nofix t1) (nofix x7) (nofix t8) (nofix o0) (nofix o1)
  else
    F_R10_With (nofix o0) (nofix t7) >>= fun x8 =>
    some x8
  partial_fixpoint
def F_R10_put_t24 (t1 : (List Int)) (t7 : (List Node)) (t8 : Int) (o0 : Node) (o1 : Node) : Option (Node) :=
  F_R10_put_l0 (nofix t1) (nofix t7) (IntKind.i64.wrap (t8 + (1 : Int))) (nofix o0) (nofix o1)
  partial_fixpoint
end
@[reducible] def M_F_R10_put (a0 : Node) (a1 : (List Int)) (a2 : Node) (r : Node) : Prop :=
  Fn Tryd.prog G 63 [(.agg (cellsN a0)), (.sl 1 false (a1.map ic)), (.agg (cellsN a2))] (.agg (cellsN r))
@[reducible] def M_F_R10_put_l0 (t1 : (List Int)) (t7 : (List Node)) (t8 : Int) (o0 : Node) (o1 : Node) (r : Node) : Prop :=
  Ok Tryd.prog G tt 48 0 (Ret Tryd.prog [.cell 6 25] (fun y H => Told Tryd.prog G H y (.agg (cellsN r)))) (.again (loopOf [24, 1000000] Tryd.f63 0).1 (loopOf [24, 1000000] Tryd.f63 0).2 (.n .undef (.n (.sl 1 false (t1.map ic)) (.n (.ptr 0 0 0) (.n (.bs 4 3 3 0 t7.length) .z .z) .z) (.n (.ptr 1 1 0) .z .z)) (.n .undef (.n .undef (.n (.int .i64 t8) .z .z) .z) (.n (.ptr 2 2 0) .z .z))) 4 [(0, .var 25 (cellsN o0)), (1, .var 25 (cellsN o1)), (2, .var 25 [(.int .i64 0), (.str ⟨#[]⟩), (.sl 1 false (([] : (List ByteArray)).map sc)), (.sl 4 false (([] : (List Node)).map Node.cells))]), (3, .row 25 (t7.map Node.cells).flatten)])
@[reducible] def M_F_R10_put_t24 (t1 : (List Int)) (t7 : (List Node)) (t8 : Int) (o0 : Node) (o1 : Node) (r : Node) : Prop :=
  Ok Tryd.prog G tt 48 0 (Ret Tryd.prog [.cell 6 25] (fun y H => Told Tryd.prog G H y (.agg (cellsN r)))) (.go [] (testOf [24, 1000000] Tryd.f63 24) [] (.n .undef (.n (.sl 1 false (t1.map ic)) (.n (.ptr 0 0 0) (.n (.bs 4 3 4 0 t7.length) .z .z) .z) (.n (.ptr 1 1 0) .z .z)) (.n .undef (.n .undef (.n (.int .i64 t8) .z .z) .z) (.n (.ptr 2 2 0) .z .z))) 5 [(0, .var 25 (cellsN o0)), (1, .var 25 (cellsN o1)), (2, .var 25 [(.int .i64 0), (.str ⟨#[]⟩), (.sl 1 false (([] : (List ByteArray)).map sc)), (.sl 4 false (([] : (List Node)).map Node.cells))]), (4, .row 25 (t7.map Node.cells).flatten)])
theorem E_F_R10_put (a0 : Node) (a1 : (List Int)) (a2 : Node) : F_R10_put a0 a1 a2 = (
    if (decide (((a1.map ic).length : Int) = (0 : Int))) = true then
      some a2
    else
      F_R10_put_l0 a1 ([] : List Node) (0 : Int) a0 a2
    : Option (Node)) := F_R10_put.eq_def a0 a1 a2
theorem E_F_R10_put_l0 (t1 : (List Int)) (t7 : (List Node)) (t8 : Int) (o0 : Node) (o1 : Node) : F_R10_put_l0 t1 t7 t8 o0 o1 = (
    if (decide (t8 < ((o0.kids.map Node.cells).length : Int))) = true then
      ix t1 (0 : Int) >>= fun x1 =>
      if (decide (t8 = x1)) = true then
        ix o0.kids t8 >>= fun x2 =>
        lsub t1 (1 : Int) ((t1.map ic).length : Int) >>= fun x3 =>
        F_R10_put x2 x3 o1 >>= fun x4 =>
        app 72 t7 ([x4]) >>= fun x5 =>
        F_R10_put_t24 t1 x5 t8 o0 o1
      else
        ix o0.kids t8 >>= fun x6 =>
        app 72 t7 ([x6]) >>= fun x7 =>
        F_R10_put_t24 t1 x7 t8 o0 o1
    else
      F_R10_With o0 t7 >>= fun x8 =>
      some x8
    : Option (Node)) := F_R10_put_l0.eq_def t1 t7 t8 o0 o1
theorem E_F_R10_put_t24 (t1 : (List Int)) (t7 : (List Node)) (t8 : Int) (o0 : Node) (o1 : Node) : F_R10_put_t24 t1 t7 t8 o0 o1 = (
    F_R10_put_l0 t1 t7 (IntKind.i64.wrap (t8 + (1 : Int))) o0 o1
    : Option (Node)) := F_R10_put_t24.eq_def t1 t7 t8 o0 o1
set_option maxHeartbeats 4000000 in
theorem S_F_R10_put (F_R10_put_l0 : (List Int) → (List Node) → Int → Node → Node → Option (Node)) (H_F_R10_put_l0 : ∀ (t1 : (List Int)) (t7 : (List Node)) (t8 : Int) (o0 : Node) (o1 : Node) (r : Node), F_R10_put_l0 t1 t7 t8 o0 o1 = some r → M_F_R10_put_l0 t1 t7 t8 o0 o1 r) (a0 : Node) (a1 : (List Int)) (a2 : Node) (r : Node) (h : (
    if (decide (((a1.map ic).length : Int) = (0 : Int))) = true then
      some a2
    else
      F_R10_put_l0 a1 ([] : List Node) (0 : Int) a0 a2
    : Option (Node)) = some r) : M_F_R10_put a0 a1 a2 r := by
  refine Fn_run (T := tt) (N := 48) (rs := [.cell 6 25]) (fun vs w => by simp) Tryd.func63 rfl rfl rfl rfl (by kernel_rfl) (all_pure3 rfl) (closed3_pure _ rfl) ?_
  refine Ok_runB env [24, 1000000] rfl ?_
  refine Ok_cond (fun hb => ?_) (fun hb => ?_)
  · replace h := ite_t hb h
    refine Ok_runB env [24, 1000000] rfl ?_
    cases h
    exact Ok_fin env rfl rfl (told_eq rfl)
  · replace h := ite_f hb h
    refine Ok_runB env [24, 1000000] rfl ?_
    refine Ok_own 7 _ 4 25 rfl rfl ?_
    exact Ok_loop_to (by kernel_rfl) (less_at (by simp [leFT, leV, leOs, leO, leC, rho, AV.ren, AV.ren1, AV.un, AV.un1, AV.closed, wkS] <;> (repeat' apply And.intro) <;> first | rfl | exact fun x a _ h => (Node_ok.all a x h).2) (by simp [leFT, leV, leOs, leO, leC, rho, AV.ren, AV.ren1, AV.un, AV.un1, AV.closed, wkS] <;> (repeat' apply And.intro) <;> first | rfl | exact fun x a _ h => (Node_ok.all a x h).2)) (H_F_R10_put_l0 _ _ _ _ _ _ h)
set_option maxHeartbeats 4000000 in
theorem S_F_R10_put_l0 (F_R10_put : Node → (List Int) → Node → Option (Node)) (F_R10_put_t24 : (List Int) → (List Node) → Int → Node → Node → Option (Node)) (H_F_R10_put : ∀ (a0 : Node) (a1 : (List Int)) (a2 : Node) (r : Node), F_R10_put a0 a1 a2 = some r → M_F_R10_put a0 a1 a2 r) (H_F_R10_put_t24 : ∀ (t1 : (List Int)) (t7 : (List Node)) (t8 : Int) (o0 : Node) (o1 : Node) (r : Node), F_R10_put_t24 t1 t7 t8 o0 o1 = some r → M_F_R10_put_t24 t1 t7 t8 o0 o1 r) (t1 : (List Int)) (t7 : (List Node)) (t8 : Int) (o0 : Node) (o1 : Node) (r : Node) (h : (
    if (decide (t8 < ((o0.kids.map Node.cells).length : Int))) = true then
      ix t1 (0 : Int) >>= fun x1 =>
      if (decide (t8 = x1)) = true then
        ix o0.kids t8 >>= fun x2 =>
        lsub t1 (1 : Int) ((t1.map ic).length : Int) >>= fun x3 =>
        F_R10_put x2 x3 o1 >>= fun x4 =>
        app 72 t7 ([x4]) >>= fun x5 =>
        F_R10_put_t24 t1 x5 t8 o0 o1
      else
        ix o0.kids t8 >>= fun x6 =>
        app 72 t7 ([x6]) >>= fun x7 =>
        F_R10_put_t24 t1 x7 t8 o0 o1
    else
      F_R10_With o0 t7 >>= fun x8 =>
      some x8
    : Option (Node)) = some r) : M_F_R10_put_l0 t1 t7 t8 o0 o1 r := by
  refine Ok_unroll ?_
  refine Ok_runB env [24, 1000000] rfl ?_
  refine Ok_cond (fun hb => ?_) (fun hb => ?_)
  · replace h := ite_t hb h
    refine Ok_runB env [24, 1000000] rfl ?_
    obtain ⟨x1, hx, h⟩ := bind_some h
    refine Ok_ixT env hx rfl rfl rfl rfl rfl ?_
    refine Ok_runB env [24, 1000000] rfl ?_
    refine Ok_cond (fun hb => ?_) (fun hb => ?_)
    · replace h := ite_t hb h
      refine Ok_runB env [24, 1000000] rfl ?_
      obtain ⟨x2, hx, h⟩ := bind_some h
      refine Ok_ixT env hx rfl rfl rfl rfl (Node.cells_eq x2) ?_
      refine Ok_runB env [24, 1000000] rfl ?_
      obtain ⟨x3, hx, h⟩ := bind_some h
      refine Ok_lsubT env hx rfl rfl rfl rfl rfl ?_
      refine Ok_runB env [24, 1000000] rfl ?_
      obtain ⟨x4, hx, h⟩ := bind_some h
      refine Ok_call (H_F_R10_put _ _ _ _ hx) ?_
      refine Ok_runB env [24, 1000000] rfl ?_
      obtain ⟨x5, hx, h⟩ := bind_some h
      have hp_x5 := app_pos hx (by simp)
      refine Ok_appO env hx rfl (show _ = AV.sl _ _ (List.map Node.cells [x4]) from (by simp only [List.map_cons, List.map_nil, Node.cells_eq]; rfl)) (by simp) Node.cells_len rfl rfl rfl rfl rfl (by decide) rfl rfl rfl ?_
      refine Ok_runB env [24, 1000000] rfl ?_
      exact Ok_bar_to (by kernel_rfl) rfl (less_at (by simp [leFT, leV, leOs, leO, leC, rho, AV.ren, AV.ren1, AV.un, AV.un1, AV.closed, wkS] <;> (repeat' apply And.intro) <;> first | rfl | exact fun x a _ h => (Node_ok.all a x h).2) (by simp [leFT, leV, leOs, leO, leC, rho, AV.ren, AV.ren1, AV.un, AV.un1, AV.closed, wkS] <;> (repeat' apply And.intro) <;> first | rfl | exact fun x a _ h => (Node_ok.all a x h).2)) (H_F_R10_put_t24 _ _ _ _ _ _ h)
    · replace h := ite_f hb h
      refine Ok_runB env [24, 1000000] rfl ?_
      obtain ⟨x6, hx, h⟩ := bind_some h
      refine Ok_ixT env hx rfl rfl rfl rfl (Node.cells_eq x6) ?_
      refine Ok_runB env [24, 1000000] rfl ?_
      obtain ⟨x7, hx, h⟩ := bind_some h
      have hp_x7 := app_pos hx (by simp)
      refine Ok_appO env hx rfl (show _ = AV.sl _ _ (List.map Node.cells [x6]) from (by simp only [List.map_cons, List.map_nil, Node.cells_eq]; rfl)) (by simp) Node.cells_len rfl rfl rfl rfl rfl (by decide) rfl rfl rfl ?_
      refine Ok_runB env [24, 1000000] rfl ?_
      exact Ok_bar_to (by kernel_rfl) rfl (less_at (by simp [leFT, leV, leOs, leO, leC, rho, AV.ren, AV.ren1, AV.un, AV.un1, AV.closed, wkS] <;> (repeat' apply And.intro) <;> first | rfl | exact fun x a _ h => (Node_ok.all a x h).2) (by simp [leFT, leV, leOs, leO, leC, rho, AV.ren, AV.ren1, AV.un, AV.un1, AV.closed, wkS] <;> (repeat' apply And.intro) <;> first | rfl | exact fun x a _ h => (Node_ok.all a x h).2)) (H_F_R10_put_t24 _ _ _ _ _ _ h)
  · replace h := ite_f hb h
    refine Ok_runB env [24, 1000000] rfl ?_
    refine Ok_viewB [(7, (.sl 4 false (t7.map Node.cells)))] [3] rfl (viwL_cons Node_ok rfl rfl rfl viwL_nil) rfl rfl ?_
    refine Ok_bar_on ?_
    refine Ok_runB env [24, 1000000] rfl ?_
    obtain ⟨x8, hx, h⟩ := bind_some h
    refine Ok_call (H_F_R10_With _ _ _ hx) ?_
    refine Ok_runB env [24, 1000000] rfl ?_
    cases h
    exact Ok_fin env rfl rfl (told_eq rfl)
set_option maxHeartbeats 4000000 in
theorem S_F_R10_put_t24 (F_R10_put_l0 : (List Int) → (List Node) → Int → Node → Node → Option (Node)) (H_F_R10_put_l0 : ∀ (t1 : (List Int)) (t7 : (List Node)) (t8 : Int) (o0 : Node) (o1 : Node) (r : Node), F_R10_put_l0 t1 t7 t8 o0 o1 = some r → M_F_R10_put_l0 t1 t7 t8 o0 o1 r) (t1 : (List Int)) (t7 : (List Node)) (t8 : Int) (o0 : Node) (o1 : Node) (r : Node) (h : (
    F_R10_put_l0 t1 t7 (IntKind.i64.wrap (t8 + (1 : Int))) o0 o1
    : Option (Node)) = some r) : M_F_R10_put_t24 t1 t7 t8 o0 o1 r := by
  refine Ok_runB env [24, 1000000] rfl ?_
  exact Ok_again_to (by kernel_rfl) (less_at (by simp [leFT, leV, leOs, leO, leC, rho, AV.ren, AV.ren1, AV.un, AV.un1, AV.closed, wkS] <;> (repeat' apply And.intro) <;> first | rfl | exact fun x a _ h => (Node_ok.all a x h).2) (by simp [leFT, leV, leOs, leO, leC, rho, AV.ren, AV.ren1, AV.un, AV.un1, AV.closed, wkS] <;> (repeat' apply And.intro) <;> first | rfl | exact fun x a _ h => (Node_ok.all a x h).2)) (H_F_R10_put_l0 _ _ _ _ _ _ h)
/-- treemerge/treemergeref10.put -/
theorem H_F_R10_put (a0 : Node) (a1 : (List Int)) (a2 : Node) (r : Node) (h : F_R10_put a0 a1 a2 = some r) : M_F_R10_put a0 a1 a2 r :=
  (F_R10_put.mutual_partial_correctness (fun a0 a1 a2 r => M_F_R10_put a0 a1 a2 r) (fun t1 t7 t8 o0 o1 r => M_F_R10_put_l0 t1 t7 t8 o0 o1 r) (fun t1 t7 t8 o0 o1 r => M_F_R10_put_t24 t1 t7 t8 o0 o1 r) (fun F0 h0 => S_F_R10_put F0 h0) (fun F0 F1 h0 h1 => S_F_R10_put_l0 F0 F1 h0 h1) (fun F0 h0 => S_F_R10_put_t24 F0 h0)).1 a0 a1 a2 r h
/-- treemerge/treemergeref10.put -/
theorem H_F_R10_put_l0 (t1 : (List Int)) (t7 : (List Node)) (t8 : Int) (o0 : Node) (o1 : Node) (r : Node) (h : F_R10_put_l0 t1 t7 t8 o0 o1 = some r) : M_F_R10_put_l0 t1 t7 t8 o0 o1 r :=
  (F_R10_put.mutual_partial_correctness (fun a0 a1 a2 r => M_F_R10_put a0 a1 a2 r) (fun t1 t7 t8 o0 o1 r => M_F_R10_put_l0 t1 t7 t8 o0 o1 r) (fun t1 t7 t8 o0 o1 r => M_F_R10_put_t24 t1 t7 t8 o0 o1 r) (fun F0 h0 => S_F_R10_put F0 h0) (fun F0 F1 h0 h1 => S_F_R10_put_l0 F0 F1 h0 h1) (fun F0 h0 => S_F_R10_put_t24 F0 h0)).2.1 t1 t7 t8 o0 o1 r h
/-- treemerge/treemergeref10.put -/
theorem H_F_R10_put_t24 (t1 : (List Int)) (t7 : (List Node)) (t8 : Int) (o0 : Node) (o1 : Node) (r : Node) (h : F_R10_put_t24 t1 t7 t8 o0 o1 = some r) : M_F_R10_put_t24 t1 t7 t8 o0 o1 r :=
  (F_R10_put.mutual_partial_correctness (fun a0 a1 a2 r => M_F_R10_put a0 a1 a2 r) (fun t1 t7 t8 o0 o1 r => M_F_R10_put_l0 t1 t7 t8 o0 o1 r) (fun t1 t7 t8 o0 o1 r => M_F_R10_put_t24 t1 t7 t8 o0 o1 r) (fun F0 h0 => S_F_R10_put F0 h0) (fun F0 F1 h0 h1 => S_F_R10_put_l0 F0 F1 h0 h1) (fun F0 h0 => S_F_R10_put_t24 F0 h0)).2.2 t1 t7 t8 o0 o1 r h
def F_R10_Replace (a0 : Node) (a1 : (List Int)) (a2 : Node) : Option (Node × Int) :=
  F_R10_Get a0 a1 >>= fun x1 =>
  if (!decide (x1.2 = (0 : Int))) = true then
    some ((Node.mk 0 (⟨#[]⟩) ([] : (List ByteArray)) ([] : (List Node))), x1.2)
  else
    F_R10_fits a0 a1 a2.kind >>= fun x2 =>
    if (!x2) = true then
      some ((Node.mk 0 (⟨#[]⟩) ([] : (List ByteArray)) ([] : (List Node))), (7 : Int))
    else
      F_R10_put a0 a1 a2 >>= fun x3 =>
      F_R10_checked x3 >>= fun x4 =>
      some (x4.1, x4.2)
@[reducible] def M_F_R10_Replace (a0 : Node) (a1 : (List Int)) (a2 : Node) (r : Node × Int) : Prop :=
  Fn Tryd.prog G 27 [(.agg (cellsN a0)), (.sl 1 false (a1.map ic)), (.agg (cellsN a2))] (.tup [(.agg (cellsN r.1)), (.int .i64 r.2)])
theorem E_F_R10_Replace (a0 : Node) (a1 : (List Int)) (a2 : Node) : F_R10_Replace a0 a1 a2 = (
    F_R10_Get a0 a1 >>= fun x1 =>
    if (!decide (x1.2 = (0 : Int))) = true then
      some ((Node.mk 0 (⟨#[]⟩) ([] : (List ByteArray)) ([] : (List Node))), x1.2)
    else
      F_R10_fits a0 a1 a2.kind >>= fun x2 =>
      if (!x2) = true then
        some ((Node.mk 0 (⟨#[]⟩) ([] : (List ByteArray)) ([] : (List Node))), (7 : Int))
      else
        F_R10_put a0 a1 a2 >>= fun x3 =>
        F_R10_checked x3 >>= fun x4 =>
        some (x4.1, x4.2)
    : Option (Node × Int)) := F_R10_Replace.eq_def a0 a1 a2
set_option maxHeartbeats 4000000 in
theorem S_F_R10_Replace  (a0 : Node) (a1 : (List Int)) (a2 : Node) (r : Node × Int) (h : (
    F_R10_Get a0 a1 >>= fun x1 =>
    if (!decide (x1.2 = (0 : Int))) = true then
      some ((Node.mk 0 (⟨#[]⟩) ([] : (List ByteArray)) ([] : (List Node))), x1.2)
    else
      F_R10_fits a0 a1 a2.kind >>= fun x2 =>
      if (!x2) = true then
        some ((Node.mk 0 (⟨#[]⟩) ([] : (List ByteArray)) ([] : (List Node))), (7 : Int))
      else
        F_R10_put a0 a1 a2 >>= fun x3 =>
        F_R10_checked x3 >>= fun x4 =>
        some (x4.1, x4.2)
    : Option (Node × Int)) = some r) : M_F_R10_Replace a0 a1 a2 r := by
  refine Fn_run (T := tt) (N := 34) (rs := [.cell 6 25, .tmp 7]) (fun vs w => by simp) Tryd.func27 rfl rfl rfl rfl (by kernel_rfl) (all_pure3 rfl) (closed3_pure _ rfl) ?_
  refine Ok_runB env [] rfl ?_
  obtain ⟨x1, hx, h⟩ := bind_some h
  refine Ok_call (H_F_R10_Get _ _ _ hx) ?_
  refine Ok_runB env [] rfl ?_
  refine Ok_cond (fun hb => ?_) (fun hb => ?_)
  · replace h := ite_t hb h
    refine Ok_runB env [] rfl ?_
    cases h
    exact Ok_fin env rfl rfl (told_view (viewT_tup (viewLs_cons (view_agg (viewL_cons (view1_int rfl) (viewL_cons (view1_str rfl) (viewL_cons (view1_sl (.inr rfl)) (viewL_cons (view1_sl (.inr rfl)) viewL_nil))))) (viewLs_cons (view_one (view1_int rfl) (by simp)) viewLs_nil))))
  · replace h := ite_f hb h
    refine Ok_runB env [] rfl ?_
    obtain ⟨x2, hx, h⟩ := bind_some h
    refine Ok_call (H_F_R10_fits _ _ _ _ hx) ?_
    refine Ok_runB env [] rfl ?_
    refine Ok_cond (fun hb => ?_) (fun hb => ?_)
    · replace h := ite_t hb h
      refine Ok_runB env [] rfl ?_
      cases h
      exact Ok_fin env rfl rfl (told_view (viewT_tup (viewLs_cons (view_agg (viewL_cons (view1_int rfl) (viewL_cons (view1_str rfl) (viewL_cons (view1_sl (.inr rfl)) (viewL_cons (view1_sl (.inr rfl)) viewL_nil))))) (viewLs_cons (view_one (view1_int rfl) (by simp)) viewLs_nil))))
    · replace h := ite_f hb h
      refine Ok_runB env [] rfl ?_
      obtain ⟨x3, hx, h⟩ := bind_some h
      refine Ok_call (H_F_R10_put _ _ _ _ hx) ?_
      refine Ok_runB env [] rfl ?_
      obtain ⟨x4, hx, h⟩ := bind_some h
      refine Ok_call (H_F_R10_checked _ _ hx) ?_
      refine Ok_runB env [] rfl ?_
      cases h
      exact Ok_fin env rfl rfl (told_eq rfl)
/-- treemerge/treemergeref10.Replace -/
theorem H_F_R10_Replace (a0 : Node) (a1 : (List Int)) (a2 : Node) (r : Node × Int) (h : F_R10_Replace a0 a1 a2 = some r) : M_F_R10_Replace a0 a1 a2 r :=
  S_F_R10_Replace a0 a1 a2 r (by rw [E_F_R10_Replace] at h; exact h)
mutual
def F_R10_Insert_l0 (t1 : (List Int)) (t8 : Int) (t11 : (List Node)) (t12 : Int) (o0 : Node) (o1 : Node) (o3 : Node) : Option (Node × Int) :=
  if (decide (t12 ≤ ((o3.kids.map Node.cells).length : Int))) = true then
    ix t1 t8 >>= fun x6 =>
    if (decide (t12 = x6)) = true then
      app 72 t11 ([o1]) >>= fun x7 =>
      F_R10_Insert_t66 (nofix t1) (nofix t8) (nofix x7) (nofix t12) (nofix o0) (nofix o1) (nofix o3)
    else
      F_R10_Insert_t66 (nofix t1) (nofix t8) (nofix t11) (nofix t12) (nofix o0) (nofix o1) (nofix o3)
  else
    lsub t1 (0 : Int) t8 >>= fun x8 =>
    F_R10_With (nofix o3) (nofix t11) >>= fun x9 =>
    F_R10_put (nofix o0) (nofix x8) (nofix x9) >>= fun x10 =>
    F_R10_checked (nofix x10) >>= fun x11 =>
    some (x11.1, x11.2)
  partial_fixpoint
def F_R10_Insert_t66 (t1 : (List Int)) (t8 : Int) (t11 : (List Node)) (t12 : Int) (o0 : Node) (o1 : Node) (o3 : Node) : Option (Node × Int) :=
  if (decide (t12 < ((o3.kids.map Node.cells).length : Int))) = true then
    ix o3.kids t12 >>= fun x12 =>
    app 72 t11 ([x12]) >>= fun x13 =>
    F_R10_Insert_t75 (nofix t1) (nofix t8) (nofix x13) (nofix t12) (nofix o0) (nofix o1) (nofix o3)
  else
    F_R10_Insert_t75 (nofix t1) (nofix t8) (nofix t11) (nofix t12) (nofix o0) (nofix o1) (nofix o3)
  partial_fixpoint
def F_R10_Insert_t75 (t1 : (List Int)) (t8 : Int) (t11 : (List Node)) (t12 : Int) (o0 : Node) (o1 : Node) (o3 : Node) : Option (Node × Int) :=
  F_R10_Insert_l0 (nofix t1) (nofix t8) (nofix t11) (IntKind.i64.wrap (t12 + (1 : Int))) (nofix o0) (nofix o1) (nofix o3)
  partial_fixpoint
end
@[reducible] def M_F_R10_Insert_l0 (t1 : (List Int)) (t8 : Int) (t11 : (List Node)) (t12 : Int) (o0 : Node) (o1 : Node) (o3 : Node) (r : Node × Int) : Prop :=
  Ok Tryd.prog G tt 95 0 (Ret Tryd.prog [.cell 6 25, .tmp 7] (fun y H => Told Tryd.prog G H y (.tup [(.agg (cellsN r.1)), (.int .i64 r.2)]))) (.again (loopOf [66, 75, 1000000] Tryd.f29 0).1 (loopOf [66, 75, 1000000] Tryd.f29 0).2 (.n .undef (.n (.sl 1 false (t1.map ic)) (.n (.ptr 0 0 0) .z (.n (.bs 4 4 4 0 t11.length) .z .z)) (.n (.ptr 1 1 0) (.n (.ptr 3 3 0) .z .z) .z)) (.n .undef (.n .undef (.n (.int .i64 t8) .z .z) (.n (.int .i64 t12) .z .z)) (.n (.ptr 2 2 0) .z .z))) 5 [(0, .var 25 (cellsN o0)), (1, .var 25 (cellsN o1)), (2, .var 25 [(.int .i64 0), (.str ⟨#[]⟩), (.sl 1 false (([] : (List ByteArray)).map sc)), (.sl 4 false (([] : (List Node)).map Node.cells))]), (3, .var 25 (cellsN o3)), (4, .row 25 (t11.map Node.cells).flatten)])
@[reducible] def M_F_R10_Insert_t66 (t1 : (List Int)) (t8 : Int) (t11 : (List Node)) (t12 : Int) (o0 : Node) (o1 : Node) (o3 : Node) (r : Node × Int) : Prop :=
  Ok Tryd.prog G tt 95 0 (Ret Tryd.prog [.cell 6 25, .tmp 7] (fun y H => Told Tryd.prog G H y (.tup [(.agg (cellsN r.1)), (.int .i64 r.2)]))) (.go [] (testOf [66, 75, 1000000] Tryd.f29 66) [] (.n .undef (.n (.sl 1 false (t1.map ic)) (.n (.ptr 0 0 0) .z (.n (.bs 4 4 5 0 t11.length) .z .z)) (.n (.ptr 1 1 0) (.n (.ptr 3 3 0) .z .z) .z)) (.n .undef (.n .undef (.n (.int .i64 t8) .z .z) (.n (.int .i64 t12) .z .z)) (.n (.ptr 2 2 0) .z .z))) 6 [(0, .var 25 (cellsN o0)), (1, .var 25 (cellsN o1)), (2, .var 25 [(.int .i64 0), (.str ⟨#[]⟩), (.sl 1 false (([] : (List ByteArray)).map sc)), (.sl 4 false (([] : (List Node)).map Node.cells))]), (3, .var 25 (cellsN o3)), (5, .row 25 (t11.map Node.cells).flatten)])
@[reducible] def M_F_R10_Insert_t75 (t1 : (List Int)) (t8 : Int) (t11 : (List Node)) (t12 : Int) (o0 : Node) (o1 : Node) (o3 : Node) (r : Node × Int) : Prop :=
  Ok Tryd.prog G tt 95 0 (Ret Tryd.prog [.cell 6 25, .tmp 7] (fun y H => Told Tryd.prog G H y (.tup [(.agg (cellsN r.1)), (.int .i64 r.2)]))) (.go [] (testOf [66, 75, 1000000] Tryd.f29 75) [] (.n .undef (.n (.sl 1 false (t1.map ic)) (.n (.ptr 0 0 0) .z (.n (.bs 4 4 6 0 t11.length) .z .z)) (.n (.ptr 1 1 0) (.n (.ptr 3 3 0) .z .z) .z)) (.n .undef (.n .undef (.n (.int .i64 t8) .z .z) (.n (.int .i64 t12) .z .z)) (.n (.ptr 2 2 0) .z .z))) 7 [(0, .var 25 (cellsN o0)), (1, .var 25 (cellsN o1)), (2, .var 25 [(.int .i64 0), (.str ⟨#[]⟩), (.sl 1 false (([] : (List ByteArray)).map sc)), (.sl 4 false (([] : (List Node)).map Node.cells))]), (3, .var 25 (cellsN o3)), (6, .row 25 (t11.map Node.cells).flatten)])
theorem E_F_R10_Insert_l0 (t1 : (List Int)) (t8 : Int) (t11 : (List Node)) (t12 : Int) (o0 : Node) (o1 : Node) (o3 : Node) : F_R10_Insert_l0 t1 t8 t11 t12 o0 o1 o3 = (
    if (decide (t12 ≤ ((o3.kids.map Node.cells).length : Int))) = true then
      ix t1 t8 >>= fun x6 =>
      if (decide (t12 = x6)) = true then
        app 72 t11 ([o1]) >>= fun x7 =>
        F_R10_Insert_t66 t1 t8 x7 t12 o0 o1 o3
      else
        F_R10_Insert_t66 t1 t8 t11 t12 o0 o1 o3
    else
      lsub t1 (0 : Int) t8 >>= fun x8 =>
      F_R10_With o3 t11 >>= fun x9 =>
      F_R10_put o0 x8 x9 >>= fun x10 =>
      F_R10_checked x10 >>= fun x11 =>
      some (x11.1, x11.2)
    : Option (Node × Int)) := F_R10_Insert_l0.eq_def t1 t8 t11 t12 o0 o1 o3
theorem E_F_R10_Insert_t66 (t1 : (List Int)) (t8 : Int) (t11 : (List Node)) (t12 : Int) (o0 : Node) (o1 : Node) (o3 : Node) : F_R10_Insert_t66 t1 t8 t11 t12 o0 o1 o3 = (
    if (decide (t12 < ((o3.kids.map Node.cells).length : Int))) = true then
      ix o3.kids t12 >>= fun x12 =>
      app 72 t11 ([x12]) >>= fun x13 =>
      F_R10_Insert_t75 t1 t8 x13 t12 o0 o1 o3
    else
      F_R10_Insert_t75 t1 t8 t11 t12 o0 o1 o3
    : Option (Node × Int)) := F_R10_Insert_t66.eq_def t1 t8 t11 t12 o0 o1 o3
theorem E_F_R10_Insert_t75 (t1 : (List Int)) (t8 : Int) (t11 : (List Node)) (t12 : Int) (o0 : Node) (o1 : Node) (o3 : Node) : F_R10_Insert_t75 t1 t8 t11 t12 o0 o1 o3 = (
    F_R10_Insert_l0 t1 t8 t11 (IntKind.i64.wrap (t12 + (1 : Int))) o0 o1 o3
    : Option (Node × Int)) := F_R10_Insert_t75.eq_def t1 t8 t11 t12 o0 o1 o3
set_option maxHeartbeats 4000000 in
theorem S_F_R10_Insert_l0 (F_R10_Insert_t66 : (List Int) → Int → (List Node) → Int → Node → Node → Node → Option (Node × Int)) (H_F_R10_Insert_t66 : ∀ (t1 : (List Int)) (t8 : Int) (t11 : (List Node)) (t12 : Int) (o0 : Node) (o1 : Node) (o3 : Node) (r : Node × Int), F_R10_Insert_t66 t1 t8 t11 t12 o0 o1 o3 = some r → M_F_R10_Insert_t66 t1 t8 t11 t12 o0 o1 o3 r) (t1 : (List Int)) (t8 : Int) (t11 : (List Node)) (t12 : Int) (o0 : Node) (o1 : Node) (o3 : Node) (r : Node × Int) (h : (
    if (decide (t12 ≤ ((o3.kids.map Node.cells).length : Int))) = true then
      ix t1 t8 >>= fun x6 =>
      if (decide (t12 = x6)) = true then
        app 72 t11 ([o1]) >>= fun x7 =>
        F_R10_Insert_t66 t1 t8 x7 t12 o0 o1 o3
      else
        F_R10_Insert_t66 t1 t8 t11 t12 o0 o1 o3
    else
      lsub t1 (0 : Int) t8 >>= fun x8 =>
      F_R10_With o3 t11 >>= fun x9 =>
      F_R10_put o0 x8 x9 >>= fun x10 =>
      F_R10_checked x10 >>= fun x11 =>
      some (x11.1, x11.2)
    : Option (Node × Int)) = some r) : M_F_R10_Insert_l0 t1 t8 t11 t12 o0 o1 o3 r := by
  refine Ok_unroll ?_
  refine Ok_runB env [66, 75, 1000000] rfl ?_
  refine Ok_cond (fun hb => ?_) (fun hb => ?_)
  · replace h := ite_t hb h
    refine Ok_runB env [66, 75, 1000000] rfl ?_
    obtain ⟨x6, hx, h⟩ := bind_some h
    refine Ok_ixT env hx rfl rfl rfl rfl rfl ?_
    refine Ok_runB env [66, 75, 1000000] rfl ?_
    refine Ok_cond (fun hb => ?_) (fun hb => ?_)
    · replace h := ite_t hb h
      refine Ok_runB env [66, 75, 1000000] rfl ?_
      obtain ⟨x7, hx, h⟩ := bind_some h
      have hp_x7 := app_pos hx (by simp)
      refine Ok_appO env hx rfl (show _ = AV.sl _ _ (List.map Node.cells [o1]) from (by simp only [List.map_cons, List.map_nil, Node.cells_eq]; rfl)) (by simp) Node.cells_len rfl rfl rfl rfl rfl (by decide) rfl rfl rfl ?_
      refine Ok_runB env [66, 75, 1000000] rfl ?_
      exact Ok_bar_to (by kernel_rfl) rfl (less_at (by simp [leFT, leV, leOs, leO, leC, rho, AV.ren, AV.ren1, AV.un, AV.un1, AV.closed, wkS] <;> (repeat' apply And.intro) <;> first | rfl | exact fun x a _ h => (Node_ok.all a x h).2) (by simp [leFT, leV, leOs, leO, leC, rho, AV.ren, AV.ren1, AV.un, AV.un1, AV.closed, wkS] <;> (repeat' apply And.intro) <;> first | rfl | exact fun x a _ h => (Node_ok.all a x h).2)) (H_F_R10_Insert_t66 _ _ _ _ _ _ _ _ h)
    · replace h := ite_f hb h
      refine Ok_runB env [66, 75, 1000000] rfl ?_
      exact Ok_bar_to (by kernel_rfl) rfl (less_at (by simp [leFT, leV, leOs, leO, leC, rho, AV.ren, AV.ren1, AV.un, AV.un1, AV.closed, wkS] <;> (repeat' apply And.intro) <;> first | rfl | exact fun x a _ h => (Node_ok.all a x h).2) (by simp [leFT, leV, leOs, leO, leC, rho, AV.ren, AV.ren1, AV.un, AV.un1, AV.closed, wkS] <;> (repeat' apply And.intro) <;> first | rfl | exact fun x a _ h => (Node_ok.all a x h).2)) (H_F_R10_Insert_t66 _ _ _ _ _ _ _ _ h)
  · replace h := ite_f hb h
    refine Ok_runB env [66, 75, 1000000] rfl ?_
    refine Ok_viewB [(11, (.sl 4 false (t11.map Node.cells)))] [4] rfl (viwL_cons Node_ok rfl rfl rfl viwL_nil) rfl rfl ?_
    refine Ok_bar_on ?_
    refine Ok_runB env [66, 75, 1000000] rfl ?_
    obtain ⟨x8, hx, h⟩ := bind_some h
    refine Ok_lsubT env hx rfl rfl rfl rfl rfl ?_
    refine Ok_runB env [66, 75, 1000000] rfl ?_
    obtain ⟨x9, hx, h⟩ := bind_some h
    refine Ok_call (H_F_R10_With _ _ _ hx) ?_
    refine Ok_runB env [66, 75, 1000000] rfl ?_
    obtain ⟨x10, hx, h⟩ := bind_some h
    refine Ok_call (H_F_R10_put _ _ _ _ hx) ?_
    refine Ok_runB env [66, 75, 1000000] rfl ?_
    obtain ⟨x11, hx, h⟩ := bind_some h
    refine Ok_call (H_F_R10_checked _ _ hx) ?_
    refine Ok_runB env [66, 75, 1000000] rfl ?_
    cases h
    exact Ok_fin env rfl rfl (told_eq rfl)
set_option maxHeartbeats 4000000 in
theorem S_F_R10_Insert_t66 (F_R10_Insert_t75 : (List Int) → Int → (List Node) → Int → Node → Node → Node → Option (Node × Int)) (H_F_R10_Insert_t75 : ∀ (t1 : (List Int)) (t8 : Int) (t11 : (List Node)) (t12 : Int) (o0 : Node) (o1 : Node) (o3 : Node) (r : Node × Int), F_R10_Insert_t75 t1 t8 t11 t12 o0 o1 o3 = some r → M_F_R10_Insert_t75 t1 t8 t11 t12 o0 o1 o3 r) (t1 : (List Int)) (t8 : Int) (t11 : (List Node)) (t12 : Int) (o0 : Node) (o1 : Node) (o3 : Node) (r : Node × Int) (h : (
    if (decide (t12 < ((o3.kids.map Node.cells).length : Int))) = true then
      ix o3.kids t12 >>= fun x12 =>
      app 72 t11 ([x12]) >>= fun x13 =>
      F_R10_Insert_t75 t1 t8 x13 t12 o0 o1 o3
    else
      F_R10_Insert_t75 t1 t8 t11 t12 o0 o1 o3
    : Option (Node × Int)) = some r) : M_F_R10_Insert_t66 t1 t8 t11 t12 o0 o1 o3 r := by
  refine Ok_runB env [66, 75, 1000000] rfl ?_
  refine Ok_cond (fun hb => ?_) (fun hb => ?_)
  · replace h := ite_t hb h
    refine Ok_runB env [66, 75, 1000000] rfl ?_
    obtain ⟨x12, hx, h⟩ := bind_some h
    refine Ok_ixT env hx rfl rfl rfl rfl (Node.cells_eq x12) ?_
    refine Ok_runB env [66, 75, 1000000] rfl ?_
    obtain ⟨x13, hx, h⟩ := bind_some h
    have hp_x13 := app_pos hx (by simp)
    refine Ok_appO env hx rfl (show _ = AV.sl _ _ (List.map Node.cells [x12]) from (by simp only [List.map_cons, List.map_nil, Node.cells_eq]; rfl)) (by simp) Node.cells_len rfl rfl rfl rfl rfl (by decide) rfl rfl rfl ?_
    refine Ok_runB env [66, 75, 1000000] rfl ?_
    exact Ok_bar_to (by kernel_rfl) rfl (less_at (by simp [leFT, leV, leOs, leO, leC, rho, AV.ren, AV.ren1, AV.un, AV.un1, AV.closed, wkS] <;> (repeat' apply And.intro) <;> first | rfl | exact fun x a _ h => (Node_ok.all a x h).2) (by simp [leFT, leV, leOs, leO, leC, rho, AV.ren, AV.ren1, AV.un, AV.un1, AV.closed, wkS] <;> (repeat' apply And.intro) <;> first | rfl | exact fun x a _ h => (Node_ok.all a x h).2)) (H_F_R10_Insert_t75 _ _ _ _ _ _ _ _ h)
  · replace h := ite_f hb h
    refine Ok_runB env [66, 75, 1000000] rfl ?_
    exact Ok_bar_to (by kernel_rfl) rfl (less_at (by simp [leFT, leV, leOs, leO, leC, rho, AV.ren, AV.ren1, AV.un, AV.un1, AV.closed, wkS] <;> (repeat' apply And.intro) <;> first | rfl | exact fun x a _ h => (Node_ok.all a x h).2) (by simp [leFT, leV, leOs, leO, leC, rho, AV.ren, AV.ren1, AV.un, AV.un1, AV.closed, wkS] <;> (repeat' apply And.intro) <;> first | rfl | exact fun x a _ h => (Node_ok.all a x h).2)) (H_F_R10_Insert_t75 _ _ _ _ _ _ _ _ h)
set_option maxHeartbeats 4000000 in
theorem S_F_R10_Insert_t75 (F_R10_Insert_l0 : (List Int) → Int → (List Node) → Int → Node → Node → Node → Option (Node × Int)) (H_F_R10_Insert_l0 : ∀ (t1 : (List Int)) (t8 : Int) (t11 : (List Node)) (t12 : Int) (o0 : Node) (o1 : Node) (o3 : Node) (r : Node × Int), F_R10_Insert_l0 t1 t8 t11 t12 o0 o1 o3 = some r → M_F_R10_Insert_l0 t1 t8 t11 t12 o0 o1 o3 r) (t1 : (List Int)) (t8 : Int) (t11 : (List Node)) (t12 : Int) (o0 : Node) (o1 : Node) (o3 : Node) (r : Node × Int) (h : (
    F_R10_Insert_l0 t1 t8 t11 (IntKind.i64.wrap (t12 + (1 : Int))) o0 o1 o3
    : Option (Node × Int)) = some r) : M_F_R10_Insert_t75 t1 t8 t11 t12 o0 o1 o3 r := by
  refine Ok_runB env [66, 75, 1000000] rfl ?_
  exact Ok_again_to (by kernel_rfl) (less_at (by simp [leFT, leV, leOs, leO, leC, rho, AV.ren, AV.ren1, AV.un, AV.un1, AV.closed, wkS] <;> (repeat' apply And.intro) <;> first | rfl | exact fun x a _ h => (Node_ok.all a x h).2) (by simp [leFT, leV, leOs, leO, leC, rho, AV.ren, AV.ren1, AV.un, AV.un1, AV.closed, wkS] <;> (repeat' apply And.intro) <;> first | rfl | exact fun x a _ h => (Node_ok.all a x h).2)) (H_F_R10_Insert_l0 _ _ _ _ _ _ _ _ h)
/-- treemerge/treemergeref10.Insert -/
theorem H_F_R10_Insert_l0 (t1 : (List Int)) (t8 : Int) (t11 : (List Node)) (t12 : Int) (o0 : Node) (o1 : Node) (o3 : Node) (r : Node × Int) (h : F_R10_Insert_l0 t1 t8 t11 t12 o0 o1 o3 = some r) : M_F_R10_Insert_l0 t1 t8 t11 t12 o0 o1 o3 r :=
  (F_R10_Insert_l0.mutual_partial_correctness (fun t1 t8 t11 t12 o0 o1 o3 r => M_F_R10_Insert_l0 t1 t8 t11 t12 o0 o1 o3 r) (fun t1 t8 t11 t12 o0 o1 o3 r => M_F_R10_Insert_t66 t1 t8 t11 t12 o0 o1 o3 r) (fun t1 t8 t11 t12 o0 o1 o3 r => M_F_R10_Insert_t75 t1 t8 t11 t12 o0 o1 o3 r) (fun F0 h0 => S_F_R10_Insert_l0 F0 h0) (fun F0 h0 => S_F_R10_Insert_t66 F0 h0) (fun F0 h0 => S_F_R10_Insert_t75 F0 h0)).1 t1 t8 t11 t12 o0 o1 o3 r h
/-- treemerge/treemergeref10.Insert -/
theorem H_F_R10_Insert_t66 (t1 : (List Int)) (t8 : Int) (t11 : (List Node)) (t12 : Int) (o0 : Node) (o1 : Node) (o3 : Node) (r : Node × Int) (h : F_R10_Insert_t66 t1 t8 t11 t12 o0 o1 o3 = some r) : M_F_R10_Insert_t66 t1 t8 t11 t12 o0 o1 o3 r :=
  (F_R10_Insert_l0.mutual_partial_correctness (fun t1 t8 t11 t12 o0 o1 o3 r => M_F_R10_Insert_l0 t1 t8 t11 t12 o0 o1 o3 r) (fun t1 t8 t11 t12 o0 o1 o3 r => M_F_R10_Insert_t66 t1 t8 t11 t12 o0 o1 o3 r) (fun t1 t8 t11 t12 o0 o1 o3 r => M_F_R10_Insert_t75 t1 t8 t11 t12 o0 o1 o3 r) (fun F0 h0 => S_F_R10_Insert_l0 F0 h0) (fun F0 h0 => S_F_R10_Insert_t66 F0 h0) (fun F0 h0 => S_F_R10_Insert_t75 F0 h0)).2.1 t1 t8 t11 t12 o0 o1 o3 r h
/-- treemerge/treemergeref10.Insert -/
theorem H_F_R10_Insert_t75 (t1 : (List Int)) (t8 : Int) (t11 : (List Node)) (t12 : Int) (o0 : Node) (o1 : Node) (o3 : Node) (r : Node × Int) (h : F_R10_Insert_t75 t1 t8 t11 t12 o0 o1 o3 = some r) : M_F_R10_Insert_t75 t1 t8 t11 t12 o0 o1 o3 r :=
  (F_R10_Insert_l0.mutual_partial_correctness (fun t1 t8 t11 t12 o0 o1 o3 r => M_F_R10_Insert_l0 t1 t8 t11 t12 o0 o1 o3 r) (fun t1 t8 t11 t12 o0 o1 o3 r => M_F_R10_Insert_t66 t1 t8 t11 t12 o0 o1 o3 r) (fun t1 t8 t11 t12 o0 o1 o3 r => M_F_R10_Insert_t75 t1 t8 t11 t12 o0 o1 o3 r) (fun F0 h0 => S_F_R10_Insert_l0 F0 h0) (fun F0 h0 => S_F_R10_Insert_t66 F0 h0) (fun F0 h0 => S_F_R10_Insert_t75 F0 h0)).2.2 t1 t8 t11 t12 o0 o1 o3 r h
def F_R10_Insert (a0 : Node) (a1 : (List Int)) (a2 : Node) : Option (Node × Int) :=
  if (decide ((IntKind.i64.wrap (((a1.map ic).length : Int) - (1 : Int))) < (0 : Int))) = true then
    some ((Node.mk 0 (⟨#[]⟩) ([] : (List ByteArray)) ([] : (List Node))), (5 : Int))
  else
    lsub a1 (0 : Int) (IntKind.i64.wrap (((a1.map ic).length : Int) - (1 : Int))) >>= fun x1 =>
    F_R10_Get a0 x1 >>= fun x2 =>
    if (!decide (x2.2 = (0 : Int))) = true then
      some ((Node.mk 0 (⟨#[]⟩) ([] : (List ByteArray)) ([] : (List Node))), (5 : Int))
    else
      ix a1 (IntKind.i64.wrap (((a1.map ic).length : Int) - (1 : Int))) >>= fun x3 =>
      if (decide (x3 < (0 : Int))) = true then
        some ((Node.mk 0 (⟨#[]⟩) ([] : (List ByteArray)) ([] : (List Node))), (5 : Int))
      else
        ix a1 (IntKind.i64.wrap (((a1.map ic).length : Int) - (1 : Int))) >>= fun x4 =>
        if (decide (((x2.1.kids.map Node.cells).length : Int) < x4)) = true then
          some ((Node.mk 0 (⟨#[]⟩) ([] : (List ByteArray)) ([] : (List Node))), (5 : Int))
        else
          F_R10_fits a0 a1 a2.kind >>= fun x5 =>
          if (!x5) = true then
            some ((Node.mk 0 (⟨#[]⟩) ([] : (List ByteArray)) ([] : (List Node))), (7 : Int))
          else
            F_R10_Insert_l0 a1 (IntKind.i64.wrap (((a1.map ic).length : Int) - (1 : Int))) ([] : List Node) (0 : Int) a0 a2 x2.1
@[reducible] def M_F_R10_Insert (a0 : Node) (a1 : (List Int)) (a2 : Node) (r : Node × Int) : Prop :=
  Fn Tryd.prog G 29 [(.agg (cellsN a0)), (.sl 1 false (a1.map ic)), (.agg (cellsN a2))] (.tup [(.agg (cellsN r.1)), (.int .i64 r.2)])
theorem E_F_R10_Insert (a0 : Node) (a1 : (List Int)) (a2 : Node) : F_R10_Insert a0 a1 a2 = (
    if (decide ((IntKind.i64.wrap (((a1.map ic).length : Int) - (1 : Int))) < (0 : Int))) = true then
      some ((Node.mk 0 (⟨#[]⟩) ([] : (List ByteArray)) ([] : (List Node))), (5 : Int))
    else
      lsub a1 (0 : Int) (IntKind.i64.wrap (((a1.map ic).length : Int) - (1 : Int))) >>= fun x1 =>
      F_R10_Get a0 x1 >>= fun x2 =>
      if (!decide (x2.2 = (0 : Int))) = true then
        some ((Node.mk 0 (⟨#[]⟩) ([] : (List ByteArray)) ([] : (List Node))), (5 : Int))
      else
        ix a1 (IntKind.i64.wrap (((a1.map ic).length : Int) - (1 : Int))) >>= fun x3 =>
        if (decide (x3 < (0 : Int))) = true then
          some ((Node.mk 0 (⟨#[]⟩) ([] : (List ByteArray)) ([] : (List Node))), (5 : Int))
        else
          ix a1 (IntKind.i64.wrap (((a1.map ic).length : Int) - (1 : Int))) >>= fun x4 =>
          if (decide (((x2.1.kids.map Node.cells).length : Int) < x4)) = true then
            some ((Node.mk 0 (⟨#[]⟩) ([] : (List ByteArray)) ([] : (List Node))), (5 : Int))
          else
            F_R10_fits a0 a1 a2.kind >>= fun x5 =>
            if (!x5) = true then
              some ((Node.mk 0 (⟨#[]⟩) ([] : (List ByteArray)) ([] : (List Node))), (7 : Int))
            else
              F_R10_Insert_l0 a1 (IntKind.i64.wrap (((a1.map ic).length : Int) - (1 : Int))) ([] : List Node) (0 : Int) a0 a2 x2.1
    : Option (Node × Int)) := F_R10_Insert.eq_def a0 a1 a2
set_option maxHeartbeats 4000000 in
theorem S_F_R10_Insert  (a0 : Node) (a1 : (List Int)) (a2 : Node) (r : Node × Int) (h : (
    if (decide ((IntKind.i64.wrap (((a1.map ic).length : Int) - (1 : Int))) < (0 : Int))) = true then
      some ((Node.mk 0 (⟨#[]⟩) ([] : (List ByteArray)) ([] : (List Node))), (5 : Int))
    else
      lsub a1 (0 : Int) (IntKind.i64.wrap (((a1.map ic).length : Int) - (1 : Int))) >>= fun x1 =>
      F_R10_Get a0 x1 >>= fun x2 =>
      if (!decide (x2.2 = (0 : Int))) = true then
        some ((Node.mk 0 (⟨#[]⟩) ([] : (List ByteArray)) ([] : (List Node))), (5 : Int))
      else
        ix a1 (IntKind.i64.wrap (((a1.map ic).length : Int) - (1 : Int))) >>= fun x3 =>
        if (decide (x3 < (0 : Int))) = true then
          some ((Node.mk 0 (⟨#[]⟩) ([] : (List ByteArray)) ([] : (List Node))), (5 : Int))
        else
          ix a1 (IntKind.i64.wrap (((a1.map ic).length : Int) - (1 : Int))) >>= fun x4 =>
          if (decide (((x2.1.kids.map Node.cells).length : Int) < x4)) = true then
            some ((Node.mk 0 (⟨#[]⟩) ([] : (List ByteArray)) ([] : (List Node))), (5 : Int))
          else
            F_R10_fits a0 a1 a2.kind >>= fun x5 =>
            if (!x5) = true then
              some ((Node.mk 0 (⟨#[]⟩) ([] : (List ByteArray)) ([] : (List Node))), (7 : Int))
            else
              F_R10_Insert_l0 a1 (IntKind.i64.wrap (((a1.map ic).length : Int) - (1 : Int))) ([] : List Node) (0 : Int) a0 a2 x2.1
    : Option (Node × Int)) = some r) : M_F_R10_Insert a0 a1 a2 r := by
  refine Fn_run (T := tt) (N := 95) (rs := [.cell 6 25, .tmp 7]) (fun vs w => by simp) Tryd.func29 rfl rfl rfl rfl (by kernel_rfl) (all_pure3 rfl) (closed3_pure _ rfl) ?_
  refine Ok_runB env [66, 75, 1000000] rfl ?_
  refine Ok_cond (fun hb => ?_) (fun hb => ?_)
  · replace h := ite_t hb h
    refine Ok_runB env [66, 75, 1000000] rfl ?_
    cases h
    exact Ok_fin env rfl rfl (told_view (viewT_tup (viewLs_cons (view_agg (viewL_cons (view1_int rfl) (viewL_cons (view1_str rfl) (viewL_cons (view1_sl (.inr rfl)) (viewL_cons (view1_sl (.inr rfl)) viewL_nil))))) (viewLs_cons (view_one (view1_int rfl) (by simp)) viewLs_nil))))
  · replace h := ite_f hb h
    refine Ok_runB env [66, 75, 1000000] rfl ?_
    obtain ⟨x1, hx, h⟩ := bind_some h
    refine Ok_lsubT env hx rfl rfl rfl rfl rfl ?_
    refine Ok_runB env [66, 75, 1000000] rfl ?_
    obtain ⟨x2, hx, h⟩ := bind_some h
    refine Ok_call (H_F_R10_Get _ _ _ hx) ?_
    refine Ok_runB env [66, 75, 1000000] rfl ?_
    refine Ok_guard_f (fun hb => ?_) (fun hb => ?_)
    · replace h := ite_f hb h
      refine Ok_runB env [66, 75, 1000000] rfl ?_
      obtain ⟨x3, hx, h⟩ := bind_some h
      refine Ok_ixT env hx rfl rfl rfl rfl rfl ?_
      refine Ok_runB env [66, 75, 1000000] rfl ?_
      refine Ok_guard_f (fun hb => ?_) (fun hb => ?_)
      · replace h := ite_f hb h
        refine Ok_runB env [66, 75, 1000000] rfl ?_
        obtain ⟨x4, hx, h⟩ := bind_some h
        refine Ok_ixT env hx rfl rfl rfl rfl rfl ?_
        refine Ok_runB env [66, 75, 1000000] rfl ?_
        refine Ok_cond (fun hb => ?_) (fun hb => ?_)
        · replace h := ite_t hb h
          refine Ok_runB env [66, 75, 1000000] rfl ?_
          cases h
          exact Ok_fin env rfl rfl (told_view (viewT_tup (viewLs_cons (view_agg (viewL_cons (view1_int rfl) (viewL_cons (view1_str rfl) (viewL_cons (view1_sl (.inr rfl)) (viewL_cons (view1_sl (.inr rfl)) viewL_nil))))) (viewLs_cons (view_one (view1_int rfl) (by simp)) viewLs_nil))))
        · replace h := ite_f hb h
          refine Ok_runB env [66, 75, 1000000] rfl ?_
          obtain ⟨x5, hx, h⟩ := bind_some h
          refine Ok_call (H_F_R10_fits _ _ _ _ hx) ?_
          refine Ok_runB env [66, 75, 1000000] rfl ?_
          refine Ok_cond (fun hb => ?_) (fun hb => ?_)
          · replace h := ite_t hb h
            refine Ok_runB env [66, 75, 1000000] rfl ?_
            cases h
            exact Ok_fin env rfl rfl (told_view (viewT_tup (viewLs_cons (view_agg (viewL_cons (view1_int rfl) (viewL_cons (view1_str rfl) (viewL_cons (view1_sl (.inr rfl)) (viewL_cons (view1_sl (.inr rfl)) viewL_nil))))) (viewLs_cons (view_one (view1_int rfl) (by simp)) viewLs_nil))))
          · replace h := ite_f hb h
            refine Ok_runB env [66, 75, 1000000] rfl ?_
            refine Ok_own 11 _ 4 25 rfl rfl ?_
            exact Ok_loop_to (by kernel_rfl) (less_at (by simp [leFT, leV, leOs, leO, leC, rho, AV.ren, AV.ren1, AV.un, AV.un1, AV.closed, wkS] <;> (repeat' apply And.intro) <;> first | rfl | exact fun x a _ h => (Node_ok.all a x h).2) (by simp [leFT, leV, leOs, leO, leC, rho, AV.ren, AV.ren1, AV.un, AV.un1, AV.closed, wkS] <;> (repeat' apply And.intro) <;> first | rfl | exact fun x a _ h => (Node_ok.all a x h).2)) (H_F_R10_Insert_l0 _ _ _ _ _ _ _ _ h)
      · replace h := ite_t hb h
        refine Ok_runB env [66, 75, 1000000] rfl ?_
        cases h
        exact Ok_fin env rfl rfl (told_view (viewT_tup (viewLs_cons (view_agg (viewL_cons (view1_int rfl) (viewL_cons (view1_str rfl) (viewL_cons (view1_sl (.inr rfl)) (viewL_cons (view1_sl (.inr rfl)) viewL_nil))))) (viewLs_cons (view_one (view1_int rfl) (by simp)) viewLs_nil))))
    · replace h := ite_t hb h
      refine Ok_runB env [66, 75, 1000000] rfl ?_
      cases h
      exact Ok_fin env rfl rfl (told_view (viewT_tup (viewLs_cons (view_agg (viewL_cons (view1_int rfl) (viewL_cons (view1_str rfl) (viewL_cons (view1_sl (.inr rfl)) (viewL_cons (view1_sl (.inr rfl)) viewL_nil))))) (viewLs_cons (view_one (view1_int rfl) (by simp)) viewLs_nil))))
/-- treemerge/treemergeref10.Insert -/
theorem H_F_R10_Insert (a0 : Node) (a1 : (List Int)) (a2 : Node) (r : Node × Int) (h : F_R10_Insert a0 a1 a2 = some r) : M_F_R10_Insert a0 a1 a2 r :=
  S_F_R10_Insert a0 a1 a2 r (by rw [E_F_R10_Insert] at h; exact h)
mutual
def F_R10_Remove_l0 (t1 : (List Int)) (t6 : Int) (t11 : (List Node)) (t12 : Int) (o0 : Node) (o3 : Node) : Option (Node × Int) :=
  if (decide (t12 < ((o3.kids.map Node.cells).length : Int))) = true then
    ix t1 t6 >>= fun x4 =>
    if (!decide (t12 = x4)) = true then
      ix o3.kids t12 >>= fun x5 =>
      app 72 t11 ([x5]) >>= fun x6 =>
      F_R10_Remove_t49 (nofix t1) (nofix t6) (nofix x6) (nofix t12) (nofix o0) (nofix o3)
    else
      F_R10_Remove_t49 (nofix t1) (nofix t6) (nofix t11) (nofix t12) (nofix o0) (nofix o3)
  else
    lsub t1 (0 : Int) t6 >>= fun x7 =>
    F_R10_With (nofix o3) (nofix t11) >>= fun x8 =>
    F_R10_put (nofix o0) (nofix x7) (nofix x8) >>= fun x9 =>
    F_R10_checked (nofix x9) >>= fun x10 =>
    some (x10.1, x10.2)
  partial_fixpoint
def F_R10_Remove_t49 (t1 : (List Int)) (t6 : Int) (t11 : (List Node)) (t12 : Int) (o0 : Node) (o3 : Node) : Option (Node × Int) :=
  F_R10_Remove_l0 (nofix t1) (nofix t6) (nofix t11) (IntKind.i64.wrap (t12 + (1 : Int))) (nofix o0) (nofix o3)
  partial_fixpoint
end
@[reducible] def M_F_R10_Remove_l0 (t1 : (List Int)) (t6 : Int) (t11 : (List Node)) (t12 : Int) (o0 : Node) (o3 : Node) (r : Node × Int) : Prop :=
  Ok Tryd.prog G tt 69 0 (Ret Tryd.prog [.cell 4 25, .tmp 5] (fun y H => Told Tryd.prog G H y (.tup [(.agg (cellsN r.1)), (.int .i64 r.2)]))) (.again (loopOf [49, 1000000] Tryd.f31 0).1 (loopOf [49, 1000000] Tryd.f31 0).2 (.n .undef (.n (.sl 1 false (t1.map ic)) (.n .undef .z (.n (.bs 4 4 4 0 t11.length) .z .z)) (.n .undef (.n (.ptr 3 3 0) .z .z) .z)) (.n (.ptr 0 0 0) (.n (.ptr 1 1 0) .z (.n (.int .i64 t12) .z .z)) (.n (.int .i64 t6) .z .z))) 5 [(0, .var 25 (cellsN o0)), (1, .var 25 [(.int .i64 0), (.str ⟨#[]⟩), (.sl 1 false (([] : (List ByteArray)).map sc)), (.sl 4 false (([] : (List Node)).map Node.cells))]), (2, .dead), (3, .var 25 (cellsN o3)), (4, .row 25 (t11.map Node.cells).flatten)])
@[reducible] def M_F_R10_Remove_t49 (t1 : (List Int)) (t6 : Int) (t11 : (List Node)) (t12 : Int) (o0 : Node) (o3 : Node) (r : Node × Int) : Prop :=
  Ok Tryd.prog G tt 69 0 (Ret Tryd.prog [.cell 4 25, .tmp 5] (fun y H => Told Tryd.prog G H y (.tup [(.agg (cellsN r.1)), (.int .i64 r.2)]))) (.go [] (testOf [49, 1000000] Tryd.f31 49) [] (.n .undef (.n (.sl 1 false (t1.map ic)) (.n .undef .z (.n (.bs 4 4 5 0 t11.length) .z .z)) (.n .undef (.n (.ptr 3 3 0) .z .z) .z)) (.n (.ptr 0 0 0) (.n (.ptr 1 1 0) .z (.n (.int .i64 t12) .z .z)) (.n (.int .i64 t6) .z .z))) 6 [(0, .var 25 (cellsN o0)), (1, .var 25 [(.int .i64 0), (.str ⟨#[]⟩), (.sl 1 false (([] : (List ByteArray)).map sc)), (.sl 4 false (([] : (List Node)).map Node.cells))]), (2, .dead), (3, .var 25 (cellsN o3)), (5, .row 25 (t11.map Node.cells).flatten)])
theorem E_F_R10_Remove_l0 (t1 : (List Int)) (t6 : Int) (t11 : (List Node)) (t12 : Int) (o0 : Node) (o3 : Node) : F_R10_Remove_l0 t1 t6 t11 t12 o0 o3 = (
    if (decide (t12 < ((o3.kids.map Node.cells).length : Int))) = true then
      ix t1 t6 >>= fun x4 =>
      if (!decide (t12 = x4)) = true then
        ix o3.kids t12 >>= fun x5 =>
        app 72 t11 ([x5]) >>= fun x6 =>
        F_R10_Remove_t49 t1 t6 x6 t12 o0 o3
      else
        F_R10_Remove_t49 t1 t6 t11 t12 o0 o3
    else
      lsub t1 (0 : Int) t6 >>= fun x7 =>
      F_R10_With o3 t11 >>= fun x8 =>
      F_R10_put o0 x7 x8 >>= fun x9 =>
      F_R10_checked x9 >>= fun x10 =>
      some (x10.1, x10.2)
    : Option (Node × Int)) := F_R10_Remove_l0.eq_def t1 t6 t11 t12 o0 o3
theorem E_F_R10_Remove_t49 (t1 : (List Int)) (t6 : Int) (t11 : (List Node)) (t12 : Int) (o0 : Node) (o3 : Node) : F_R10_Remove_t49 t1 t6 t11 t12 o0 o3 = (
    F_R10_Remove_l0 t1 t6 t11 (IntKind.i64.wrap (t12 + (1 : Int))) o0 o3
    : Option (Node × Int)) := F_R10_Remove_t49.eq_def t1 t6 t11 t12 o0 o3
set_option maxHeartbeats 4000000 in
theorem S_F_R10_Remove_l0 (F_R10_Remove_t49 : (List Int) → Int → (List Node) → Int → Node → Node → Option (Node × Int)) (H_F_R10_Remove_t49 : ∀ (t1 : (List Int)) (t6 : Int) (t11 : (List Node)) (t12 : Int) (o0 : Node) (o3 : Node) (r : Node × Int), F_R10_Remove_t49 t1 t6 t11 t12 o0 o3 = some r → M_F_R10_Remove_t49 t1 t6 t11 t12 o0 o3 r) (t1 : (List Int)) (t6 : Int) (t11 : (List Node)) (t12 : Int) (o0 : Node) (o3 : Node) (r : Node × Int) (h : (
    if (decide (t12 < ((o3.kids.map Node.cells).length : Int))) = true then
      ix t1 t6 >>= fun x4 =>
      if (!decide (t12 = x4)) = true then
        ix o3.kids t12 >>= fun x5 =>
        app 72 t11 ([x5]) >>= fun x6 =>
        F_R10_Remove_t49 t1 t6 x6 t12 o0 o3
      else
        F_R10_Remove_t49 t1 t6 t11 t12 o0 o3
    else
      lsub t1 (0 : Int) t6 >>= fun x7 =>
      F_R10_With o3 t11 >>= fun x8 =>
      F_R10_put o0 x7 x8 >>= fun x9 =>
      F_R10_checked x9 >>= fun x10 =>
      some (x10.1, x10.2)
    : Option (Node × Int)) = some r) : M_F_R10_Remove_l0 t1 t6 t11 t12 o0 o3 r := by
  refine Ok_unroll ?_
  refine Ok_runB env [49, 1000000] rfl ?_
  refine Ok_cond (fun hb => ?_) (fun hb => ?_)
  · replace h := ite_t hb h
    refine Ok_runB env [49, 1000000] rfl ?_
    obtain ⟨x4, hx, h⟩ := bind_some h
    refine Ok_ixT env hx rfl rfl rfl rfl rfl ?_
    refine Ok_runB env [49, 1000000] rfl ?_
    refine Ok_cond (fun hb => ?_) (fun hb => ?_)
    · replace h := ite_t hb h
      refine Ok_runB env [49, 1000000] rfl ?_
      obtain ⟨x5, hx, h⟩ := bind_some h
      refine Ok_ixT env hx rfl rfl rfl rfl (Node.cells_eq x5) ?_
      refine Ok_runB env [49, 1000000] rfl ?_
      obtain ⟨x6, hx, h⟩ := bind_some h
      have hp_x6 := app_pos hx (by simp)
      refine Ok_appO env hx rfl (show _ = AV.sl _ _ (List.map Node.cells [x5]) from (by simp only [List.map_cons, List.map_nil, Node.cells_eq]; rfl)) (by simp) Node.cells_len rfl rfl rfl rfl rfl (by decide) rfl rfl rfl ?_
      refine Ok_runB env [49, 1000000] rfl ?_
      exact Ok_bar_to (by kernel_rfl) rfl (less_at (by simp [leFT, leV, leOs, leO, leC, rho, AV.ren, AV.ren1, AV.un, AV.un1, AV.closed, wkS] <;> (repeat' apply And.intro) <;> first | rfl | exact fun x a _ h => (Node_ok.all a x h).2) (by simp [leFT, leV, leOs, leO, leC, rho, AV.ren, AV.ren1, AV.un, AV.un1, AV.closed, wkS] <;> (repeat' apply And.intro) <;> first | rfl | exact fun x a _ h => (Node_ok.all a x h).2)) (H_F_R10_Remove_t49 _ _ _ _ _ _ _ h)
    · replace h := ite_f hb h
      refine Ok_runB env [49, 1000000] rfl ?_
      exact Ok_bar_to (by kernel_rfl) rfl (less_at (by simp [leFT, leV, leOs, leO, leC, rho, AV.ren, AV.ren1, AV.un, AV.un1, AV.closed, wkS] <;> (repeat' apply And.intro) <;> first | rfl | exact fun x a _ h => (Node_ok.all a x h).2) (by simp [leFT, leV, leOs, leO, leC, rho, AV.ren, AV.ren1, AV.un, AV.un1, AV.closed, wkS] <;> (repeat' apply And.intro) <;> first | rfl | exact fun x a _ h => (Node_ok.all a x h).2)) (H_F_R10_Remove_t49 _ _ _ _ _ _ _ h)
  · replace h := ite_f hb h
    refine Ok_runB env [49, 1000000] rfl ?_
    refine Ok_viewB [(11, (.sl 4 false (t11.map Node.cells)))] [4] rfl (viwL_cons Node_ok rfl rfl rfl viwL_nil) rfl rfl ?_
    refine Ok_bar_on ?_
    refine Ok_runB env [49, 1000000] rfl ?_
    obtain ⟨x7, hx, h⟩ := bind_some h
    refine Ok_lsubT env hx rfl rfl rfl rfl rfl ?_
    refine Ok_runB env [49, 1000000] rfl ?_
    obtain ⟨x8, hx, h⟩ := bind_some h
    refine Ok_call (H_F_R10_With _ _ _ hx) ?_
    refine Ok_runB env [49, 1000000] rfl ?_
    obtain ⟨x9, hx, h⟩ := bind_some h
    refine Ok_call (H_F_R10_put _ _ _ _ hx) ?_
    refine Ok_runB env [49, 1000000] rfl ?_
    obtain ⟨x10, hx, h⟩ := bind_some h
    refine Ok_call (H_F_R10_checked _ _ hx) ?_
    refine Ok_runB env [49, 1000000] rfl ?_
    cases h
    exact Ok_fin env rfl rfl (told_eq rfl)
set_option maxHeartbeats 4000000 in
theorem S_F_R10_Remove_t49 (F_R10_Remove_l0 : (List Int) → Int → (List Node) → Int → Node → Node → Option (Node × Int)) (H_F_R10_Remove_l0 : ∀ (t1 : (List Int)) (t6 : Int) (t11 : (List Node)) (t12 : Int) (o0 : Node) (o3 : Node) (r : Node × Int), F_R10_Remove_l0 t1 t6 t11 t12 o0 o3 = some r → M_F_R10_Remove_l0 t1 t6 t11 t12 o0 o3 r) (t1 : (List Int)) (t6 : Int) (t11 : (List Node)) (t12 : Int) (o0 : Node) (o3 : Node) (r : Node × Int) (h : (
    F_R10_Remove_l0 t1 t6 t11 (IntKind.i64.wrap (t12 + (1 : Int))) o0 o3
    : Option (Node × Int)) = some r) : M_F_R10_Remove_t49 t1 t6 t11 t12 o0 o3 r := by
  refine Ok_runB env [49, 1000000] rfl ?_
  exact Ok_again_to (by kernel_rfl) (less_at (by simp [leFT, leV, leOs, leO, leC, rho, AV.ren, AV.ren1, AV.un, AV.un1, AV.closed, wkS] <;> (repeat' apply And.intro) <;> first | rfl | exact fun x a _ h => (Node_ok.all a x h).2) (by simp [leFT, leV, leOs, leO, leC, rho, AV.ren, AV.ren1, AV.un, AV.un1, AV.closed, wkS] <;> (repeat' apply And.intro) <;> first | rfl | exact fun x a _ h => (Node_ok.all a x h).2)) (H_F_R10_Remove_l0 _ _ _ _ _ _ _ h)
/-- treemerge/treemergeref10.Remove -/
theorem H_F_R10_Remove_l0 (t1 : (List Int)) (t6 : Int) (t11 : (List Node)) (t12 : Int) (o0 : Node) (o3 : Node) (r : Node × Int) (h : F_R10_Remove_l0 t1 t6 t11 t12 o0 o3 = some r) : M_F_R10_Remove_l0 t1 t6 t11 t12 o0 o3 r :=
  (F_R10_Remove_l0.mutual_partial_correctness (fun t1 t6 t11 t12 o0 o3 r => M_F_R10_Remove_l0 t1 t6 t11 t12 o0 o3 r) (fun t1 t6 t11 t12 o0 o3 r => M_F_R10_Remove_t49 t1 t6 t11 t12 o0 o3 r) (fun F0 h0 => S_F_R10_Remove_l0 F0 h0) (fun F0 h0 => S_F_R10_Remove_t49 F0 h0)).1 t1 t6 t11 t12 o0 o3 r h
/-- treemerge/treemergeref10.Remove -/
theorem H_F_R10_Remove_t49 (t1 : (List Int)) (t6 : Int) (t11 : (List Node)) (t12 : Int) (o0 : Node) (o3 : Node) (r : Node × Int) (h : F_R10_Remove_t49 t1 t6 t11 t12 o0 o3 = some r) : M_F_R10_Remove_t49 t1 t6 t11 t12 o0 o3 r :=
  (F_R10_Remove_l0.mutual_partial_correctness (fun t1 t6 t11 t12 o0 o3 r => M_F_R10_Remove_l0 t1 t6 t11 t12 o0 o3 r) (fun t1 t6 t11 t12 o0 o3 r => M_F_R10_Remove_t49 t1 t6 t11 t12 o0 o3 r) (fun F0 h0 => S_F_R10_Remove_l0 F0 h0) (fun F0 h0 => S_F_R10_Remove_t49 F0 h0)).2 t1 t6 t11 t12 o0 o3 r h
def F_R10_Remove (a0 : Node) (a1 : (List Int)) : Option (Node × Int) :=
  F_R10_Get a0 a1 >>= fun x1 =>
  if (decide ((IntKind.i64.wrap (((a1.map ic).length : Int) - (1 : Int))) < (0 : Int))) = true then
    some ((Node.mk 0 (⟨#[]⟩) ([] : (List ByteArray)) ([] : (List Node))), (5 : Int))
  else
    if (!decide (x1.2 = (0 : Int))) = true then
      some ((Node.mk 0 (⟨#[]⟩) ([] : (List ByteArray)) ([] : (List Node))), (5 : Int))
    else
      lsub a1 (0 : Int) (IntKind.i64.wrap (((a1.map ic).length : Int) - (1 : Int))) >>= fun x2 =>
      F_R10_Get a0 x2 >>= fun x3 =>
      F_R10_Remove_l0 a1 (IntKind.i64.wrap (((a1.map ic).length : Int) - (1 : Int))) ([] : List Node) (0 : Int) a0 x3.1
@[reducible] def M_F_R10_Remove (a0 : Node) (a1 : (List Int)) (r : Node × Int) : Prop :=
  Fn Tryd.prog G 31 [(.agg (cellsN a0)), (.sl 1 false (a1.map ic))] (.tup [(.agg (cellsN r.1)), (.int .i64 r.2)])
theorem E_F_R10_Remove (a0 : Node) (a1 : (List Int)) : F_R10_Remove a0 a1 = (
    F_R10_Get a0 a1 >>= fun x1 =>
    if (decide ((IntKind.i64.wrap (((a1.map ic).length : Int) - (1 : Int))) < (0 : Int))) = true then
      some ((Node.mk 0 (⟨#[]⟩) ([] : (List ByteArray)) ([] : (List Node))), (5 : Int))
    else
      if (!decide (x1.2 = (0 : Int))) = true then
        some ((Node.mk 0 (⟨#[]⟩) ([] : (List ByteArray)) ([] : (List Node))), (5 : Int))
      else
        lsub a1 (0 : Int) (IntKind.i64.wrap (((a1.map ic).length : Int) - (1 : Int))) >>= fun x2 =>
        F_R10_Get a0 x2 >>= fun x3 =>
        F_R10_Remove_l0 a1 (IntKind.i64.wrap (((a1.map ic).length : Int) - (1 : Int))) ([] : List Node) (0 : Int) a0 x3.1
    : Option (Node × Int)) := F_R10_Remove.eq_def a0 a1
set_option maxHeartbeats 4000000 in
theorem S_F_R10_Remove  (a0 : Node) (a1 : (List Int)) (r : Node × Int) (h : (
    F_R10_Get a0 a1 >>= fun x1 =>
    if (decide ((IntKind.i64.wrap (((a1.map ic).length : Int) - (1 : Int))) < (0 : Int))) = true then
      some ((Node.mk 0 (⟨#[]⟩) ([] : (List ByteArray)) ([] : (List Node))), (5 : Int))
    else
      if (!decide (x1.2 = (0 : Int))) = true then
        some ((Node.mk 0 (⟨#[]⟩) ([] : (List ByteArray)) ([] : (List Node))), (5 : Int))
      else
        lsub a1 (0 : Int) (IntKind.i64.wrap (((a1.map ic).length : Int) - (1 : Int))) >>= fun x2 =>
        F_R10_Get a0 x2 >>= fun x3 =>
        F_R10_Remove_l0 a1 (IntKind.i64.wrap (((a1.map ic).length : Int) - (1 : Int))) ([] : List Node) (0 : Int) a0 x3.1
    : Option (Node × Int)) = some r) : M_F_R10_Remove a0 a1 r := by
  refine Fn_run (T := tt) (N := 69) (rs := [.cell 4 25, .tmp 5]) (fun vs w => by simp) Tryd.func31 rfl rfl rfl rfl (by kernel_rfl) (all_pure3 rfl) (closed3_pure _ rfl) ?_
  refine Ok_runB env [49, 1000000] rfl ?_
  obtain ⟨x1, hx, h⟩ := bind_some h
  refine Ok_call (H_F_R10_Get _ _ _ hx) ?_
  refine Ok_runB env [49, 1000000] rfl ?_
  refine Ok_guard_f (fun hb => ?_) (fun hb => ?_)
  · replace h := ite_f hb h
    refine Ok_runB env [49, 1000000] rfl ?_
    refine Ok_cond (fun hb => ?_) (fun hb => ?_)
    · replace h := ite_t hb h
      refine Ok_runB env [49, 1000000] rfl ?_
      cases h
      exact Ok_fin env rfl rfl (told_view (viewT_tup (viewLs_cons (view_agg (viewL_cons (view1_int rfl) (viewL_cons (view1_str rfl) (viewL_cons (view1_sl (.inr rfl)) (viewL_cons (view1_sl (.inr rfl)) viewL_nil))))) (viewLs_cons (view_one (view1_int rfl) (by simp)) viewLs_nil))))
    · replace h := ite_f hb h
      refine Ok_runB env [49, 1000000] rfl ?_
      obtain ⟨x2, hx, h⟩ := bind_some h
      refine Ok_lsubT env hx rfl rfl rfl rfl rfl ?_
      refine Ok_runB env [49, 1000000] rfl ?_
      obtain ⟨x3, hx, h⟩ := bind_some h
      refine Ok_call (H_F_R10_Get _ _ _ hx) ?_
      refine Ok_runB env [49, 1000000] rfl ?_
      refine Ok_own 11 _ 4 25 rfl rfl ?_
      exact Ok_loop_to (by kernel_rfl) (less_at (by simp [leFT, leV, leOs, leO, leC, rho, AV.ren, AV.ren1, AV.un, AV.un1, AV.closed, wkS] <;> (repeat' apply And.intro) <;> first | rfl | exact fun x a _ h => (Node_ok.all a x h).2) (by simp [leFT, leV, leOs, leO, leC, rho, AV.ren, AV.ren1, AV.un, AV.un1, AV.closed, wkS] <;> (repeat' apply And.intro) <;> first | rfl | exact fun x a _ h => (Node_ok.all a x h).2)) (H_F_R10_Remove_l0 _ _ _ _ _ _ _ h)
  · replace h := ite_t hb h
    refine Ok_runB env [49, 1000000] rfl ?_
    cases h
    exact Ok_fin env rfl rfl (told_view (viewT_tup (viewLs_cons (view_agg (viewL_cons (view1_int rfl) (viewL_cons (view1_str rfl) (viewL_cons (view1_sl (.inr rfl)) (viewL_cons (view1_sl (.inr rfl)) viewL_nil))))) (viewLs_cons (view_one (view1_int rfl) (by simp)) viewLs_nil))))
/-- treemerge/treemergeref10.Remove -/
theorem H_F_R10_Remove (a0 : Node) (a1 : (List Int)) (r : Node × Int) (h : F_R10_Remove a0 a1 = some r) : M_F_R10_Remove a0 a1 r :=
  S_F_R10_Remove a0 a1 r (by rw [E_F_R10_Remove] at h; exact h)
def F_L10_PathChanges (a0 : Node) (a1 : (List Int)) (a2 : Node) : Option (Bool) :=
  F_L10_small a0 >>= fun x1 =>
  if (!x1) = true then
    F_L10_awake >>= fun x14 =>
    some x14
  else
    F_L10_small a2 >>= fun x2 =>
    if (!x2) = true then
      F_L10_awake >>= fun x3 =>
      some x3
    else
      F_path_Replace a0 a1 a2 >>= fun x4 =>
      F_R10_Replace a0 a1 a2 >>= fun x5 =>
      F_path_Insert a0 a1 a2 >>= fun x6 =>
      F_R10_Insert a0 a1 a2 >>= fun x7 =>
      F_path_Remove a0 a1 >>= fun x8 =>
      F_R10_Remove a0 a1 >>= fun x9 =>
      if (decide (x4.2 = x5.2)) = true then
        if (decide (x6.2 = x7.2)) = true then
          if (decide (x8.2 = x9.2)) = true then
            F_R6_Equal x4.1 x5.1 >>= fun x10 =>
            if x10 = true then
              F_R6_Equal x6.1 x7.1 >>= fun x11 =>
              if x11 = true then
                F_R6_Equal x8.1 x9.1 >>= fun x12 =>
                if x12 = true then
                  F_L10_awake >>= fun x13 =>
                  some x13
                else
                  some false
              else
                some false
            else
              some false
          else
            some false
        else
          some false
      else
        some false
@[reducible] def M_F_L10_PathChanges (a0 : Node) (a1 : (List Int)) (a2 : Node) (r : Bool) : Prop :=
  Fn Tryd.prog G 4 [(.agg (cellsN a0)), (.sl 1 false (a1.map ic)), (.agg (cellsN a2))] (.bool r)
theorem E_F_L10_PathChanges (a0 : Node) (a1 : (List Int)) (a2 : Node) : F_L10_PathChanges a0 a1 a2 = (
    F_L10_small a0 >>= fun x1 =>
    if (!x1) = true then
      F_L10_awake >>= fun x14 =>
      some x14
    else
      F_L10_small a2 >>= fun x2 =>
      if (!x2) = true then
        F_L10_awake >>= fun x3 =>
        some x3
      else
        F_path_Replace a0 a1 a2 >>= fun x4 =>
        F_R10_Replace a0 a1 a2 >>= fun x5 =>
        F_path_Insert a0 a1 a2 >>= fun x6 =>
        F_R10_Insert a0 a1 a2 >>= fun x7 =>
        F_path_Remove a0 a1 >>= fun x8 =>
        F_R10_Remove a0 a1 >>= fun x9 =>
        if (decide (x4.2 = x5.2)) = true then
          if (decide (x6.2 = x7.2)) = true then
            if (decide (x8.2 = x9.2)) = true then
              F_R6_Equal x4.1 x5.1 >>= fun x10 =>
              if x10 = true then
                F_R6_Equal x6.1 x7.1 >>= fun x11 =>
                if x11 = true then
                  F_R6_Equal x8.1 x9.1 >>= fun x12 =>
                  if x12 = true then
                    F_L10_awake >>= fun x13 =>
                    some x13
                  else
                    some false
                else
                  some false
              else
                some false
            else
              some false
          else
            some false
        else
          some false
    : Option (Bool)) := F_L10_PathChanges.eq_def a0 a1 a2
set_option maxHeartbeats 4000000 in
theorem S_F_L10_PathChanges  (a0 : Node) (a1 : (List Int)) (a2 : Node) (r : Bool) (h : (
    F_L10_small a0 >>= fun x1 =>
    if (!x1) = true then
      F_L10_awake >>= fun x14 =>
      some x14
    else
      F_L10_small a2 >>= fun x2 =>
      if (!x2) = true then
        F_L10_awake >>= fun x3 =>
        some x3
      else
        F_path_Replace a0 a1 a2 >>= fun x4 =>
        F_R10_Replace a0 a1 a2 >>= fun x5 =>
        F_path_Insert a0 a1 a2 >>= fun x6 =>
        F_R10_Insert a0 a1 a2 >>= fun x7 =>
        F_path_Remove a0 a1 >>= fun x8 =>
        F_R10_Remove a0 a1 >>= fun x9 =>
        if (decide (x4.2 = x5.2)) = true then
          if (decide (x6.2 = x7.2)) = true then
            if (decide (x8.2 = x9.2)) = true then
              F_R6_Equal x4.1 x5.1 >>= fun x10 =>
              if x10 = true then
                F_R6_Equal x6.1 x7.1 >>= fun x11 =>
                if x11 = true then
                  F_R6_Equal x8.1 x9.1 >>= fun x12 =>
                  if x12 = true then
                    F_L10_awake >>= fun x13 =>
                    some x13
                  else
                    some false
                else
                  some false
              else
                some false
            else
              some false
          else
            some false
        else
          some false
    : Option (Bool)) = some r) : M_F_L10_PathChanges a0 a1 a2 r := by
  refine Fn_run (T := tt) (N := 99) (rs := [.tmp 6]) (fun vs w => by simp) Tryd.func4 rfl rfl rfl rfl (by kernel_rfl) (all_pure3 rfl) (closed3_pure _ rfl) ?_
  refine Ok_runB env [] rfl ?_
  obtain ⟨x1, hx, h⟩ := bind_some h
  refine Ok_call (H_F_L10_small _ _ hx) ?_
  refine Ok_runB env [] rfl ?_
  refine Ok_guard_f (fun hb => ?_) (fun hb => ?_)
  · replace h := ite_f hb h
    refine Ok_runB env [] rfl ?_
    obtain ⟨x2, hx, h⟩ := bind_some h
    refine Ok_call (H_F_L10_small _ _ hx) ?_
    refine Ok_runB env [] rfl ?_
    refine Ok_cond (fun hb => ?_) (fun hb => ?_)
    · replace h := ite_t hb h
      refine Ok_runB env [] rfl ?_
      obtain ⟨x3, hx, h⟩ := bind_some h
      refine Ok_call (H_F_L10_awake _ hx) ?_
      refine Ok_runB env [] rfl ?_
      cases h
      exact Ok_fin env rfl rfl (told_eq rfl)
    · replace h := ite_f hb h
      refine Ok_runB env [] rfl ?_
      obtain ⟨x4, hx, h⟩ := bind_some h
      refine Ok_call (H_F_path_Replace _ _ _ _ hx) ?_
      refine Ok_runB env [] rfl ?_
      obtain ⟨x5, hx, h⟩ := bind_some h
      refine Ok_call (H_F_R10_Replace _ _ _ _ hx) ?_
      refine Ok_runB env [] rfl ?_
      obtain ⟨x6, hx, h⟩ := bind_some h
      refine Ok_call (H_F_path_Insert _ _ _ _ hx) ?_
      refine Ok_runB env [] rfl ?_
      obtain ⟨x7, hx, h⟩ := bind_some h
      refine Ok_call (H_F_R10_Insert _ _ _ _ hx) ?_
      refine Ok_runB env [] rfl ?_
      obtain ⟨x8, hx, h⟩ := bind_some h
      refine Ok_call (H_F_path_Remove _ _ _ hx) ?_
      refine Ok_runB env [] rfl ?_
      obtain ⟨x9, hx, h⟩ := bind_some h
      refine Ok_call (H_F_R10_Remove _ _ _ hx) ?_
      refine Ok_runB env [] rfl ?_
      refine Ok_guard_t (fun hb => ?_) (fun hb => ?_)
      · replace h := ite_t hb h
        refine Ok_runB env [] rfl ?_
        refine Ok_guard_t (fun hb => ?_) (fun hb => ?_)
        · replace h := ite_t hb h
          refine Ok_runB env [] rfl ?_
          refine Ok_guard_t (fun hb => ?_) (fun hb => ?_)
          · replace h := ite_t hb h
            refine Ok_runB env [] rfl ?_
            obtain ⟨x10, hx, h⟩ := bind_some h
            refine Ok_call (H_F_R6_Equal _ _ _ hx) ?_
            refine Ok_runB env [] rfl ?_
            refine Ok_guard_t (fun hb => ?_) (fun hb => ?_)
            · replace h := ite_t hb h
              refine Ok_runB env [] rfl ?_
              obtain ⟨x11, hx, h⟩ := bind_some h
              refine Ok_call (H_F_R6_Equal _ _ _ hx) ?_
              refine Ok_runB env [] rfl ?_
              refine Ok_guard_t (fun hb => ?_) (fun hb => ?_)
              · replace h := ite_t hb h
                refine Ok_runB env [] rfl ?_
                obtain ⟨x12, hx, h⟩ := bind_some h
                refine Ok_call (H_F_R6_Equal _ _ _ hx) ?_
                refine Ok_runB env [] rfl ?_
                refine Ok_guard_t (fun hb => ?_) (fun hb => ?_)
                · replace h := ite_t hb h
                  refine Ok_runB env [] rfl ?_
                  obtain ⟨x13, hx, h⟩ := bind_some h
                  refine Ok_call (H_F_L10_awake _ hx) ?_
                  refine Ok_runB env [] rfl ?_
                  cases h
                  exact Ok_fin env rfl rfl (told_eq rfl)
                · replace h := ite_f hb h
                  refine Ok_runB env [] rfl ?_
                  cases h
                  exact Ok_fin env rfl rfl (told_eq rfl)
              · replace h := ite_f hb h
                refine Ok_runB env [] rfl ?_
                cases h
                exact Ok_fin env rfl rfl (told_eq rfl)
            · replace h := ite_f hb h
              refine Ok_runB env [] rfl ?_
              cases h
              exact Ok_fin env rfl rfl (told_eq rfl)
          · replace h := ite_f hb h
            refine Ok_runB env [] rfl ?_
            cases h
            exact Ok_fin env rfl rfl (told_eq rfl)
        · replace h := ite_f hb h
          refine Ok_runB env [] rfl ?_
          cases h
          exact Ok_fin env rfl rfl (told_eq rfl)
      · replace h := ite_f hb h
        refine Ok_runB env [] rfl ?_
        cases h
        exact Ok_fin env rfl rfl (told_eq rfl)
  · replace h := ite_t hb h
    refine Ok_runB env [] rfl ?_
    obtain ⟨x14, hx, h⟩ := bind_some h
    refine Ok_call (H_F_L10_awake _ hx) ?_
    refine Ok_runB env [] rfl ?_
    cases h
    exact Ok_fin env rfl rfl (told_eq rfl)
/-- treemerge/treemergelaw10.PathChanges -/
theorem H_F_L10_PathChanges (a0 : Node) (a1 : (List Int)) (a2 : Node) (r : Bool) (h : F_L10_PathChanges a0 a1 a2 = some r) : M_F_L10_PathChanges a0 a1 a2 r :=
  S_F_L10_PathChanges a0 a1 a2 r (by rw [E_F_L10_PathChanges] at h; exact h)
def F_L10_begins_l0 (t0 : (List Int)) (t1 : (List Int)) (t5 : Int) : Option (Bool) :=
  if (decide (t5 < ((t1.map ic).length : Int))) = true then
    ix t0 t5 >>= fun x1 =>
    ix t1 t5 >>= fun x2 =>
    if (!decide (x1 = x2)) = true then
      some false
    else
      F_L10_begins_l0 (nofix t0) (nofix t1) (IntKind.i64.wrap (t5 + (1 : Int)))
  else
    some true
  partial_fixpoint
@[reducible] def M_F_L10_begins_l0 (t0 : (List Int)) (t1 : (List Int)) (t5 : Int) (r : Bool) : Prop :=
  Ok Tryd.prog G tt 26 0 (Ret Tryd.prog [.tmp 4] (fun y H => Told Tryd.prog G H y (.bool r))) (.again (loopOf [] Tryd.f33 0).1 (loopOf [] Tryd.f33 0).2 (.n (.sl 1 false (t0.map ic)) (.n (.sl 1 false (t1.map ic)) .z (.n (.int .i64 t5) .z .z)) .z) 0 [])
theorem E_F_L10_begins_l0 (t0 : (List Int)) (t1 : (List Int)) (t5 : Int) : F_L10_begins_l0 t0 t1 t5 = (
    if (decide (t5 < ((t1.map ic).length : Int))) = true then
      ix t0 t5 >>= fun x1 =>
      ix t1 t5 >>= fun x2 =>
      if (!decide (x1 = x2)) = true then
        some false
      else
        F_L10_begins_l0 t0 t1 (IntKind.i64.wrap (t5 + (1 : Int)))
    else
      some true
    : Option (Bool)) := F_L10_begins_l0.eq_def t0 t1 t5
set_option maxHeartbeats 4000000 in
theorem S_F_L10_begins_l0 (F_L10_begins_l0 : (List Int) → (List Int) → Int → Option (Bool)) (H_F_L10_begins_l0 : ∀ (t0 : (List Int)) (t1 : (List Int)) (t5 : Int) (r : Bool), F_L10_begins_l0 t0 t1 t5 = some r → M_F_L10_begins_l0 t0 t1 t5 r) (t0 : (List Int)) (t1 : (List Int)) (t5 : Int) (r : Bool) (h : (
    if (decide (t5 < ((t1.map ic).length : Int))) = true then
      ix t0 t5 >>= fun x1 =>
      ix t1 t5 >>= fun x2 =>
      if (!decide (x1 = x2)) = true then
        some false
      else
        F_L10_begins_l0 t0 t1 (IntKind.i64.wrap (t5 + (1 : Int)))
    else
      some true
    : Option (Bool)) = some r) : M_F_L10_begins_l0 t0 t1 t5 r := by
  refine Ok_unroll ?_
  refine Ok_runB env [] rfl ?_
  refine Ok_cond (fun hb => ?_) (fun hb => ?_)
  · replace h := ite_t hb h
    refine Ok_runB env [] rfl ?_
    obtain ⟨x1, hx, h⟩ := bind_some h
    refine Ok_ixT env hx rfl rfl rfl rfl rfl ?_
    refine Ok_runB env [] rfl ?_
    obtain ⟨x2, hx, h⟩ := bind_some h
    refine Ok_ixT env hx rfl rfl rfl rfl rfl ?_
    refine Ok_runB env [] rfl ?_
    refine Ok_cond (fun hb => ?_) (fun hb => ?_)
    · replace h := ite_t hb h
      refine Ok_runB env [] rfl ?_
      cases h
      exact Ok_fin env rfl rfl (told_eq rfl)
    · replace h := ite_f hb h
      refine Ok_runB env [] rfl ?_
      exact Ok_again_to (by kernel_rfl) (less_at (by simp [leFT, leV, leOs, leO, leC, rho, AV.ren, AV.ren1, AV.un, AV.un1, AV.closed, wkS] <;> (repeat' apply And.intro) <;> first | rfl) (by simp [leFT, leV, leOs, leO, leC, rho, AV.ren, AV.ren1, AV.un, AV.un1, AV.closed, wkS] <;> (repeat' apply And.intro) <;> first | rfl)) (H_F_L10_begins_l0 _ _ _ _ h)
  · replace h := ite_f hb h
    refine Ok_runB env [] rfl ?_
    cases h
    exact Ok_fin env rfl rfl (told_eq rfl)
/-- treemerge/treemergelaw10.begins -/
theorem H_F_L10_begins_l0 (t0 : (List Int)) (t1 : (List Int)) (t5 : Int) (r : Bool) (h : F_L10_begins_l0 t0 t1 t5 = some r) : M_F_L10_begins_l0 t0 t1 t5 r :=
  F_L10_begins_l0.partial_correctness (fun t0 t1 t5 r => M_F_L10_begins_l0 t0 t1 t5 r) (fun F0 h0 => S_F_L10_begins_l0 F0 h0) t0 t1 t5 r h
def F_L10_begins (a0 : (List Int)) (a1 : (List Int)) : Option (Bool) :=
  if (decide (((a0.map ic).length : Int) < ((a1.map ic).length : Int))) = true then
    some false
  else
    F_L10_begins_l0 a0 a1 (0 : Int)
@[reducible] def M_F_L10_begins (a0 : (List Int)) (a1 : (List Int)) (r : Bool) : Prop :=
  Fn Tryd.prog G 33 [(.sl 1 false (a0.map ic)), (.sl 1 false (a1.map ic))] (.bool r)
theorem E_F_L10_begins (a0 : (List Int)) (a1 : (List Int)) : F_L10_begins a0 a1 = (
    if (decide (((a0.map ic).length : Int) < ((a1.map ic).length : Int))) = true then
      some false
    else
      F_L10_begins_l0 a0 a1 (0 : Int)
    : Option (Bool)) := F_L10_begins.eq_def a0 a1
set_option maxHeartbeats 4000000 in
theorem S_F_L10_begins  (a0 : (List Int)) (a1 : (List Int)) (r : Bool) (h : (
    if (decide (((a0.map ic).length : Int) < ((a1.map ic).length : Int))) = true then
      some false
    else
      F_L10_begins_l0 a0 a1 (0 : Int)
    : Option (Bool)) = some r) : M_F_L10_begins a0 a1 r := by
  refine Fn_run (T := tt) (N := 26) (rs := [.tmp 4]) (fun vs w => by simp) Tryd.func33 rfl rfl rfl rfl (by kernel_rfl) (all_pure3 rfl) (closed3_pure _ rfl) ?_
  refine Ok_runB env [] rfl ?_
  refine Ok_cond (fun hb => ?_) (fun hb => ?_)
  · replace h := ite_t hb h
    refine Ok_runB env [] rfl ?_
    cases h
    exact Ok_fin env rfl rfl (told_eq rfl)
  · replace h := ite_f hb h
    refine Ok_runB env [] rfl ?_
    exact Ok_loop_to (by kernel_rfl) (less_at (by simp [leFT, leV, leOs, leO, leC, rho, AV.ren, AV.ren1, AV.un, AV.un1, AV.closed, wkS] <;> (repeat' apply And.intro) <;> first | rfl) (by simp [leFT, leV, leOs, leO, leC, rho, AV.ren, AV.ren1, AV.un, AV.un1, AV.closed, wkS] <;> (repeat' apply And.intro) <;> first | rfl)) (H_F_L10_begins_l0 _ _ _ _ h)
/-- treemerge/treemergelaw10.begins -/
theorem H_F_L10_begins (a0 : (List Int)) (a1 : (List Int)) (r : Bool) (h : F_L10_begins a0 a1 = some r) : M_F_L10_begins a0 a1 r :=
  S_F_L10_begins a0 a1 r (by rw [E_F_L10_begins] at h; exact h)
end Go.Proofs.YtimdjillcaichaaDoorW.Ex.Gr
