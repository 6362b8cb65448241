/- The program's functions, printed as functions on numbers, strings, lists and trees, with the proofs that they are what the code computes. Conditions: those in each theorem. -/
import Derived.Test.YtimdjillcaichaaDoorQc
namespace Go.Proofs.YtimdjillcaichaaDoorW.Ex.Gr
open Go Go.Proofs.YtimdjillcaichaaDoorW.Ex
set_option linter.all false
set_option maxRecDepth 100000
mutual
def F_R10_Remove_l0 (t1 : (List Int)) (t6 : Int) (t11 : (List Node)) (t12 : Int) (o0 : Node) (o3 : Node) : Option (Node × Int) :=
  if (decide (t12 < ((o3.kids.map Node.cells).length : Int))) = true then
    ix t1 t6 >>= fun x4 =>
    if (!decide (t12 = x4)) = true then
      ix o3.kids t12 >>= fun x5 =>
      app 72 t11 ([x5]) >>= fun x6 =>
      F_R10_Remove_t49 (nofix t1) (nofix t6) (nofix x6) (nofix t12) (nofix o0) (nofix o3)
    else
      F_R10_Remove_t49 (nofix t1) (nofix t6) (nofix t11) (nofix t12) (nofix o0) (nofix o3)
  else
    lsub t1 (0 : Int) t6 >>= fun x7 =>
    F_R10_With (nofix o3) (nofix t11) >>= fun x8 =>
    F_R10_put (nofix o0) (nofix x7) (nofix x8) >>= fun x9 =>
    F_R10_checked (nofix x9) >>= fun x10 =>
    some (x10.1, x10.2)
  partial_fixpoint
def F_R10_Remove_t49 (t1 : (List Int)) (t6 : Int) (t11 : (List Node)) (t12 : Int) (o0 : Node) (o3 : Node) : Option (Node × Int) :=
  F_R10_Remove_l0 (nofix t1) (nofix t6) (nofix t11) (IntKind.i64.wrap (t12 + (1 : Int))) (nofix o0) (nofix o3)
  partial_fixpoint
end
@[reducible] def M_F_R10_Remove_l0 (t1 : (List Int)) (t6 : Int) (t11 : (List Node)) (t12 : Int) (o0 : Node) (o3 : Node) (r : Node × Int) : Prop :=
  Ok Tryd.prog G tt 69 0 (Ret Tryd.prog [.cell 4 25, .tmp 5] (fun y H => Told Tryd.prog G H y (.tup [(.agg (cellsN r.1)), (.int .i64 r.2)]))) (.again (loopOf [49, 1000000] Tryd.f31 0).1 (loopOf [49, 1000000] Tryd.f31 0).2 (.n .undef (.n (.sl 1 false (t1.map ic)) (.n .undef .z (.n (.bs 4 4 4 0 t11.length) .z .z)) (.n .undef (.n (.ptr 3 3 0) .z .z) .z)) (.n (.ptr 0 0 0) (.n (.ptr 1 1 0) .z (.n (.int .i64 t12) .z .z)) (.n (.int .i64 t6) .z .z))) 5 [(0, .var 25 (cellsN o0)), (1, .var 25 [(.int .i64 0), (.str ⟨#[]⟩), (.sl 1 false (([] : (List ByteArray)).map sc)), (.sl 4 false (([] : (List Node)).map Node.cells))]), (2, .dead), (3, .var 25 (cellsN o3)), (4, .row 25 (t11.map Node.cells).flatten)])
@[reducible] def M_F_R10_Remove_t49 (t1 : (List Int)) (t6 : Int) (t11 : (List Node)) (t12 : Int) (o0 : Node) (o3 : Node) (r : Node × Int) : Prop :=
  Ok Tryd.prog G tt 69 0 (Ret Tryd.prog [.cell 4 25, .tmp 5] (fun y H => Told Tryd.prog G H y (.tup [(.agg (cellsN r.1)), (.int .i64 r.2)]))) (.go [] (testOf [49, 1000000] Tryd.f31 49) [] (.n .undef (.n (.sl 1 false (t1.map ic)) (.n .undef .z (.n (.bs 4 4 5 0 t11.length) .z .z)) (.n .undef (.n (.ptr 3 3 0) .z .z) .z)) (.n (.ptr 0 0 0) (.n (.ptr 1 1 0) .z (.n (.int .i64 t12) .z .z)) (.n (.int .i64 t6) .z .z))) 6 [(0, .var 25 (cellsN o0)), (1, .var 25 [(.int .i64 0), (.str ⟨#[]⟩), (.sl 1 false (([] : (List ByteArray)).map sc)), (.sl 4 false (([] : (List Node)).map Node.cells))]), (2, .dead), (3, .var 25 (cellsN o3)), (5, .row 25 (t11.map Node.cells).flatten)])
theorem E_F_R10_Remove_l0 (t1 : (List Int)) (t6 : Int) (t11 : (List Node)) (t12 : Int) (o0 : Node) (o3 : Node) : F_R10_Remove_l0 t1 t6 t11 t12 o0 o3 = (
    if (decide (t12 < ((o3.kids.map Node.cells).length : Int))) = true then
      ix t1 t6 >>= fun x4 =>
      if (!decide (t12 = x4)) = true then
        ix o3.kids t12 >>= fun x5 =>
        app 72 t11 ([x5]) >>= fun x6 =>
        F_R10_Remove_t49 t1 t6 x6 t12 o0 o3
      else
        F_R10_Remove_t49 t1 t6 t11 t12 o0 o3
    else
      lsub t1 (0 : Int) t6 >>= fun x7 =>
      F_R10_With o3 t11 >>= fun x8 =>
      F_R10_put o0 x7 x8 >>= fun x9 =>
      F_R10_checked x9 >>= fun x10 =>
      some (x10.1, x10.2)
    : Option (Node × Int)) := F_R10_Remove_l0.eq_def t1 t6 t11 t12 o0 o3
theorem E_F_R10_Remove_t49 (t1 : (List Int)) (t6 : Int) (t11 : (List Node)) (t12 : Int) (o0 : Node) (o3 : Node) : F_R10_Remove_t49 t1 t6 t11 t12 o0 o3 = (
    F_R10_Remove_l0 t1 t6 t11 (IntKind.i64.wrap (t12 + (1 : Int))) o0 o3
    : Option (Node × Int)) := F_R10_Remove_t49.eq_def t1 t6 t11 t12 o0 o3
set_option maxHeartbeats 4000000 in
theorem S_F_R10_Remove_l0 (F_R10_Remove_t49 : (List Int) → Int → (List Node) → Int → Node → Node → Option (Node × Int)) (H_F_R10_Remove_t49 : ∀ (t1 : (List Int)) (t6 : Int) (t11 : (List Node)) (t12 : Int) (o0 : Node) (o3 : Node) (r : Node × Int), F_R10_Remove_t49 t1 t6 t11 t12 o0 o3 = some r → M_F_R10_Remove_t49 t1 t6 t11 t12 o0 o3 r) (t1 : (List Int)) (t6 : Int) (t11 : (List Node)) (t12 : Int) (o0 : Node) (o3 : Node) (r : Node × Int) (h : (
    if (decide (t12 < ((o3.kids.map Node.cells).length : Int))) = true then
      ix t1 t6 >>= fun x4 =>
      if (!decide (t12 = x4)) = true then
        ix o3.kids t12 >>= fun x5 =>
        app 72 t11 ([x5]) >>= fun x6 =>
        F_R10_Remove_t49 t1 t6 x6 t12 o0 o3
      else
        F_R10_Remove_t49 t1 t6 t11 t12 o0 o3
    else
      lsub t1 (0 : Int) t6 >>= fun x7 =>
      F_R10_With o3 t11 >>= fun x8 =>
      F_R10_put o0 x7 x8 >>= fun x9 =>
      F_R10_checked x9 >>= fun x10 =>
      some (x10.1, x10.2)
    : Option (Node × Int)) = some r) : M_F_R10_Remove_l0 t1 t6 t11 t12 o0 o3 r := by
  refine Ok_unroll ?_
  refine Ok_runB env [49, 1000000] rfl ?_
  refine Ok_cond (fun hb => ?_) (fun hb => ?_)
  · replace h := ite_t hb h
    refine Ok_runB env [49, 1000000] rfl ?_
    obtain ⟨x4, hx, h⟩ := bind_some h
    refine Ok_ixT env hx rfl rfl rfl rfl rfl ?_
    refine Ok_runB env [49, 1000000] rfl ?_
    refine Ok_cond (fun hb => ?_) (fun hb => ?_)
    · replace h := ite_t hb h
      refine Ok_runB env [49, 1000000] rfl ?_
      obtain ⟨x5, hx, h⟩ := bind_some h
      refine Ok_ixT env hx rfl rfl rfl rfl (Node.cells_eq x5) ?_
      refine Ok_runB env [49, 1000000] rfl ?_
      obtain ⟨x6, hx, h⟩ := bind_some h
      have hp_x6 := app_pos hx (by simp)
      refine Ok_appO env hx rfl (show _ = AV.sl _ _ (List.map Node.cells [x5]) from (by simp only [List.map_cons, List.map_nil, Node.cells_eq]; rfl)) (by simp) Node.cells_len rfl rfl rfl rfl rfl (by decide) rfl rfl rfl ?_
      refine Ok_runB env [49, 1000000] rfl ?_
      exact Ok_bar_to (by kernel_rfl) rfl (less_at (by simp [leFT, leV, leOs, leO, leC, rho, AV.ren, AV.ren1, AV.ren0, AV.un, AV.un1, AV.un0, AV.closed, wkS] <;> (repeat' apply And.intro) <;> first | rfl | exact fun x a _ h => (Node_ok.all a x h).2) (by simp [leFT, leV, leOs, leO, leC, rho, AV.ren, AV.ren1, AV.ren0, AV.un, AV.un1, AV.un0, AV.closed, wkS] <;> (repeat' apply And.intro) <;> first | rfl | exact fun x a _ h => (Node_ok.all a x h).2)) (H_F_R10_Remove_t49 _ _ _ _ _ _ _ h)
    · replace h := ite_f hb h
      refine Ok_runB env [49, 1000000] rfl ?_
      exact Ok_bar_to (by kernel_rfl) rfl (less_at (by simp [leFT, leV, leOs, leO, leC, rho, AV.ren, AV.ren1, AV.ren0, AV.un, AV.un1, AV.un0, AV.closed, wkS] <;> (repeat' apply And.intro) <;> first | rfl | exact fun x a _ h => (Node_ok.all a x h).2) (by simp [leFT, leV, leOs, leO, leC, rho, AV.ren, AV.ren1, AV.ren0, AV.un, AV.un1, AV.un0, AV.closed, wkS] <;> (repeat' apply And.intro) <;> first | rfl | exact fun x a _ h => (Node_ok.all a x h).2)) (H_F_R10_Remove_t49 _ _ _ _ _ _ _ h)
  · replace h := ite_f hb h
    refine Ok_runB env [49, 1000000] rfl ?_
    refine Ok_viewB [(11, (.sl 4 false (t11.map Node.cells)))] [4] rfl (viwL_cons Node_ok rfl rfl rfl viwL_nil) rfl rfl ?_
    refine Ok_bar_on ?_
    refine Ok_runB env [49, 1000000] rfl ?_
    obtain ⟨x7, hx, h⟩ := bind_some h
    refine Ok_lsubT env hx rfl rfl rfl rfl rfl ?_
    refine Ok_runB env [49, 1000000] rfl ?_
    obtain ⟨x8, hx, h⟩ := bind_some h
    refine Ok_call (H_F_R10_With _ _ _ hx) ?_
    refine Ok_runB env [49, 1000000] rfl ?_
    obtain ⟨x9, hx, h⟩ := bind_some h
    refine Ok_call (H_F_R10_put _ _ _ _ hx) ?_
    refine Ok_runB env [49, 1000000] rfl ?_
    obtain ⟨x10, hx, h⟩ := bind_some h
    refine Ok_call (H_F_R10_checked _ _ hx) ?_
    refine Ok_runB env [49, 1000000] rfl ?_
    cases h
    exact Ok_fin env rfl rfl (told_eq rfl)
set_option maxHeartbeats 4000000 in
theorem S_F_R10_Remove_t49 (F_R10_Remove_l0 : (List Int) → Int → (List Node) → Int → Node → Node → Option (Node × Int)) (H_F_R10_Remove_l0 : ∀ (t1 : (List Int)) (t6 : Int) (t11 : (List Node)) (t12 : Int) (o0 : Node) (o3 : Node) (r : Node × Int), F_R10_Remove_l0 t1 t6 t11 t12 o0 o3 = some r → M_F_R10_Remove_l0 t1 t6 t11 t12 o0 o3 r) (t1 : (List Int)) (t6 : Int) (t11 : (List Node)) (t12 : Int) (o0 : Node) (o3 : Node) (r : Node × Int) (h : (
    F_R10_Remove_l0 t1 t6 t11 (IntKind.i64.wrap (t12 + (1 : Int))) o0 o3
    : Option (Node × Int)) = some r) : M_F_R10_Remove_t49 t1 t6 t11 t12 o0 o3 r := by
  refine Ok_runB env [49, 1000000] rfl ?_
  exact Ok_again_to (by kernel_rfl) (less_at (by simp [leFT, leV, leOs, leO, leC, rho, AV.ren, AV.ren1, AV.ren0, AV.un, AV.un1, AV.un0, AV.closed, wkS] <;> (repeat' apply And.intro) <;> first | rfl | exact fun x a _ h => (Node_ok.all a x h).2) (by simp [leFT, leV, leOs, leO, leC, rho, AV.ren, AV.ren1, AV.ren0, AV.un, AV.un1, AV.un0, AV.closed, wkS] <;> (repeat' apply And.intro) <;> first | rfl | exact fun x a _ h => (Node_ok.all a x h).2)) (H_F_R10_Remove_l0 _ _ _ _ _ _ _ h)
/-- treemerge/treemergeref10.Remove -/
theorem H_F_R10_Remove_l0 (t1 : (List Int)) (t6 : Int) (t11 : (List Node)) (t12 : Int) (o0 : Node) (o3 : Node) (r : Node × Int) (h : F_R10_Remove_l0 t1 t6 t11 t12 o0 o3 = some r) : M_F_R10_Remove_l0 t1 t6 t11 t12 o0 o3 r :=
  (F_R10_Remove_l0.mutual_partial_correctness (fun t1 t6 t11 t12 o0 o3 r => M_F_R10_Remove_l0 t1 t6 t11 t12 o0 o3 r) (fun t1 t6 t11 t12 o0 o3 r => M_F_R10_Remove_t49 t1 t6 t11 t12 o0 o3 r) (fun F0 h0 => S_F_R10_Remove_l0 F0 h0) (fun F0 h0 => S_F_R10_Remove_t49 F0 h0)).1 t1 t6 t11 t12 o0 o3 r h
/-- treemerge/treemergeref10.Remove -/
theorem H_F_R10_Remove_t49 (t1 : (List Int)) (t6 : Int) (t11 : (List Node)) (t12 : Int) (o0 : Node) (o3 : Node) (r : Node × Int) (h : F_R10_Remove_t49 t1 t6 t11 t12 o0 o3 = some r) : M_F_R10_Remove_t49 t1 t6 t11 t12 o0 o3 r :=
  (F_R10_Remove_l0.mutual_partial_correctness (fun t1 t6 t11 t12 o0 o3 r => M_F_R10_Remove_l0 t1 t6 t11 t12 o0 o3 r) (fun t1 t6 t11 t12 o0 o3 r => M_F_R10_Remove_t49 t1 t6 t11 t12 o0 o3 r) (fun F0 h0 => S_F_R10_Remove_l0 F0 h0) (fun F0 h0 => S_F_R10_Remove_t49 F0 h0)).2 t1 t6 t11 t12 o0 o3 r h
def F_R10_Remove (a0 : Node) (a1 : (List Int)) : Option (Node × Int) :=
  F_R10_Get a0 a1 >>= fun x1 =>
  if (decide ((IntKind.i64.wrap (((a1.map ic).length : Int) - (1 : Int))) < (0 : Int))) = true then
    some ((Node.mk 0 (⟨#[]⟩) ([] : (List ByteArray)) ([] : (List Node))), (5 : Int))
  else
    if (!decide (x1.2 = (0 : Int))) = true then
      some ((Node.mk 0 (⟨#[]⟩) ([] : (List ByteArray)) ([] : (List Node))), (5 : Int))
    else
      lsub a1 (0 : Int) (IntKind.i64.wrap (((a1.map ic).length : Int) - (1 : Int))) >>= fun x2 =>
      F_R10_Get a0 x2 >>= fun x3 =>
      F_R10_Remove_l0 a1 (IntKind.i64.wrap (((a1.map ic).length : Int) - (1 : Int))) ([] : List Node) (0 : Int) a0 x3.1
@[reducible] def M_F_R10_Remove (a0 : Node) (a1 : (List Int)) (r : Node × Int) : Prop :=
  Fn Tryd.prog G 31 [(.agg (cellsN a0)), (.sl 1 false (a1.map ic))] (.tup [(.agg (cellsN r.1)), (.int .i64 r.2)])
theorem E_F_R10_Remove (a0 : Node) (a1 : (List Int)) : F_R10_Remove a0 a1 = (
    F_R10_Get a0 a1 >>= fun x1 =>
    if (decide ((IntKind.i64.wrap (((a1.map ic).length : Int) - (1 : Int))) < (0 : Int))) = true then
      some ((Node.mk 0 (⟨#[]⟩) ([] : (List ByteArray)) ([] : (List Node))), (5 : Int))
    else
      if (!decide (x1.2 = (0 : Int))) = true then
        some ((Node.mk 0 (⟨#[]⟩) ([] : (List ByteArray)) ([] : (List Node))), (5 : Int))
      else
        lsub a1 (0 : Int) (IntKind.i64.wrap (((a1.map ic).length : Int) - (1 : Int))) >>= fun x2 =>
        F_R10_Get a0 x2 >>= fun x3 =>
        F_R10_Remove_l0 a1 (IntKind.i64.wrap (((a1.map ic).length : Int) - (1 : Int))) ([] : List Node) (0 : Int) a0 x3.1
    : Option (Node × Int)) := F_R10_Remove.eq_def a0 a1
set_option maxHeartbeats 4000000 in
theorem S_F_R10_Remove  (a0 : Node) (a1 : (List Int)) (r : Node × Int) (h : (
    F_R10_Get a0 a1 >>= fun x1 =>
    if (decide ((IntKind.i64.wrap (((a1.map ic).length : Int) - (1 : Int))) < (0 : Int))) = true then
      some ((Node.mk 0 (⟨#[]⟩) ([] : (List ByteArray)) ([] : (List Node))), (5 : Int))
    else
      if (!decide (x1.2 = (0 : Int))) = true then
        some ((Node.mk 0 (⟨#[]⟩) ([] : (List ByteArray)) ([] : (List Node))), (5 : Int))
      else
        lsub a1 (0 : Int) (IntKind.i64.wrap (((a1.map ic).length : Int) - (1 : Int))) >>= fun x2 =>
        F_R10_Get a0 x2 >>= fun x3 =>
        F_R10_Remove_l0 a1 (IntKind.i64.wrap (((a1.map ic).length : Int) - (1 : Int))) ([] : List Node) (0 : Int) a0 x3.1
    : Option (Node × Int)) = some r) : M_F_R10_Remove a0 a1 r := by
  refine Fn_run (T := tt) (N := 69) (rs := [.cell 4 25, .tmp 5]) (fun vs w => by simp) Tryd.func31 rfl rfl rfl rfl (by kernel_rfl) (all_pure3 rfl) (closed3_pure _ rfl) ?_
  refine Ok_runB env [49, 1000000] rfl ?_
  obtain ⟨x1, hx, h⟩ := bind_some h
  refine Ok_call (H_F_R10_Get _ _ _ hx) ?_
  refine Ok_runB env [49, 1000000] rfl ?_
  refine Ok_guard_f (fun hb => ?_) (fun hb => ?_)
  · replace h := ite_f hb h
    refine Ok_runB env [49, 1000000] rfl ?_
    refine Ok_cond (fun hb => ?_) (fun hb => ?_)
    · replace h := ite_t hb h
      refine Ok_runB env [49, 1000000] rfl ?_
      cases h
      exact Ok_fin env rfl rfl (told_view (viewT_tup (viewLs_cons (view_agg (viewL_cons (view1_int rfl) (viewL_cons (view1_str rfl) (viewL_cons (view1_sl (.inr rfl)) (viewL_cons (view1_sl (.inr rfl)) viewL_nil))))) (viewLs_cons (view_one (view1_int rfl) (by simp)) viewLs_nil))))
    · replace h := ite_f hb h
      refine Ok_runB env [49, 1000000] rfl ?_
      obtain ⟨x2, hx, h⟩ := bind_some h
      refine Ok_lsubT env hx rfl rfl rfl rfl rfl ?_
      refine Ok_runB env [49, 1000000] rfl ?_
      obtain ⟨x3, hx, h⟩ := bind_some h
      refine Ok_call (H_F_R10_Get _ _ _ hx) ?_
      refine Ok_runB env [49, 1000000] rfl ?_
      refine Ok_own 11 _ 4 25 rfl rfl ?_
      exact Ok_loop_to (by kernel_rfl) (less_at (by simp [leFT, leV, leOs, leO, leC, rho, AV.ren, AV.ren1, AV.ren0, AV.un, AV.un1, AV.un0, AV.closed, wkS] <;> (repeat' apply And.intro) <;> first | rfl | exact fun x a _ h => (Node_ok.all a x h).2) (by simp [leFT, leV, leOs, leO, leC, rho, AV.ren, AV.ren1, AV.ren0, AV.un, AV.un1, AV.un0, AV.closed, wkS] <;> (repeat' apply And.intro) <;> first | rfl | exact fun x a _ h => (Node_ok.all a x h).2)) (H_F_R10_Remove_l0 _ _ _ _ _ _ _ h)
  · replace h := ite_t hb h
    refine Ok_runB env [49, 1000000] rfl ?_
    cases h
    exact Ok_fin env rfl rfl (told_view (viewT_tup (viewLs_cons (view_agg (viewL_cons (view1_int rfl) (viewL_cons (view1_str rfl) (viewL_cons (view1_sl (.inr rfl)) (viewL_cons (view1_sl (.inr rfl)) viewL_nil))))) (viewLs_cons (view_one (view1_int rfl) (by simp)) viewLs_nil))))
/-- treemerge/treemergeref10.Remove -/
theorem H_F_R10_Remove (a0 : Node) (a1 : (List Int)) (r : Node × Int) (h : F_R10_Remove a0 a1 = some r) : M_F_R10_Remove a0 a1 r :=
  S_F_R10_Remove a0 a1 r (by rw [E_F_R10_Remove] at h; exact h)
def F_L10_PathChanges (a0 : Node) (a1 : (List Int)) (a2 : Node) : Option (Bool) :=
  F_L10_small a0 >>= fun x1 =>
  if (!x1) = true then
    F_L10_awake >>= fun x14 =>
    some x14
  else
    F_L10_small a2 >>= fun x2 =>
    if (!x2) = true then
      F_L10_awake >>= fun x3 =>
      some x3
    else
      F_path_Replace a0 a1 a2 >>= fun x4 =>
      F_R10_Replace a0 a1 a2 >>= fun x5 =>
      F_path_Insert a0 a1 a2 >>= fun x6 =>
      F_R10_Insert a0 a1 a2 >>= fun x7 =>
      F_path_Remove a0 a1 >>= fun x8 =>
      F_R10_Remove a0 a1 >>= fun x9 =>
      if (decide (x4.2 = x5.2)) = true then
        if (decide (x6.2 = x7.2)) = true then
          if (decide (x8.2 = x9.2)) = true then
            F_R6_Equal x4.1 x5.1 >>= fun x10 =>
            if x10 = true then
              F_R6_Equal x6.1 x7.1 >>= fun x11 =>
              if x11 = true then
                F_R6_Equal x8.1 x9.1 >>= fun x12 =>
                if x12 = true then
                  F_L10_awake >>= fun x13 =>
                  some x13
                else
                  some false
              else
                some false
            else
              some false
          else
            some false
        else
          some false
      else
        some false
@[reducible] def M_F_L10_PathChanges (a0 : Node) (a1 : (List Int)) (a2 : Node) (r : Bool) : Prop :=
  Fn Tryd.prog G 4 [(.agg (cellsN a0)), (.sl 1 false (a1.map ic)), (.agg (cellsN a2))] (.bool r)
theorem E_F_L10_PathChanges (a0 : Node) (a1 : (List Int)) (a2 : Node) : F_L10_PathChanges a0 a1 a2 = (
    F_L10_small a0 >>= fun x1 =>
    if (!x1) = true then
      F_L10_awake >>= fun x14 =>
      some x14
    else
      F_L10_small a2 >>= fun x2 =>
      if (!x2) = true then
        F_L10_awake >>= fun x3 =>
        some x3
      else
        F_path_Replace a0 a1 a2 >>= fun x4 =>
        F_R10_Replace a0 a1 a2 >>= fun x5 =>
        F_path_Insert a0 a1 a2 >>= fun x6 =>
        F_R10_Insert a0 a1 a2 >>= fun x7 =>
        F_path_Remove a0 a1 >>= fun x8 =>
        F_R10_Remove a0 a1 >>= fun x9 =>
        if (decide (x4.2 = x5.2)) = true then
          if (decide (x6.2 = x7.2)) = true then
            if (decide (x8.2 = x9.2)) = true then
              F_R6_Equal x4.1 x5.1 >>= fun x10 =>
              if x10 = true then
                F_R6_Equal x6.1 x7.1 >>= fun x11 =>
                if x11 = true then
                  F_R6_Equal x8.1 x9.1 >>= fun x12 =>
                  if x12 = true then
                    F_L10_awake >>= fun x13 =>
                    some x13
                  else
                    some false
                else
                  some false
              else
                some false
            else
              some false
          else
            some false
        else
          some false
    : Option (Bool)) := F_L10_PathChanges.eq_def a0 a1 a2
set_option maxHeartbeats 4000000 in
theorem S_F_L10_PathChanges  (a0 : Node) (a1 : (List Int)) (a2 : Node) (r : Bool) (h : (
    F_L10_small a0 >>= fun x1 =>
    if (!x1) = true then
      F_L10_awake >>= fun x14 =>
      some x14
    else
      F_L10_small a2 >>= fun x2 =>
      if (!x2) = true then
        F_L10_awake >>= fun x3 =>
        some x3
      else
        F_path_Replace a0 a1 a2 >>= fun x4 =>
        F_R10_Replace a0 a1 a2 >>= fun x5 =>
        F_path_Insert a0 a1 a2 >>= fun x6 =>
        F_R10_Insert a0 a1 a2 >>= fun x7 =>
        F_path_Remove a0 a1 >>= fun x8 =>
        F_R10_Remove a0 a1 >>= fun x9 =>
        if (decide (x4.2 = x5.2)) = true then
          if (decide (x6.2 = x7.2)) = true then
            if (decide (x8.2 = x9.2)) = true then
              F_R6_Equal x4.1 x5.1 >>= fun x10 =>
              if x10 = true then
                F_R6_Equal x6.1 x7.1 >>= fun x11 =>
                if x11 = true then
                  F_R6_Equal x8.1 x9.1 >>= fun x12 =>
                  if x12 = true then
                    F_L10_awake >>= fun x13 =>
                    some x13
                  else
                    some false
                else
                  some false
              else
                some false
            else
              some false
          else
            some false
        else
          some false
    : Option (Bool)) = some r) : M_F_L10_PathChanges a0 a1 a2 r := by
  refine Fn_run (T := tt) (N := 99) (rs := [.tmp 6]) (fun vs w => by simp) Tryd.func4 rfl rfl rfl rfl (by kernel_rfl) (all_pure3 rfl) (closed3_pure _ rfl) ?_
  refine Ok_runB env [] rfl ?_
  obtain ⟨x1, hx, h⟩ := bind_some h
  refine Ok_call (H_F_L10_small _ _ hx) ?_
  refine Ok_runB env [] rfl ?_
  refine Ok_guard_f (fun hb => ?_) (fun hb => ?_)
  · replace h := ite_f hb h
    refine Ok_runB env [] rfl ?_
    obtain ⟨x2, hx, h⟩ := bind_some h
    refine Ok_call (H_F_L10_small _ _ hx) ?_
    refine Ok_runB env [] rfl ?_
    refine Ok_cond (fun hb => ?_) (fun hb => ?_)
    · replace h := ite_t hb h
      refine Ok_runB env [] rfl ?_
      obtain ⟨x3, hx, h⟩ := bind_some h
      refine Ok_call (H_F_L10_awake _ hx) ?_
      refine Ok_runB env [] rfl ?_
      cases h
      exact Ok_fin env rfl rfl (told_eq rfl)
    · replace h := ite_f hb h
      refine Ok_runB env [] rfl ?_
      obtain ⟨x4, hx, h⟩ := bind_some h
      refine Ok_call (H_F_path_Replace _ _ _ _ hx) ?_
      refine Ok_runB env [] rfl ?_
      obtain ⟨x5, hx, h⟩ := bind_some h
      refine Ok_call (H_F_R10_Replace _ _ _ _ hx) ?_
      refine Ok_runB env [] rfl ?_
      obtain ⟨x6, hx, h⟩ := bind_some h
      refine Ok_call (H_F_path_Insert _ _ _ _ hx) ?_
      refine Ok_runB env [] rfl ?_
      obtain ⟨x7, hx, h⟩ := bind_some h
      refine Ok_call (H_F_R10_Insert _ _ _ _ hx) ?_
      refine Ok_runB env [] rfl ?_
      obtain ⟨x8, hx, h⟩ := bind_some h
      refine Ok_call (H_F_path_Remove _ _ _ hx) ?_
      refine Ok_runB env [] rfl ?_
      obtain ⟨x9, hx, h⟩ := bind_some h
      refine Ok_call (H_F_R10_Remove _ _ _ hx) ?_
      refine Ok_runB env [] rfl ?_
      refine Ok_guard_t (fun hb => ?_) (fun hb => ?_)
      · replace h := ite_t hb h
        refine Ok_runB env [] rfl ?_
        refine Ok_guard_t (fun hb => ?_) (fun hb => ?_)
        · replace h := ite_t hb h
          refine Ok_runB env [] rfl ?_
          refine Ok_guard_t (fun hb => ?_) (fun hb => ?_)
          · replace h := ite_t hb h
            refine Ok_runB env [] rfl ?_
            obtain ⟨x10, hx, h⟩ := bind_some h
            refine Ok_call (H_F_R6_Equal _ _ _ hx) ?_
            refine Ok_runB env [] rfl ?_
            refine Ok_guard_t (fun hb => ?_) (fun hb => ?_)
            · replace h := ite_t hb h
              refine Ok_runB env [] rfl ?_
              obtain ⟨x11, hx, h⟩ := bind_some h
              refine Ok_call (H_F_R6_Equal _ _ _ hx) ?_
              refine Ok_runB env [] rfl ?_
              refine Ok_guard_t (fun hb => ?_) (fun hb => ?_)
              · replace h := ite_t hb h
                refine Ok_runB env [] rfl ?_
                obtain ⟨x12, hx, h⟩ := bind_some h
                refine Ok_call (H_F_R6_Equal _ _ _ hx) ?_
                refine Ok_runB env [] rfl ?_
                refine Ok_guard_t (fun hb => ?_) (fun hb => ?_)
                · replace h := ite_t hb h
                  refine Ok_runB env [] rfl ?_
                  obtain ⟨x13, hx, h⟩ := bind_some h
                  refine Ok_call (H_F_L10_awake _ hx) ?_
                  refine Ok_runB env [] rfl ?_
                  cases h
                  exact Ok_fin env rfl rfl (told_eq rfl)
                · replace h := ite_f hb h
                  refine Ok_runB env [] rfl ?_
                  cases h
                  exact Ok_fin env rfl rfl (told_eq rfl)
              · replace h := ite_f hb h
                refine Ok_runB env [] rfl ?_
                cases h
                exact Ok_fin env rfl rfl (told_eq rfl)
            · replace h := ite_f hb h
              refine Ok_runB env [] rfl ?_
              cases h
              exact Ok_fin env rfl rfl (told_eq rfl)
          · replace h := ite_f hb h
            refine Ok_runB env [] rfl ?_
            cases h
            exact Ok_fin env rfl rfl (told_eq rfl)
        · replace h := ite_f hb h
          refine Ok_runB env [] rfl ?_
          cases h
          exact Ok_fin env rfl rfl (told_eq rfl)
      · replace h := ite_f hb h
        refine Ok_runB env [] rfl ?_
        cases h
        exact Ok_fin env rfl rfl (told_eq rfl)
  · replace h := ite_t hb h
    refine Ok_runB env [] rfl ?_
    obtain ⟨x14, hx, h⟩ := bind_some h
    refine Ok_call (H_F_L10_awake _ hx) ?_
    refine Ok_runB env [] rfl ?_
    cases h
    exact Ok_fin env rfl rfl (told_eq rfl)
/-- treemerge/treemergelaw10.PathChanges -/
theorem H_F_L10_PathChanges (a0 : Node) (a1 : (List Int)) (a2 : Node) (r : Bool) (h : F_L10_PathChanges a0 a1 a2 = some r) : M_F_L10_PathChanges a0 a1 a2 r :=
  S_F_L10_PathChanges a0 a1 a2 r (by rw [E_F_L10_PathChanges] at h; exact h)
def F_L10_begins_l0 (t0 : (List Int)) (t1 : (List Int)) (t5 : Int) : Option (Bool) :=
  if (decide (t5 < ((t1.map ic).length : Int))) = true then
    ix t0 t5 >>= fun x1 =>
    ix t1 t5 >>= fun x2 =>
    if (!decide (x1 = x2)) = true then
      some false
    else
      F_L10_begins_l0 (nofix t0) (nofix t1) (IntKind.i64.wrap (t5 + (1 : Int)))
  else
    some true
  partial_fixpoint
@[reducible] def M_F_L10_begins_l0 (t0 : (List Int)) (t1 : (List Int)) (t5 : Int) (r : Bool) : Prop :=
  Ok Tryd.prog G tt 26 0 (Ret Tryd.prog [.tmp 4] (fun y H => Told Tryd.prog G H y (.bool r))) (.again (loopOf [] Tryd.f33 0).1 (loopOf [] Tryd.f33 0).2 (.n (.sl 1 false (t0.map ic)) (.n (.sl 1 false (t1.map ic)) .z (.n (.int .i64 t5) .z .z)) .z) 0 [])
theorem E_F_L10_begins_l0 (t0 : (List Int)) (t1 : (List Int)) (t5 : Int) : F_L10_begins_l0 t0 t1 t5 = (
    if (decide (t5 < ((t1.map ic).length : Int))) = true then
      ix t0 t5 >>= fun x1 =>
      ix t1 t5 >>= fun x2 =>
      if (!decide (x1 = x2)) = true then
        some false
      else
        F_L10_begins_l0 t0 t1 (IntKind.i64.wrap (t5 + (1 : Int)))
    else
      some true
    : Option (Bool)) := F_L10_begins_l0.eq_def t0 t1 t5
set_option maxHeartbeats 4000000 in
theorem S_F_L10_begins_l0 (F_L10_begins_l0 : (List Int) → (List Int) → Int → Option (Bool)) (H_F_L10_begins_l0 : ∀ (t0 : (List Int)) (t1 : (List Int)) (t5 : Int) (r : Bool), F_L10_begins_l0 t0 t1 t5 = some r → M_F_L10_begins_l0 t0 t1 t5 r) (t0 : (List Int)) (t1 : (List Int)) (t5 : Int) (r : Bool) (h : (
    if (decide (t5 < ((t1.map ic).length : Int))) = true then
      ix t0 t5 >>= fun x1 =>
      ix t1 t5 >>= fun x2 =>
      if (!decide (x1 = x2)) = true then
        some false
      else
        F_L10_begins_l0 t0 t1 (IntKind.i64.wrap (t5 + (1 : Int)))
    else
      some true
    : Option (Bool)) = some r) : M_F_L10_begins_l0 t0 t1 t5 r := by
  refine Ok_unroll ?_
  refine Ok_runB env [] rfl ?_
  refine Ok_cond (fun hb => ?_) (fun hb => ?_)
  · replace h := ite_t hb h
    refine Ok_runB env [] rfl ?_
    obtain ⟨x1, hx, h⟩ := bind_some h
    refine Ok_ixT env hx rfl rfl rfl rfl rfl ?_
    refine Ok_runB env [] rfl ?_
    obtain ⟨x2, hx, h⟩ := bind_some h
    refine Ok_ixT env hx rfl rfl rfl rfl rfl ?_
    refine Ok_runB env [] rfl ?_
    refine Ok_cond (fun hb => ?_) (fun hb => ?_)
    · replace h := ite_t hb h
      refine Ok_runB env [] rfl ?_
      cases h
      exact Ok_fin env rfl rfl (told_eq rfl)
    · replace h := ite_f hb h
      refine Ok_runB env [] rfl ?_
      exact Ok_again_to (by kernel_rfl) (less_at (by simp [leFT, leV, leOs, leO, leC, rho, AV.ren, AV.ren1, AV.ren0, AV.un, AV.un1, AV.un0, AV.closed, wkS] <;> (repeat' apply And.intro) <;> first | rfl) (by simp [leFT, leV, leOs, leO, leC, rho, AV.ren, AV.ren1, AV.ren0, AV.un, AV.un1, AV.un0, AV.closed, wkS] <;> (repeat' apply And.intro) <;> first | rfl)) (H_F_L10_begins_l0 _ _ _ _ h)
  · replace h := ite_f hb h
    refine Ok_runB env [] rfl ?_
    cases h
    exact Ok_fin env rfl rfl (told_eq rfl)
/-- treemerge/treemergelaw10.begins -/
theorem H_F_L10_begins_l0 (t0 : (List Int)) (t1 : (List Int)) (t5 : Int) (r : Bool) (h : F_L10_begins_l0 t0 t1 t5 = some r) : M_F_L10_begins_l0 t0 t1 t5 r :=
  F_L10_begins_l0.partial_correctness (fun t0 t1 t5 r => M_F_L10_begins_l0 t0 t1 t5 r) (fun F0 h0 => S_F_L10_begins_l0 F0 h0) t0 t1 t5 r h
def F_L10_begins (a0 : (List Int)) (a1 : (List Int)) : Option (Bool) :=
  if (decide (((a0.map ic).length : Int) < ((a1.map ic).length : Int))) = true then
    some false
  else
    F_L10_begins_l0 a0 a1 (0 : Int)
@[reducible] def M_F_L10_begins (a0 : (List Int)) (a1 : (List Int)) (r : Bool) : Prop :=
  Fn Tryd.prog G 33 [(.sl 1 false (a0.map ic)), (.sl 1 false (a1.map ic))] (.bool r)
theorem E_F_L10_begins (a0 : (List Int)) (a1 : (List Int)) : F_L10_begins a0 a1 = (
    if (decide (((a0.map ic).length : Int) < ((a1.map ic).length : Int))) = true then
      some false
    else
      F_L10_begins_l0 a0 a1 (0 : Int)
    : Option (Bool)) := F_L10_begins.eq_def a0 a1
set_option maxHeartbeats 4000000 in
theorem S_F_L10_begins  (a0 : (List Int)) (a1 : (List Int)) (r : Bool) (h : (
    if (decide (((a0.map ic).length : Int) < ((a1.map ic).length : Int))) = true then
      some false
    else
      F_L10_begins_l0 a0 a1 (0 : Int)
    : Option (Bool)) = some r) : M_F_L10_begins a0 a1 r := by
  refine Fn_run (T := tt) (N := 26) (rs := [.tmp 4]) (fun vs w => by simp) Tryd.func33 rfl rfl rfl rfl (by kernel_rfl) (all_pure3 rfl) (closed3_pure _ rfl) ?_
  refine Ok_runB env [] rfl ?_
  refine Ok_cond (fun hb => ?_) (fun hb => ?_)
  · replace h := ite_t hb h
    refine Ok_runB env [] rfl ?_
    cases h
    exact Ok_fin env rfl rfl (told_eq rfl)
  · replace h := ite_f hb h
    refine Ok_runB env [] rfl ?_
    exact Ok_loop_to (by kernel_rfl) (less_at (by simp [leFT, leV, leOs, leO, leC, rho, AV.ren, AV.ren1, AV.ren0, AV.un, AV.un1, AV.un0, AV.closed, wkS] <;> (repeat' apply And.intro) <;> first | rfl) (by simp [leFT, leV, leOs, leO, leC, rho, AV.ren, AV.ren1, AV.ren0, AV.un, AV.un1, AV.un0, AV.closed, wkS] <;> (repeat' apply And.intro) <;> first | rfl)) (H_F_L10_begins_l0 _ _ _ _ h)
/-- treemerge/treemergelaw10.begins -/
theorem H_F_L10_begins (a0 : (List Int)) (a1 : (List Int)) (r : Bool) (h : F_L10_begins a0 a1 = some r) : M_F_L10_begins a0 a1 r :=
  S_F_L10_begins a0 a1 r (by rw [E_F_L10_begins] at h; exact h)
def F_L10_PathReplaces (a0 : Node) (a1 : (List Int)) (a2 : Node) (a3 : (List Int)) : Option (Bool) :=
  F_L10_small a0 >>= fun x1 =>
  if (!x1) = true then
    F_L10_awake >>= fun x30 =>
    some x30
  else
    F_L10_small a2 >>= fun x2 =>
    if (!x2) = true then
      F_L10_awake >>= fun x3 =>
      some x3
    else
      F_path_Replace a0 a1 a2 >>= fun x4 =>
      if (!decide (x4.2 = (0 : Int))) = true then
        if (decide (x4.2 = (5 : Int))) = true then
          F_L10_awake >>= fun x6 =>
          some x6
        else
          if (decide (x4.2 = (7 : Int))) = true then
            F_L10_awake >>= fun x5 =>
            some x5
          else
            some false
      else
        F_L10_small x4.1 >>= fun x7 =>
        if (!x7) = true then
          if (decide (((a1.map ic).length : Int) = (0 : Int))) = true then
            some false
          else
            F_R7_Check x4.1 >>= fun x8 =>
            if (!decide (x8 = (0 : Int))) = true then
              some false
            else
              F_path_Get x4.1 a1 >>= fun x9 =>
              if (!decide (x9.2 = (0 : Int))) = true then
                some false
              else
                F_R6_Equal x9.1 a2 >>= fun x10 =>
                if (!x10) = true then
                  some false
                else
                  F_L10_begins a1 a3 >>= fun x11 =>
                  if x11 = true then
                    F_L10_awake >>= fun x18 =>
                    some x18
                  else
                    F_L10_begins a3 a1 >>= fun x12 =>
                    if x12 = true then
                      F_L10_awake >>= fun x13 =>
                      some x13
                    else
                      F_path_Get a0 a3 >>= fun x14 =>
                      F_path_Get x4.1 a3 >>= fun x15 =>
                      if (decide (x14.2 = x15.2)) = true then
                        F_R6_Equal x14.1 x15.1 >>= fun x16 =>
                        if x16 = true then
                          F_L10_awake >>= fun x17 =>
                          some x17
                        else
                          some false
                      else
                        some false
        else
          F_R7_Check x4.1 >>= fun x19 =>
          if (!decide (x19 = (0 : Int))) = true then
            some false
          else
            F_path_Get x4.1 a1 >>= fun x20 =>
            if (!decide (x20.2 = (0 : Int))) = true then
              some false
            else
              F_R6_Equal x20.1 a2 >>= fun x21 =>
              if (!x21) = true then
                some false
              else
                F_L10_begins a1 a3 >>= fun x22 =>
                if x22 = true then
                  F_L10_awake >>= fun x29 =>
                  some x29
                else
                  F_L10_begins a3 a1 >>= fun x23 =>
                  if x23 = true then
                    F_L10_awake >>= fun x24 =>
                    some x24
                  else
                    F_path_Get a0 a3 >>= fun x25 =>
                    F_path_Get x4.1 a3 >>= fun x26 =>
                    if (decide (x25.2 = x26.2)) = true then
                      F_R6_Equal x25.1 x26.1 >>= fun x27 =>
                      if x27 = true then
                        F_L10_awake >>= fun x28 =>
                        some x28
                      else
                        some false
                    else
                      some false
@[reducible] def M_F_L10_PathReplaces (a0 : Node) (a1 : (List Int)) (a2 : Node) (a3 : (List Int)) (r : Bool) : Prop :=
  Fn Tryd.prog G 5 [(.agg (cellsN a0)), (.sl 1 false (a1.map ic)), (.agg (cellsN a2)), (.sl 1 false (a3.map ic))] (.bool r)
theorem E_F_L10_PathReplaces (a0 : Node) (a1 : (List Int)) (a2 : Node) (a3 : (List Int)) : F_L10_PathReplaces a0 a1 a2 a3 = (
    F_L10_small a0 >>= fun x1 =>
    if (!x1) = true then
      F_L10_awake >>= fun x30 =>
      some x30
    else
      F_L10_small a2 >>= fun x2 =>
      if (!x2) = true then
        F_L10_awake >>= fun x3 =>
        some x3
      else
        F_path_Replace a0 a1 a2 >>= fun x4 =>
        if (!decide (x4.2 = (0 : Int))) = true then
          if (decide (x4.2 = (5 : Int))) = true then
            F_L10_awake >>= fun x6 =>
            some x6
          else
            if (decide (x4.2 = (7 : Int))) = true then
              F_L10_awake >>= fun x5 =>
              some x5
            else
              some false
        else
          F_L10_small x4.1 >>= fun x7 =>
          if (!x7) = true then
            if (decide (((a1.map ic).length : Int) = (0 : Int))) = true then
              some false
            else
              F_R7_Check x4.1 >>= fun x8 =>
              if (!decide (x8 = (0 : Int))) = true then
                some false
              else
                F_path_Get x4.1 a1 >>= fun x9 =>
                if (!decide (x9.2 = (0 : Int))) = true then
                  some false
                else
                  F_R6_Equal x9.1 a2 >>= fun x10 =>
                  if (!x10) = true then
                    some false
                  else
                    F_L10_begins a1 a3 >>= fun x11 =>
                    if x11 = true then
                      F_L10_awake >>= fun x18 =>
                      some x18
                    else
                      F_L10_begins a3 a1 >>= fun x12 =>
                      if x12 = true then
                        F_L10_awake >>= fun x13 =>
                        some x13
                      else
                        F_path_Get a0 a3 >>= fun x14 =>
                        F_path_Get x4.1 a3 >>= fun x15 =>
                        if (decide (x14.2 = x15.2)) = true then
                          F_R6_Equal x14.1 x15.1 >>= fun x16 =>
                          if x16 = true then
                            F_L10_awake >>= fun x17 =>
                            some x17
                          else
                            some false
                        else
                          some false
          else
            F_R7_Check x4.1 >>= fun x19 =>
            if (!decide (x19 = (0 : Int))) = true then
              some false
            else
              F_path_Get x4.1 a1 >>= fun x20 =>
              if (!decide (x20.2 = (0 : Int))) = true then
                some false
              else
                F_R6_Equal x20.1 a2 >>= fun x21 =>
                if (!x21) = true then
                  some false
                else
                  F_L10_begins a1 a3 >>= fun x22 =>
                  if x22 = true then
                    F_L10_awake >>= fun x29 =>
                    some x29
                  else
                    F_L10_begins a3 a1 >>= fun x23 =>
                    if x23 = true then
                      F_L10_awake >>= fun x24 =>
                      some x24
                    else
                      F_path_Get a0 a3 >>= fun x25 =>
                      F_path_Get x4.1 a3 >>= fun x26 =>
                      if (decide (x25.2 = x26.2)) = true then
                        F_R6_Equal x25.1 x26.1 >>= fun x27 =>
                        if x27 = true then
                          F_L10_awake >>= fun x28 =>
                          some x28
                        else
                          some false
                      else
                        some false
    : Option (Bool)) := F_L10_PathReplaces.eq_def a0 a1 a2 a3
set_option maxHeartbeats 4000000 in
theorem S_F_L10_PathReplaces  (a0 : Node) (a1 : (List Int)) (a2 : Node) (a3 : (List Int)) (r : Bool) (h : (
    F_L10_small a0 >>= fun x1 =>
    if (!x1) = true then
      F_L10_awake >>= fun x30 =>
      some x30
    else
      F_L10_small a2 >>= fun x2 =>
      if (!x2) = true then
        F_L10_awake >>= fun x3 =>
        some x3
      else
        F_path_Replace a0 a1 a2 >>= fun x4 =>
        if (!decide (x4.2 = (0 : Int))) = true then
          if (decide (x4.2 = (5 : Int))) = true then
            F_L10_awake >>= fun x6 =>
            some x6
          else
            if (decide (x4.2 = (7 : Int))) = true then
              F_L10_awake >>= fun x5 =>
              some x5
            else
              some false
        else
          F_L10_small x4.1 >>= fun x7 =>
          if (!x7) = true then
            if (decide (((a1.map ic).length : Int) = (0 : Int))) = true then
              some false
            else
              F_R7_Check x4.1 >>= fun x8 =>
              if (!decide (x8 = (0 : Int))) = true then
                some false
              else
                F_path_Get x4.1 a1 >>= fun x9 =>
                if (!decide (x9.2 = (0 : Int))) = true then
                  some false
                else
                  F_R6_Equal x9.1 a2 >>= fun x10 =>
                  if (!x10) = true then
                    some false
                  else
                    F_L10_begins a1 a3 >>= fun x11 =>
                    if x11 = true then
                      F_L10_awake >>= fun x18 =>
                      some x18
                    else
                      F_L10_begins a3 a1 >>= fun x12 =>
                      if x12 = true then
                        F_L10_awake >>= fun x13 =>
                        some x13
                      else
                        F_path_Get a0 a3 >>= fun x14 =>
                        F_path_Get x4.1 a3 >>= fun x15 =>
                        if (decide (x14.2 = x15.2)) = true then
                          F_R6_Equal x14.1 x15.1 >>= fun x16 =>
                          if x16 = true then
                            F_L10_awake >>= fun x17 =>
                            some x17
                          else
                            some false
                        else
                          some false
          else
            F_R7_Check x4.1 >>= fun x19 =>
            if (!decide (x19 = (0 : Int))) = true then
              some false
            else
              F_path_Get x4.1 a1 >>= fun x20 =>
              if (!decide (x20.2 = (0 : Int))) = true then
                some false
              else
                F_R6_Equal x20.1 a2 >>= fun x21 =>
                if (!x21) = true then
                  some false
                else
                  F_L10_begins a1 a3 >>= fun x22 =>
                  if x22 = true then
                    F_L10_awake >>= fun x29 =>
                    some x29
                  else
                    F_L10_begins a3 a1 >>= fun x23 =>
                    if x23 = true then
                      F_L10_awake >>= fun x24 =>
                      some x24
                    else
                      F_path_Get a0 a3 >>= fun x25 =>
                      F_path_Get x4.1 a3 >>= fun x26 =>
                      if (decide (x25.2 = x26.2)) = true then
                        F_R6_Equal x25.1 x26.1 >>= fun x27 =>
                        if x27 = true then
                          F_L10_awake >>= fun x28 =>
                          some x28
                        else
                          some false
                      else
                        some false
    : Option (Bool)) = some r) : M_F_L10_PathReplaces a0 a1 a2 a3 r := by
  refine Fn_run (T := tt) (N := 103) (rs := [.tmp 8]) (fun vs w => by simp) Tryd.func5 rfl rfl rfl rfl (by kernel_rfl) (all_pure3 rfl) (closed3_pure _ rfl) ?_
  refine Ok_runB env [] rfl ?_
  obtain ⟨x1, hx, h⟩ := bind_some h
  refine Ok_call (H_F_L10_small _ _ hx) ?_
  refine Ok_runB env [] rfl ?_
  refine Ok_guard_f (fun hb => ?_) (fun hb => ?_)
  · replace h := ite_f hb h
    refine Ok_runB env [] rfl ?_
    obtain ⟨x2, hx, h⟩ := bind_some h
    refine Ok_call (H_F_L10_small _ _ hx) ?_
    refine Ok_runB env [] rfl ?_
    refine Ok_cond (fun hb => ?_) (fun hb => ?_)
    · replace h := ite_t hb h
      refine Ok_runB env [] rfl ?_
      obtain ⟨x3, hx, h⟩ := bind_some h
      refine Ok_call (H_F_L10_awake _ hx) ?_
      refine Ok_runB env [] rfl ?_
      cases h
      exact Ok_fin env rfl rfl (told_eq rfl)
    · replace h := ite_f hb h
      refine Ok_runB env [] rfl ?_
      obtain ⟨x4, hx, h⟩ := bind_some h
      refine Ok_call (H_F_path_Replace _ _ _ _ hx) ?_
      refine Ok_runB env [] rfl ?_
      refine Ok_cond (fun hb => ?_) (fun hb => ?_)
      · replace h := ite_t hb h
        refine Ok_runB env [] rfl ?_
        refine Ok_guard_f (fun hb => ?_) (fun hb => ?_)
        · replace h := ite_f hb h
          refine Ok_runB env [] rfl ?_
          refine Ok_guard_t (fun hb => ?_) (fun hb => ?_)
          · replace h := ite_t hb h
            refine Ok_runB env [] rfl ?_
            obtain ⟨x5, hx, h⟩ := bind_some h
            refine Ok_call (H_F_L10_awake _ hx) ?_
            refine Ok_runB env [] rfl ?_
            cases h
            exact Ok_fin env rfl rfl (told_eq rfl)
          · replace h := ite_f hb h
            refine Ok_runB env [] rfl ?_
            cases h
            exact Ok_fin env rfl rfl (told_eq rfl)
        · replace h := ite_t hb h
          refine Ok_runB env [] rfl ?_
          obtain ⟨x6, hx, h⟩ := bind_some h
          refine Ok_call (H_F_L10_awake _ hx) ?_
          refine Ok_runB env [] rfl ?_
          cases h
          exact Ok_fin env rfl rfl (told_eq rfl)
      · replace h := ite_f hb h
        refine Ok_runB env [] rfl ?_
        obtain ⟨x7, hx, h⟩ := bind_some h
        refine Ok_call (H_F_L10_small _ _ hx) ?_
        refine Ok_runB env [] rfl ?_
        refine Ok_guard_t (fun hb => ?_) (fun hb => ?_)
        · replace h := ite_t hb h
          refine Ok_runB env [] rfl ?_
          refine Ok_guard_f (fun hb => ?_) (fun hb => ?_)
          · replace h := ite_f hb h
            refine Ok_runB env [] rfl ?_
            obtain ⟨x8, hx, h⟩ := bind_some h
            refine Ok_call (H_F_R7_Check _ _ hx) ?_
            refine Ok_runB env [] rfl ?_
            refine Ok_cond (fun hb => ?_) (fun hb => ?_)
            · replace h := ite_t hb h
              refine Ok_runB env [] rfl ?_
              cases h
              exact Ok_fin env rfl rfl (told_eq rfl)
            · replace h := ite_f hb h
              refine Ok_runB env [] rfl ?_
              obtain ⟨x9, hx, h⟩ := bind_some h
              refine Ok_call (H_F_path_Get _ _ _ hx) ?_
              refine Ok_runB env [] rfl ?_
              refine Ok_guard_f (fun hb => ?_) (fun hb => ?_)
              · replace h := ite_f hb h
                refine Ok_runB env [] rfl ?_
                obtain ⟨x10, hx, h⟩ := bind_some h
                refine Ok_call (H_F_R6_Equal _ _ _ hx) ?_
                refine Ok_runB env [] rfl ?_
                refine Ok_cond (fun hb => ?_) (fun hb => ?_)
                · replace h := ite_t hb h
                  refine Ok_runB env [] rfl ?_
                  cases h
                  exact Ok_fin env rfl rfl (told_eq rfl)
                · replace h := ite_f hb h
                  refine Ok_runB env [] rfl ?_
                  obtain ⟨x11, hx, h⟩ := bind_some h
                  refine Ok_call (H_F_L10_begins _ _ _ hx) ?_
                  refine Ok_runB env [] rfl ?_
                  refine Ok_guard_f (fun hb => ?_) (fun hb => ?_)
                  · replace h := ite_f hb h
                    refine Ok_runB env [] rfl ?_
                    obtain ⟨x12, hx, h⟩ := bind_some h
                    refine Ok_call (H_F_L10_begins _ _ _ hx) ?_
                    refine Ok_runB env [] rfl ?_
                    refine Ok_cond (fun hb => ?_) (fun hb => ?_)
                    · replace h := ite_t hb h
                      refine Ok_runB env [] rfl ?_
                      obtain ⟨x13, hx, h⟩ := bind_some h
                      refine Ok_call (H_F_L10_awake _ hx) ?_
                      refine Ok_runB env [] rfl ?_
                      cases h
                      exact Ok_fin env rfl rfl (told_eq rfl)
                    · replace h := ite_f hb h
                      refine Ok_runB env [] rfl ?_
                      obtain ⟨x14, hx, h⟩ := bind_some h
                      refine Ok_call (H_F_path_Get _ _ _ hx) ?_
                      refine Ok_runB env [] rfl ?_
                      obtain ⟨x15, hx, h⟩ := bind_some h
                      refine Ok_call (H_F_path_Get _ _ _ hx) ?_
                      refine Ok_runB env [] rfl ?_
                      refine Ok_guard_t (fun hb => ?_) (fun hb => ?_)
                      · replace h := ite_t hb h
                        refine Ok_runB env [] rfl ?_
                        obtain ⟨x16, hx, h⟩ := bind_some h
                        refine Ok_call (H_F_R6_Equal _ _ _ hx) ?_
                        refine Ok_runB env [] rfl ?_
                        refine Ok_guard_t (fun hb => ?_) (fun hb => ?_)
                        · replace h := ite_t hb h
                          refine Ok_runB env [] rfl ?_
                          obtain ⟨x17, hx, h⟩ := bind_some h
                          refine Ok_call (H_F_L10_awake _ hx) ?_
                          refine Ok_runB env [] rfl ?_
                          cases h
                          exact Ok_fin env rfl rfl (told_eq rfl)
                        · replace h := ite_f hb h
                          refine Ok_runB env [] rfl ?_
                          cases h
                          exact Ok_fin env rfl rfl (told_eq rfl)
                      · replace h := ite_f hb h
                        refine Ok_runB env [] rfl ?_
                        cases h
                        exact Ok_fin env rfl rfl (told_eq rfl)
                  · replace h := ite_t hb h
                    refine Ok_runB env [] rfl ?_
                    obtain ⟨x18, hx, h⟩ := bind_some h
                    refine Ok_call (H_F_L10_awake _ hx) ?_
                    refine Ok_runB env [] rfl ?_
                    cases h
                    exact Ok_fin env rfl rfl (told_eq rfl)
              · replace h := ite_t hb h
                refine Ok_runB env [] rfl ?_
                cases h
                exact Ok_fin env rfl rfl (told_eq rfl)
          · replace h := ite_t hb h
            refine Ok_runB env [] rfl ?_
            cases h
            exact Ok_fin env rfl rfl (told_eq rfl)
        · replace h := ite_f hb h
          refine Ok_runB env [] rfl ?_
          obtain ⟨x19, hx, h⟩ := bind_some h
          refine Ok_call (H_F_R7_Check _ _ hx) ?_
          refine Ok_runB env [] rfl ?_
          refine Ok_cond (fun hb => ?_) (fun hb => ?_)
          · replace h := ite_t hb h
            refine Ok_runB env [] rfl ?_
            cases h
            exact Ok_fin env rfl rfl (told_eq rfl)
          · replace h := ite_f hb h
            refine Ok_runB env [] rfl ?_
            obtain ⟨x20, hx, h⟩ := bind_some h
            refine Ok_call (H_F_path_Get _ _ _ hx) ?_
            refine Ok_runB env [] rfl ?_
            refine Ok_guard_f (fun hb => ?_) (fun hb => ?_)
            · replace h := ite_f hb h
              refine Ok_runB env [] rfl ?_
              obtain ⟨x21, hx, h⟩ := bind_some h
              refine Ok_call (H_F_R6_Equal _ _ _ hx) ?_
              refine Ok_runB env [] rfl ?_
              refine Ok_cond (fun hb => ?_) (fun hb => ?_)
              · replace h := ite_t hb h
                refine Ok_runB env [] rfl ?_
                cases h
                exact Ok_fin env rfl rfl (told_eq rfl)
              · replace h := ite_f hb h
                refine Ok_runB env [] rfl ?_
                obtain ⟨x22, hx, h⟩ := bind_some h
                refine Ok_call (H_F_L10_begins _ _ _ hx) ?_
                refine Ok_runB env [] rfl ?_
                refine Ok_guard_f (fun hb => ?_) (fun hb => ?_)
                · replace h := ite_f hb h
                  refine Ok_runB env [] rfl ?_
                  obtain ⟨x23, hx, h⟩ := bind_some h
                  refine Ok_call (H_F_L10_begins _ _ _ hx) ?_
                  refine Ok_runB env [] rfl ?_
                  refine Ok_cond (fun hb => ?_) (fun hb => ?_)
                  · replace h := ite_t hb h
                    refine Ok_runB env [] rfl ?_
                    obtain ⟨x24, hx, h⟩ := bind_some h
                    refine Ok_call (H_F_L10_awake _ hx) ?_
                    refine Ok_runB env [] rfl ?_
                    cases h
                    exact Ok_fin env rfl rfl (told_eq rfl)
                  · replace h := ite_f hb h
                    refine Ok_runB env [] rfl ?_
                    obtain ⟨x25, hx, h⟩ := bind_some h
                    refine Ok_call (H_F_path_Get _ _ _ hx) ?_
                    refine Ok_runB env [] rfl ?_
                    obtain ⟨x26, hx, h⟩ := bind_some h
                    refine Ok_call (H_F_path_Get _ _ _ hx) ?_
                    refine Ok_runB env [] rfl ?_
                    refine Ok_guard_t (fun hb => ?_) (fun hb => ?_)
                    · replace h := ite_t hb h
                      refine Ok_runB env [] rfl ?_
                      obtain ⟨x27, hx, h⟩ := bind_some h
                      refine Ok_call (H_F_R6_Equal _ _ _ hx) ?_
                      refine Ok_runB env [] rfl ?_
                      refine Ok_guard_t (fun hb => ?_) (fun hb => ?_)
                      · replace h := ite_t hb h
                        refine Ok_runB env [] rfl ?_
                        obtain ⟨x28, hx, h⟩ := bind_some h
                        refine Ok_call (H_F_L10_awake _ hx) ?_
                        refine Ok_runB env [] rfl ?_
                        cases h
                        exact Ok_fin env rfl rfl (told_eq rfl)
                      · replace h := ite_f hb h
                        refine Ok_runB env [] rfl ?_
                        cases h
                        exact Ok_fin env rfl rfl (told_eq rfl)
                    · replace h := ite_f hb h
                      refine Ok_runB env [] rfl ?_
                      cases h
                      exact Ok_fin env rfl rfl (told_eq rfl)
                · replace h := ite_t hb h
                  refine Ok_runB env [] rfl ?_
                  obtain ⟨x29, hx, h⟩ := bind_some h
                  refine Ok_call (H_F_L10_awake _ hx) ?_
                  refine Ok_runB env [] rfl ?_
                  cases h
                  exact Ok_fin env rfl rfl (told_eq rfl)
            · replace h := ite_t hb h
              refine Ok_runB env [] rfl ?_
              cases h
              exact Ok_fin env rfl rfl (told_eq rfl)
  · replace h := ite_t hb h
    refine Ok_runB env [] rfl ?_
    obtain ⟨x30, hx, h⟩ := bind_some h
    refine Ok_call (H_F_L10_awake _ hx) ?_
    refine Ok_runB env [] rfl ?_
    cases h
    exact Ok_fin env rfl rfl (told_eq rfl)
/-- treemerge/treemergelaw10.PathReplaces -/
theorem H_F_L10_PathReplaces (a0 : Node) (a1 : (List Int)) (a2 : Node) (a3 : (List Int)) (r : Bool) (h : F_L10_PathReplaces a0 a1 a2 a3 = some r) : M_F_L10_PathReplaces a0 a1 a2 a3 r :=
  S_F_L10_PathReplaces a0 a1 a2 a3 r (by rw [E_F_L10_PathReplaces] at h; exact h)
mutual
def F_R6_Size (a0 : Node) : Option (Int) :=
  F_R6_Size_l0 (1 : Int) (0 : Int) (nofix a0)
  partial_fixpoint
def F_R6_Size_l0 (t3 : Int) (t4 : Int) (o0 : Node) : Option (Int) :=
  if (decide (t4 < ((o0.kids.map Node.cells).length : Int))) = true then
    ix o0.kids t4 >>= fun x1 =>
    F_R6_Size (nofix x1) >>= fun x2 =>
    F_R6_Size_l0 (IntKind.i64.wrap (t3 + x2)) (IntKind.i64.wrap (t4 + (1 : Int))) (nofix o0)
  else
    some t3
  partial_fixpoint
end
@[reducible] def M_F_R6_Size (a0 : Node) (r : Int) : Prop :=
  Fn Tryd.prog G 34 [(.agg (cellsN a0))] (.int .i64 r)
@[reducible] def M_F_R6_Size_l0 (t3 : Int) (t4 : Int) (o0 : Node) (r : Int) : Prop :=
  Ok Tryd.prog G tt 21 0 (Ret Tryd.prog [.tmp 2] (fun y H => Told Tryd.prog G H y (.int .i64 r))) (.again (loopOf [] Tryd.f34 0).1 (loopOf [] Tryd.f34 0).2 (.n .undef (.n (.ptr 0 0 0) (.n (.int .i64 t3) .z .z) .z) (.n .undef (.n (.int .i64 t4) .z .z) .z)) 1 [(0, .var 25 (cellsN o0))])
theorem E_F_R6_Size (a0 : Node) : F_R6_Size a0 = (
    F_R6_Size_l0 (1 : Int) (0 : Int) a0
    : Option (Int)) := F_R6_Size.eq_def a0
theorem E_F_R6_Size_l0 (t3 : Int) (t4 : Int) (o0 : Node) : F_R6_Size_l0 t3 t4 o0 = (
    if (decide (t4 < ((o0.kids.map Node.cells).length : Int))) = true then
      ix o0.kids t4 >>= fun x1 =>
      F_R6_Size x1 >>= fun x2 =>
      F_R6_Size_l0 (IntKind.i64.wrap (t3 + x2)) (IntKind.i64.wrap (t4 + (1 : Int))) o0
    else
      some t3
    : Option (Int)) := F_R6_Size_l0.eq_def t3 t4 o0
set_option maxHeartbeats 4000000 in
theorem S_F_R6_Size (F_R6_Size_l0 : Int → Int → Node → Option (Int)) (H_F_R6_Size_l0 : ∀ (t3 : Int) (t4 : Int) (o0 : Node) (r : Int), F_R6_Size_l0 t3 t4 o0 = some r → M_F_R6_Size_l0 t3 t4 o0 r) (a0 : Node) (r : Int) (h : (
    F_R6_Size_l0 (1 : Int) (0 : Int) a0
    : Option (Int)) = some r) : M_F_R6_Size a0 r := by
  refine Fn_run (T := tt) (N := 21) (rs := [.tmp 2]) (fun vs w => by simp) Tryd.func34 rfl rfl rfl rfl (by kernel_rfl) (all_pure3 rfl) (closed3_pure _ rfl) ?_
  refine Ok_runB env [] rfl ?_
  exact Ok_loop_to (by kernel_rfl) (less_at (by simp [leFT, leV, leOs, leO, leC, rho, AV.ren, AV.ren1, AV.ren0, AV.un, AV.un1, AV.un0, AV.closed, wkS] <;> (repeat' apply And.intro) <;> first | rfl) (by simp [leFT, leV, leOs, leO, leC, rho, AV.ren, AV.ren1, AV.ren0, AV.un, AV.un1, AV.un0, AV.closed, wkS] <;> (repeat' apply And.intro) <;> first | rfl)) (H_F_R6_Size_l0 _ _ _ _ h)
set_option maxHeartbeats 4000000 in
theorem S_F_R6_Size_l0 (F_R6_Size : Node → Option (Int)) (F_R6_Size_l0 : Int → Int → Node → Option (Int)) (H_F_R6_Size : ∀ (a0 : Node) (r : Int), F_R6_Size a0 = some r → M_F_R6_Size a0 r) (H_F_R6_Size_l0 : ∀ (t3 : Int) (t4 : Int) (o0 : Node) (r : Int), F_R6_Size_l0 t3 t4 o0 = some r → M_F_R6_Size_l0 t3 t4 o0 r) (t3 : Int) (t4 : Int) (o0 : Node) (r : Int) (h : (
    if (decide (t4 < ((o0.kids.map Node.cells).length : Int))) = true then
      ix o0.kids t4 >>= fun x1 =>
      F_R6_Size x1 >>= fun x2 =>
      F_R6_Size_l0 (IntKind.i64.wrap (t3 + x2)) (IntKind.i64.wrap (t4 + (1 : Int))) o0
    else
      some t3
    : Option (Int)) = some r) : M_F_R6_Size_l0 t3 t4 o0 r := by
  refine Ok_unroll ?_
  refine Ok_runB env [] rfl ?_
  refine Ok_cond (fun hb => ?_) (fun hb => ?_)
  · replace h := ite_t hb h
    refine Ok_runB env [] rfl ?_
    obtain ⟨x1, hx, h⟩ := bind_some h
    refine Ok_ixT env hx rfl rfl rfl rfl (Node.cells_eq x1) ?_
    refine Ok_runB env [] rfl ?_
    obtain ⟨x2, hx, h⟩ := bind_some h
    refine Ok_call (H_F_R6_Size _ _ hx) ?_
    refine Ok_runB env [] rfl ?_
    exact Ok_again_to (by kernel_rfl) (less_at (by simp [leFT, leV, leOs, leO, leC, rho, AV.ren, AV.ren1, AV.ren0, AV.un, AV.un1, AV.un0, AV.closed, wkS] <;> (repeat' apply And.intro) <;> first | rfl) (by simp [leFT, leV, leOs, leO, leC, rho, AV.ren, AV.ren1, AV.ren0, AV.un, AV.un1, AV.un0, AV.closed, wkS] <;> (repeat' apply And.intro) <;> first | rfl)) (H_F_R6_Size_l0 _ _ _ _ h)
  · replace h := ite_f hb h
    refine Ok_runB env [] rfl ?_
    cases h
    exact Ok_fin env rfl rfl (told_eq rfl)
/-- treemerge/treemergeref06.Size -/
theorem H_F_R6_Size (a0 : Node) (r : Int) (h : F_R6_Size a0 = some r) : M_F_R6_Size a0 r :=
  (F_R6_Size.mutual_partial_correctness (fun a0 r => M_F_R6_Size a0 r) (fun t3 t4 o0 r => M_F_R6_Size_l0 t3 t4 o0 r) (fun F0 h0 => S_F_R6_Size F0 h0) (fun F0 F1 h0 h1 => S_F_R6_Size_l0 F0 F1 h0 h1)).1 a0 r h
/-- treemerge/treemergeref06.Size -/
theorem H_F_R6_Size_l0 (t3 : Int) (t4 : Int) (o0 : Node) (r : Int) (h : F_R6_Size_l0 t3 t4 o0 = some r) : M_F_R6_Size_l0 t3 t4 o0 r :=
  (F_R6_Size.mutual_partial_correctness (fun a0 r => M_F_R6_Size a0 r) (fun t3 t4 o0 r => M_F_R6_Size_l0 t3 t4 o0 r) (fun F0 h0 => S_F_R6_Size F0 h0) (fun F0 F1 h0 h1 => S_F_R6_Size_l0 F0 F1 h0 h1)).2 t3 t4 o0 r h
mutual
def F_R6_find (a0 : Node) (a1 : Int) : Option (Node × Int × Bool) :=
  if (decide (a1 = (0 : Int))) = true then
    some (a0, (0 : Int), true)
  else
    F_R6_find_l0 (IntKind.i64.wrap (a1 - (1 : Int))) (0 : Int) (nofix a0)
  partial_fixpoint
def F_R6_find_l0 (t7 : Int) (t8 : Int) (o0 : Node) : Option (Node × Int × Bool) :=
  if (decide (t8 < ((o0.kids.map Node.cells).length : Int))) = true then
    ix o0.kids t8 >>= fun x1 =>
    F_R6_find (nofix x1) (nofix t7) >>= fun x2 =>
    if x2.2.2 = true then
      some (x2.1, (0 : Int), true)
    else
      F_R6_find_l0 x2.2.1 (IntKind.i64.wrap (t8 + (1 : Int))) (nofix o0)
  else
    some ((Node.mk 0 (⟨#[]⟩) ([] : (List ByteArray)) ([] : (List Node))), t7, false)
  partial_fixpoint
end
@[reducible] def M_F_R6_find (a0 : Node) (a1 : Int) (r : Node × Int × Bool) : Prop :=
  Fn Tryd.prog G 69 [(.agg (cellsN a0)), (.int .i64 a1)] (.tup [(.agg (cellsN r.1)), (.int .i64 r.2.1), (.bool r.2.2)])
@[reducible] def M_F_R6_find_l0 (t7 : Int) (t8 : Int) (o0 : Node) (r : Node × Int × Bool) : Prop :=
  Ok Tryd.prog G tt 40 0 (Ret Tryd.prog [.cell 4 25, .tmp 5, .tmp 6] (fun y H => Told Tryd.prog G H y (.tup [(.agg (cellsN r.1)), (.int .i64 r.2.1), (.bool r.2.2)]))) (.again (loopOf [] Tryd.f69 0).1 (loopOf [] Tryd.f69 0).2 (.n .undef (.n .undef (.n .undef (.n (.int .i64 t7) .z .z) .z) .z) (.n (.ptr 0 0 0) (.n (.ptr 1 1 0) (.n (.int .i64 t8) .z .z) .z) .z)) 2 [(0, .var 25 (cellsN o0)), (1, .var 25 [(.int .i64 0), (.str ⟨#[]⟩), (.sl 1 false (([] : (List ByteArray)).map sc)), (.sl 4 false (([] : (List Node)).map Node.cells))])])
theorem E_F_R6_find (a0 : Node) (a1 : Int) : F_R6_find a0 a1 = (
    if (decide (a1 = (0 : Int))) = true then
      some (a0, (0 : Int), true)
    else
      F_R6_find_l0 (IntKind.i64.wrap (a1 - (1 : Int))) (0 : Int) a0
    : Option (Node × Int × Bool)) := F_R6_find.eq_def a0 a1
theorem E_F_R6_find_l0 (t7 : Int) (t8 : Int) (o0 : Node) : F_R6_find_l0 t7 t8 o0 = (
    if (decide (t8 < ((o0.kids.map Node.cells).length : Int))) = true then
      ix o0.kids t8 >>= fun x1 =>
      F_R6_find x1 t7 >>= fun x2 =>
      if x2.2.2 = true then
        some (x2.1, (0 : Int), true)
      else
        F_R6_find_l0 x2.2.1 (IntKind.i64.wrap (t8 + (1 : Int))) o0
    else
      some ((Node.mk 0 (⟨#[]⟩) ([] : (List ByteArray)) ([] : (List Node))), t7, false)
    : Option (Node × Int × Bool)) := F_R6_find_l0.eq_def t7 t8 o0
set_option maxHeartbeats 4000000 in
theorem S_F_R6_find (F_R6_find_l0 : Int → Int → Node → Option (Node × Int × Bool)) (H_F_R6_find_l0 : ∀ (t7 : Int) (t8 : Int) (o0 : Node) (r : Node × Int × Bool), F_R6_find_l0 t7 t8 o0 = some r → M_F_R6_find_l0 t7 t8 o0 r) (a0 : Node) (a1 : Int) (r : Node × Int × Bool) (h : (
    if (decide (a1 = (0 : Int))) = true then
      some (a0, (0 : Int), true)
    else
      F_R6_find_l0 (IntKind.i64.wrap (a1 - (1 : Int))) (0 : Int) a0
    : Option (Node × Int × Bool)) = some r) : M_F_R6_find a0 a1 r := by
  refine Fn_run (T := tt) (N := 40) (rs := [.cell 4 25, .tmp 5, .tmp 6]) (fun vs w => by simp) Tryd.func69 rfl rfl rfl rfl (by kernel_rfl) (all_pure3 rfl) (closed3_pure _ rfl) ?_
  refine Ok_runB env [] rfl ?_
  refine Ok_cond (fun hb => ?_) (fun hb => ?_)
  · replace h := ite_t hb h
    refine Ok_runB env [] rfl ?_
    cases h
    exact Ok_fin env rfl rfl (told_eq rfl)
  · replace h := ite_f hb h
    refine Ok_runB env [] rfl ?_
    exact Ok_loop_to (by kernel_rfl) (less_at (by simp [leFT, leV, leOs, leO, leC, rho, AV.ren, AV.ren1, AV.ren0, AV.un, AV.un1, AV.un0, AV.closed, wkS] <;> (repeat' apply And.intro) <;> first | rfl) (by simp [leFT, leV, leOs, leO, leC, rho, AV.ren, AV.ren1, AV.ren0, AV.un, AV.un1, AV.un0, AV.closed, wkS] <;> (repeat' apply And.intro) <;> first | rfl)) (H_F_R6_find_l0 _ _ _ _ h)
set_option maxHeartbeats 4000000 in
theorem S_F_R6_find_l0 (F_R6_find : Node → Int → Option (Node × Int × Bool)) (F_R6_find_l0 : Int → Int → Node → Option (Node × Int × Bool)) (H_F_R6_find : ∀ (a0 : Node) (a1 : Int) (r : Node × Int × Bool), F_R6_find a0 a1 = some r → M_F_R6_find a0 a1 r) (H_F_R6_find_l0 : ∀ (t7 : Int) (t8 : Int) (o0 : Node) (r : Node × Int × Bool), F_R6_find_l0 t7 t8 o0 = some r → M_F_R6_find_l0 t7 t8 o0 r) (t7 : Int) (t8 : Int) (o0 : Node) (r : Node × Int × Bool) (h : (
    if (decide (t8 < ((o0.kids.map Node.cells).length : Int))) = true then
      ix o0.kids t8 >>= fun x1 =>
      F_R6_find x1 t7 >>= fun x2 =>
      if x2.2.2 = true then
        some (x2.1, (0 : Int), true)
      else
        F_R6_find_l0 x2.2.1 (IntKind.i64.wrap (t8 + (1 : Int))) o0
    else
      some ((Node.mk 0 (⟨#[]⟩) ([] : (List ByteArray)) ([] : (List Node))), t7, false)
    : Option (Node × Int × Bool)) = some r) : M_F_R6_find_l0 t7 t8 o0 r := by
  refine Ok_unroll ?_
  refine Ok_runB env [] rfl ?_
  refine Ok_cond (fun hb => ?_) (fun hb => ?_)
  · replace h := ite_t hb h
    refine Ok_runB env [] rfl ?_
    obtain ⟨x1, hx, h⟩ := bind_some h
    refine Ok_ixT env hx rfl rfl rfl rfl (Node.cells_eq x1) ?_
    refine Ok_runB env [] rfl ?_
    obtain ⟨x2, hx, h⟩ := bind_some h
    refine Ok_call (H_F_R6_find _ _ _ hx) ?_
    refine Ok_runB env [] rfl ?_
    refine Ok_cond (fun hb => ?_) (fun hb => ?_)
    · replace h := ite_t hb h
      refine Ok_runB env [] rfl ?_
      cases h
      exact Ok_fin env rfl rfl (told_eq rfl)
    · replace h := ite_f hb h
      refine Ok_runB env [] rfl ?_
      exact Ok_again_to (by kernel_rfl) (less_at (by simp [leFT, leV, leOs, leO, leC, rho, AV.ren, AV.ren1, AV.ren0, AV.un, AV.un1, AV.un0, AV.closed, wkS] <;> (repeat' apply And.intro) <;> first | rfl) (by simp [leFT, leV, leOs, leO, leC, rho, AV.ren, AV.ren1, AV.ren0, AV.un, AV.un1, AV.un0, AV.closed, wkS] <;> (repeat' apply And.intro) <;> first | rfl)) (H_F_R6_find_l0 _ _ _ _ h)
  · replace h := ite_f hb h
    refine Ok_runB env [] rfl ?_
    cases h
    exact Ok_fin env rfl rfl (told_view (viewT_tup (viewLs_cons (view_agg (viewL_cons (view1_int rfl) (viewL_cons (view1_str rfl) (viewL_cons (view1_sl (.inr rfl)) (viewL_cons (view1_sl (.inr rfl)) viewL_nil))))) (viewLs_cons (view_one (view1_int rfl) (by simp)) (viewLs_cons (view_one (view1_bool rfl) (by simp)) viewLs_nil)))))
/-- treemerge/treemergeref06.find -/
theorem H_F_R6_find (a0 : Node) (a1 : Int) (r : Node × Int × Bool) (h : F_R6_find a0 a1 = some r) : M_F_R6_find a0 a1 r :=
  (F_R6_find.mutual_partial_correctness (fun a0 a1 r => M_F_R6_find a0 a1 r) (fun t7 t8 o0 r => M_F_R6_find_l0 t7 t8 o0 r) (fun F0 h0 => S_F_R6_find F0 h0) (fun F0 F1 h0 h1 => S_F_R6_find_l0 F0 F1 h0 h1)).1 a0 a1 r h
/-- treemerge/treemergeref06.find -/
theorem H_F_R6_find_l0 (t7 : Int) (t8 : Int) (o0 : Node) (r : Node × Int × Bool) (h : F_R6_find_l0 t7 t8 o0 = some r) : M_F_R6_find_l0 t7 t8 o0 r :=
  (F_R6_find.mutual_partial_correctness (fun a0 a1 r => M_F_R6_find a0 a1 r) (fun t7 t8 o0 r => M_F_R6_find_l0 t7 t8 o0 r) (fun F0 h0 => S_F_R6_find F0 h0) (fun F0 F1 h0 h1 => S_F_R6_find_l0 F0 F1 h0 h1)).2 t7 t8 o0 r h
def F_R6_At (a0 : Node) (a1 : Int) : Option (Node × Bool) :=
  if (decide (a1 < (0 : Int))) = true then
    some ((Node.mk 0 (⟨#[]⟩) ([] : (List ByteArray)) ([] : (List Node))), false)
  else
    F_R6_find a0 a1 >>= fun x1 =>
    some (x1.1, x1.2.2)
@[reducible] def M_F_R6_At (a0 : Node) (a1 : Int) (r : Node × Bool) : Prop :=
  Fn Tryd.prog G 35 [(.agg (cellsN a0)), (.int .i64 a1)] (.tup [(.agg (cellsN r.1)), (.bool r.2)])
theorem E_F_R6_At (a0 : Node) (a1 : Int) : F_R6_At a0 a1 = (
    if (decide (a1 < (0 : Int))) = true then
      some ((Node.mk 0 (⟨#[]⟩) ([] : (List ByteArray)) ([] : (List Node))), false)
    else
      F_R6_find a0 a1 >>= fun x1 =>
      some (x1.1, x1.2.2)
    : Option (Node × Bool)) := F_R6_At.eq_def a0 a1
set_option maxHeartbeats 4000000 in
theorem S_F_R6_At  (a0 : Node) (a1 : Int) (r : Node × Bool) (h : (
    if (decide (a1 < (0 : Int))) = true then
      some ((Node.mk 0 (⟨#[]⟩) ([] : (List ByteArray)) ([] : (List Node))), false)
    else
      F_R6_find a0 a1 >>= fun x1 =>
      some (x1.1, x1.2.2)
    : Option (Node × Bool)) = some r) : M_F_R6_At a0 a1 r := by
  refine Fn_run (T := tt) (N := 21) (rs := [.cell 4 25, .tmp 5]) (fun vs w => by simp) Tryd.func35 rfl rfl rfl rfl (by kernel_rfl) (all_pure3 rfl) (closed3_pure _ rfl) ?_
  refine Ok_runB env [] rfl ?_
  refine Ok_cond (fun hb => ?_) (fun hb => ?_)
  · replace h := ite_t hb h
    refine Ok_runB env [] rfl ?_
    cases h
    exact Ok_fin env rfl rfl (told_view (viewT_tup (viewLs_cons (view_agg (viewL_cons (view1_int rfl) (viewL_cons (view1_str rfl) (viewL_cons (view1_sl (.inr rfl)) (viewL_cons (view1_sl (.inr rfl)) viewL_nil))))) (viewLs_cons (view_one (view1_bool rfl) (by simp)) viewLs_nil))))
  · replace h := ite_f hb h
    refine Ok_runB env [] rfl ?_
    obtain ⟨x1, hx, h⟩ := bind_some h
    refine Ok_call (H_F_R6_find _ _ _ hx) ?_
    refine Ok_runB env [] rfl ?_
    cases h
    exact Ok_fin env rfl rfl (told_eq rfl)
/-- treemerge/treemergeref06.At -/
theorem H_F_R6_At (a0 : Node) (a1 : Int) (r : Node × Bool) (h : F_R6_At a0 a1 = some r) : M_F_R6_At a0 a1 r :=
  S_F_R6_At a0 a1 r (by rw [E_F_R6_At] at h; exact h)
def F_L10_PathIndexes (a0 : Node) (a1 : Int) : Option (Bool) :=
  F_L10_small a0 >>= fun x1 =>
  if (!x1) = true then
    F_L10_awake >>= fun x2 =>
    some x2
  else
    F_path_Of a0 a1 >>= fun x3 =>
    if (decide ((0 : Int) ≤ a1)) = true then
      F_R6_Size a0 >>= fun x4 =>
      if (!(x3.2 == (decide (a1 < x4)))) = true then
        some false
      else
        if (!x3.2) = true then
          if (decide (((x3.1.map ic).length : Int) = (0 : Int))) = true then
            F_L10_awake >>= fun x5 =>
            some x5
          else
            some false
        else
          F_path_Index a0 x3.1 >>= fun x6 =>
          F_path_Get a0 x3.1 >>= fun x7 =>
          F_R6_At a0 a1 >>= fun x8 =>
          if x6.2 = true then
            if (decide (x6.1 = a1)) = true then
              if (decide (x7.2 = (0 : Int))) = true then
                F_R6_Equal x7.1 x8.1 >>= fun x9 =>
                if x9 = true then
                  F_L10_awake >>= fun x10 =>
                  some x10
                else
                  some false
              else
                some false
            else
              some false
          else
            some false
    else
      if (!(x3.2 == false)) = true then
        some false
      else
        if (!x3.2) = true then
          if (decide (((x3.1.map ic).length : Int) = (0 : Int))) = true then
            F_L10_awake >>= fun x11 =>
            some x11
          else
            some false
        else
          F_path_Index a0 x3.1 >>= fun x12 =>
          F_path_Get a0 x3.1 >>= fun x13 =>
          F_R6_At a0 a1 >>= fun x14 =>
          if x12.2 = true then
            if (decide (x12.1 = a1)) = true then
              if (decide (x13.2 = (0 : Int))) = true then
                F_R6_Equal x13.1 x14.1 >>= fun x15 =>
                if x15 = true then
                  F_L10_awake >>= fun x16 =>
                  some x16
                else
                  some false
              else
                some false
            else
              some false
          else
            some false
@[reducible] def M_F_L10_PathIndexes (a0 : Node) (a1 : Int) (r : Bool) : Prop :=
  Fn Tryd.prog G 6 [(.agg (cellsN a0)), (.int .i64 a1)] (.bool r)
theorem E_F_L10_PathIndexes (a0 : Node) (a1 : Int) : F_L10_PathIndexes a0 a1 = (
    F_L10_small a0 >>= fun x1 =>
    if (!x1) = true then
      F_L10_awake >>= fun x2 =>
      some x2
    else
      F_path_Of a0 a1 >>= fun x3 =>
      if (decide ((0 : Int) ≤ a1)) = true then
        F_R6_Size a0 >>= fun x4 =>
        if (!(x3.2 == (decide (a1 < x4)))) = true then
          some false
        else
          if (!x3.2) = true then
            if (decide (((x3.1.map ic).length : Int) = (0 : Int))) = true then
              F_L10_awake >>= fun x5 =>
              some x5
            else
              some false
          else
            F_path_Index a0 x3.1 >>= fun x6 =>
            F_path_Get a0 x3.1 >>= fun x7 =>
            F_R6_At a0 a1 >>= fun x8 =>
            if x6.2 = true then
              if (decide (x6.1 = a1)) = true then
                if (decide (x7.2 = (0 : Int))) = true then
                  F_R6_Equal x7.1 x8.1 >>= fun x9 =>
                  if x9 = true then
                    F_L10_awake >>= fun x10 =>
                    some x10
                  else
                    some false
                else
                  some false
              else
                some false
            else
              some false
      else
        if (!(x3.2 == false)) = true then
          some false
        else
          if (!x3.2) = true then
            if (decide (((x3.1.map ic).length : Int) = (0 : Int))) = true then
              F_L10_awake >>= fun x11 =>
              some x11
            else
              some false
          else
            F_path_Index a0 x3.1 >>= fun x12 =>
            F_path_Get a0 x3.1 >>= fun x13 =>
            F_R6_At a0 a1 >>= fun x14 =>
            if x12.2 = true then
              if (decide (x12.1 = a1)) = true then
                if (decide (x13.2 = (0 : Int))) = true then
                  F_R6_Equal x13.1 x14.1 >>= fun x15 =>
                  if x15 = true then
                    F_L10_awake >>= fun x16 =>
                    some x16
                  else
                    some false
                else
                  some false
              else
                some false
            else
              some false
    : Option (Bool)) := F_L10_PathIndexes.eq_def a0 a1
set_option maxHeartbeats 4000000 in
theorem S_F_L10_PathIndexes  (a0 : Node) (a1 : Int) (r : Bool) (h : (
    F_L10_small a0 >>= fun x1 =>
    if (!x1) = true then
      F_L10_awake >>= fun x2 =>
      some x2
    else
      F_path_Of a0 a1 >>= fun x3 =>
      if (decide ((0 : Int) ≤ a1)) = true then
        F_R6_Size a0 >>= fun x4 =>
        if (!(x3.2 == (decide (a1 < x4)))) = true then
          some false
        else
          if (!x3.2) = true then
            if (decide (((x3.1.map ic).length : Int) = (0 : Int))) = true then
              F_L10_awake >>= fun x5 =>
              some x5
            else
              some false
          else
            F_path_Index a0 x3.1 >>= fun x6 =>
            F_path_Get a0 x3.1 >>= fun x7 =>
            F_R6_At a0 a1 >>= fun x8 =>
            if x6.2 = true then
              if (decide (x6.1 = a1)) = true then
                if (decide (x7.2 = (0 : Int))) = true then
                  F_R6_Equal x7.1 x8.1 >>= fun x9 =>
                  if x9 = true then
                    F_L10_awake >>= fun x10 =>
                    some x10
                  else
                    some false
                else
                  some false
              else
                some false
            else
              some false
      else
        if (!(x3.2 == false)) = true then
          some false
        else
          if (!x3.2) = true then
            if (decide (((x3.1.map ic).length : Int) = (0 : Int))) = true then
              F_L10_awake >>= fun x11 =>
              some x11
            else
              some false
          else
            F_path_Index a0 x3.1 >>= fun x12 =>
            F_path_Get a0 x3.1 >>= fun x13 =>
            F_R6_At a0 a1 >>= fun x14 =>
            if x12.2 = true then
              if (decide (x12.1 = a1)) = true then
                if (decide (x13.2 = (0 : Int))) = true then
                  F_R6_Equal x13.1 x14.1 >>= fun x15 =>
                  if x15 = true then
                    F_L10_awake >>= fun x16 =>
                    some x16
                  else
                    some false
                else
                  some false
              else
                some false
            else
              some false
    : Option (Bool)) = some r) : M_F_L10_PathIndexes a0 a1 r := by
  refine Fn_run (T := tt) (N := 77) (rs := [.tmp 4]) (fun vs w => by simp) Tryd.func6 rfl rfl rfl rfl (by kernel_rfl) (all_pure3 rfl) (closed3_pure _ rfl) ?_
  refine Ok_runB env [] rfl ?_
  obtain ⟨x1, hx, h⟩ := bind_some h
  refine Ok_call (H_F_L10_small _ _ hx) ?_
  refine Ok_runB env [] rfl ?_
  refine Ok_cond (fun hb => ?_) (fun hb => ?_)
  · replace h := ite_t hb h
    refine Ok_runB env [] rfl ?_
    obtain ⟨x2, hx, h⟩ := bind_some h
    refine Ok_call (H_F_L10_awake _ hx) ?_
    refine Ok_runB env [] rfl ?_
    cases h
    exact Ok_fin env rfl rfl (told_eq rfl)
  · replace h := ite_f hb h
    refine Ok_runB env [] rfl ?_
    obtain ⟨x3, hx, h⟩ := bind_some h
    refine Ok_call (H_F_path_Of _ _ _ hx) ?_
    refine Ok_runB env [] rfl ?_
    refine Ok_guard_t (fun hb => ?_) (fun hb => ?_)
    · replace h := ite_t hb h
      refine Ok_runB env [] rfl ?_
      obtain ⟨x4, hx, h⟩ := bind_some h
      refine Ok_call (H_F_R6_Size _ _ hx) ?_
      refine Ok_runB env [] rfl ?_
      refine Ok_cond (fun hb => ?_) (fun hb => ?_)
      · replace h := ite_t hb h
        refine Ok_runB env [] rfl ?_
        cases h
        exact Ok_fin env rfl rfl (told_eq rfl)
      · replace h := ite_f hb h
        refine Ok_runB env [] rfl ?_
        refine Ok_cond (fun hb => ?_) (fun hb => ?_)
        · replace h := ite_t hb h
          refine Ok_runB env [] rfl ?_
          refine Ok_guard_t (fun hb => ?_) (fun hb => ?_)
          · replace h := ite_t hb h
            refine Ok_runB env [] rfl ?_
            obtain ⟨x5, hx, h⟩ := bind_some h
            refine Ok_call (H_F_L10_awake _ hx) ?_
            refine Ok_runB env [] rfl ?_
            cases h
            exact Ok_fin env rfl rfl (told_eq rfl)
          · replace h := ite_f hb h
            refine Ok_runB env [] rfl ?_
            cases h
            exact Ok_fin env rfl rfl (told_eq rfl)
        · replace h := ite_f hb h
          refine Ok_runB env [] rfl ?_
          obtain ⟨x6, hx, h⟩ := bind_some h
          refine Ok_call (H_F_path_Index _ _ _ hx) ?_
          refine Ok_runB env [] rfl ?_
          obtain ⟨x7, hx, h⟩ := bind_some h
          refine Ok_call (H_F_path_Get _ _ _ hx) ?_
          refine Ok_runB env [] rfl ?_
          obtain ⟨x8, hx, h⟩ := bind_some h
          refine Ok_call (H_F_R6_At _ _ _ hx) ?_
          refine Ok_runB env [] rfl ?_
          refine Ok_guard_t (fun hb => ?_) (fun hb => ?_)
          · replace h := ite_t hb h
            refine Ok_runB env [] rfl ?_
            refine Ok_guard_t (fun hb => ?_) (fun hb => ?_)
            · replace h := ite_t hb h
              refine Ok_runB env [] rfl ?_
              refine Ok_guard_t (fun hb => ?_) (fun hb => ?_)
              · replace h := ite_t hb h
                refine Ok_runB env [] rfl ?_
                obtain ⟨x9, hx, h⟩ := bind_some h
                refine Ok_call (H_F_R6_Equal _ _ _ hx) ?_
                refine Ok_runB env [] rfl ?_
                refine Ok_guard_t (fun hb => ?_) (fun hb => ?_)
                · replace h := ite_t hb h
                  refine Ok_runB env [] rfl ?_
                  obtain ⟨x10, hx, h⟩ := bind_some h
                  refine Ok_call (H_F_L10_awake _ hx) ?_
                  refine Ok_runB env [] rfl ?_
                  cases h
                  exact Ok_fin env rfl rfl (told_eq rfl)
                · replace h := ite_f hb h
                  refine Ok_runB env [] rfl ?_
                  cases h
                  exact Ok_fin env rfl rfl (told_eq rfl)
              · replace h := ite_f hb h
                refine Ok_runB env [] rfl ?_
                cases h
                exact Ok_fin env rfl rfl (told_eq rfl)
            · replace h := ite_f hb h
              refine Ok_runB env [] rfl ?_
              cases h
              exact Ok_fin env rfl rfl (told_eq rfl)
          · replace h := ite_f hb h
            refine Ok_runB env [] rfl ?_
            cases h
            exact Ok_fin env rfl rfl (told_eq rfl)
    · replace h := ite_f hb h
      refine Ok_runB env [] rfl ?_
      refine Ok_cond (fun hb => ?_) (fun hb => ?_)
      · replace h := ite_t hb h
        refine Ok_runB env [] rfl ?_
        cases h
        exact Ok_fin env rfl rfl (told_eq rfl)
      · replace h := ite_f hb h
        refine Ok_runB env [] rfl ?_
        refine Ok_cond (fun hb => ?_) (fun hb => ?_)
        · replace h := ite_t hb h
          refine Ok_runB env [] rfl ?_
          refine Ok_guard_t (fun hb => ?_) (fun hb => ?_)
          · replace h := ite_t hb h
            refine Ok_runB env [] rfl ?_
            obtain ⟨x11, hx, h⟩ := bind_some h
            refine Ok_call (H_F_L10_awake _ hx) ?_
            refine Ok_runB env [] rfl ?_
            cases h
            exact Ok_fin env rfl rfl (told_eq rfl)
          · replace h := ite_f hb h
            refine Ok_runB env [] rfl ?_
            cases h
            exact Ok_fin env rfl rfl (told_eq rfl)
        · replace h := ite_f hb h
          refine Ok_runB env [] rfl ?_
          obtain ⟨x12, hx, h⟩ := bind_some h
          refine Ok_call (H_F_path_Index _ _ _ hx) ?_
          refine Ok_runB env [] rfl ?_
          obtain ⟨x13, hx, h⟩ := bind_some h
          refine Ok_call (H_F_path_Get _ _ _ hx) ?_
          refine Ok_runB env [] rfl ?_
          obtain ⟨x14, hx, h⟩ := bind_some h
          refine Ok_call (H_F_R6_At _ _ _ hx) ?_
          refine Ok_runB env [] rfl ?_
          refine Ok_guard_t (fun hb => ?_) (fun hb => ?_)
          · replace h := ite_t hb h
            refine Ok_runB env [] rfl ?_
            refine Ok_guard_t (fun hb => ?_) (fun hb => ?_)
            · replace h := ite_t hb h
              refine Ok_runB env [] rfl ?_
              refine Ok_guard_t (fun hb => ?_) (fun hb => ?_)
              · replace h := ite_t hb h
                refine Ok_runB env [] rfl ?_
                obtain ⟨x15, hx, h⟩ := bind_some h
                refine Ok_call (H_F_R6_Equal _ _ _ hx) ?_
                refine Ok_runB env [] rfl ?_
                refine Ok_guard_t (fun hb => ?_) (fun hb => ?_)
                · replace h := ite_t hb h
                  refine Ok_runB env [] rfl ?_
                  obtain ⟨x16, hx, h⟩ := bind_some h
                  refine Ok_call (H_F_L10_awake _ hx) ?_
                  refine Ok_runB env [] rfl ?_
                  cases h
                  exact Ok_fin env rfl rfl (told_eq rfl)
                · replace h := ite_f hb h
                  refine Ok_runB env [] rfl ?_
                  cases h
                  exact Ok_fin env rfl rfl (told_eq rfl)
              · replace h := ite_f hb h
                refine Ok_runB env [] rfl ?_
                cases h
                exact Ok_fin env rfl rfl (told_eq rfl)
            · replace h := ite_f hb h
              refine Ok_runB env [] rfl ?_
              cases h
              exact Ok_fin env rfl rfl (told_eq rfl)
          · replace h := ite_f hb h
            refine Ok_runB env [] rfl ?_
            cases h
            exact Ok_fin env rfl rfl (told_eq rfl)
/-- treemerge/treemergelaw10.PathIndexes -/
theorem H_F_L10_PathIndexes (a0 : Node) (a1 : Int) (r : Bool) (h : F_L10_PathIndexes a0 a1 = some r) : M_F_L10_PathIndexes a0 a1 r :=
  S_F_L10_PathIndexes a0 a1 r (by rw [E_F_L10_PathIndexes] at h; exact h)
mutual
def F_R6_Same (a0 : Node) (a1 : Node) : Option (Bool) :=
  if (!decide (a0.kind = a1.kind)) = true then
    some false
  else
    if (!decide (a0.text = a1.text)) = true then
      some false
    else
      if (!decide (((a0.kids.map Node.cells).length : Int) = ((a1.kids.map Node.cells).length : Int))) = true then
        some false
      else
        F_R6_Same_l0 (0 : Int) (nofix a0) (nofix a1)
  partial_fixpoint
def F_R6_Same_l0 (t5 : Int) (o0 : Node) (o1 : Node) : Option (Bool) :=
  if (decide (t5 < ((o0.kids.map Node.cells).length : Int))) = true then
    ix o0.kids t5 >>= fun x1 =>
    ix o1.kids t5 >>= fun x2 =>
    F_R6_Same (nofix x1) (nofix x2) >>= fun x3 =>
    if (!x3) = true then
      some false
    else
      F_R6_Same_l0 (IntKind.i64.wrap (t5 + (1 : Int))) (nofix o0) (nofix o1)
  else
    some true
  partial_fixpoint
end
@[reducible] def M_F_R6_Same (a0 : Node) (a1 : Node) (r : Bool) : Prop :=
  Fn Tryd.prog G 36 [(.agg (cellsN a0)), (.agg (cellsN a1))] (.bool r)
@[reducible] def M_F_R6_Same_l0 (t5 : Int) (o0 : Node) (o1 : Node) (r : Bool) : Prop :=
  Ok Tryd.prog G tt 46 0 (Ret Tryd.prog [.tmp 4] (fun y H => Told Tryd.prog G H y (.bool r))) (.again (loopOf [] Tryd.f36 0).1 (loopOf [] Tryd.f36 0).2 (.n .undef (.n .undef (.n (.ptr 1 1 0) .z .z) (.n (.int .i64 t5) .z .z)) (.n (.ptr 0 0 0) .z .z)) 2 [(0, .var 25 (cellsN o0)), (1, .var 25 (cellsN o1))])
theorem E_F_R6_Same (a0 : Node) (a1 : Node) : F_R6_Same a0 a1 = (
    if (!decide (a0.kind = a1.kind)) = true then
      some false
    else
      if (!decide (a0.text = a1.text)) = true then
        some false
      else
        if (!decide (((a0.kids.map Node.cells).length : Int) = ((a1.kids.map Node.cells).length : Int))) = true then
          some false
        else
          F_R6_Same_l0 (0 : Int) a0 a1
    : Option (Bool)) := F_R6_Same.eq_def a0 a1
theorem E_F_R6_Same_l0 (t5 : Int) (o0 : Node) (o1 : Node) : F_R6_Same_l0 t5 o0 o1 = (
    if (decide (t5 < ((o0.kids.map Node.cells).length : Int))) = true then
      ix o0.kids t5 >>= fun x1 =>
      ix o1.kids t5 >>= fun x2 =>
      F_R6_Same x1 x2 >>= fun x3 =>
      if (!x3) = true then
        some false
      else
        F_R6_Same_l0 (IntKind.i64.wrap (t5 + (1 : Int))) o0 o1
    else
      some true
    : Option (Bool)) := F_R6_Same_l0.eq_def t5 o0 o1
set_option maxHeartbeats 4000000 in
theorem S_F_R6_Same (F_R6_Same_l0 : Int → Node → Node → Option (Bool)) (H_F_R6_Same_l0 : ∀ (t5 : Int) (o0 : Node) (o1 : Node) (r : Bool), F_R6_Same_l0 t5 o0 o1 = some r → M_F_R6_Same_l0 t5 o0 o1 r) (a0 : Node) (a1 : Node) (r : Bool) (h : (
    if (!decide (a0.kind = a1.kind)) = true then
      some false
    else
      if (!decide (a0.text = a1.text)) = true then
        some false
      else
        if (!decide (((a0.kids.map Node.cells).length : Int) = ((a1.kids.map Node.cells).length : Int))) = true then
          some false
        else
          F_R6_Same_l0 (0 : Int) a0 a1
    : Option (Bool)) = some r) : M_F_R6_Same a0 a1 r := by
  refine Fn_run (T := tt) (N := 46) (rs := [.tmp 4]) (fun vs w => by simp) Tryd.func36 rfl rfl rfl rfl (by kernel_rfl) (all_pure3 rfl) (closed3_pure _ rfl) ?_
  refine Ok_runB env [] rfl ?_
  refine Ok_guard_f (fun hb => ?_) (fun hb => ?_)
  · replace h := ite_f hb h
    refine Ok_runB env [] rfl ?_
    refine Ok_guard_f (fun hb => ?_) (fun hb => ?_)
    · replace h := ite_f hb h
      refine Ok_runB env [] rfl ?_
      refine Ok_cond (fun hb => ?_) (fun hb => ?_)
      · replace h := ite_t hb h
        refine Ok_runB env [] rfl ?_
        cases h
        exact Ok_fin env rfl rfl (told_eq rfl)
      · replace h := ite_f hb h
        refine Ok_runB env [] rfl ?_
        exact Ok_loop_to (by kernel_rfl) (less_at (by simp [leFT, leV, leOs, leO, leC, rho, AV.ren, AV.ren1, AV.ren0, AV.un, AV.un1, AV.un0, AV.closed, wkS] <;> (repeat' apply And.intro) <;> first | rfl) (by simp [leFT, leV, leOs, leO, leC, rho, AV.ren, AV.ren1, AV.ren0, AV.un, AV.un1, AV.un0, AV.closed, wkS] <;> (repeat' apply And.intro) <;> first | rfl)) (H_F_R6_Same_l0 _ _ _ _ h)
    · replace h := ite_t hb h
      refine Ok_runB env [] rfl ?_
      cases h
      exact Ok_fin env rfl rfl (told_eq rfl)
  · replace h := ite_t hb h
    refine Ok_runB env [] rfl ?_
    cases h
    exact Ok_fin env rfl rfl (told_eq rfl)
set_option maxHeartbeats 4000000 in
theorem S_F_R6_Same_l0 (F_R6_Same : Node → Node → Option (Bool)) (F_R6_Same_l0 : Int → Node → Node → Option (Bool)) (H_F_R6_Same : ∀ (a0 : Node) (a1 : Node) (r : Bool), F_R6_Same a0 a1 = some r → M_F_R6_Same a0 a1 r) (H_F_R6_Same_l0 : ∀ (t5 : Int) (o0 : Node) (o1 : Node) (r : Bool), F_R6_Same_l0 t5 o0 o1 = some r → M_F_R6_Same_l0 t5 o0 o1 r) (t5 : Int) (o0 : Node) (o1 : Node) (r : Bool) (h : (
    if (decide (t5 < ((o0.kids.map Node.cells).length : Int))) = true then
      ix o0.kids t5 >>= fun x1 =>
      ix o1.kids t5 >>= fun x2 =>
      F_R6_Same x1 x2 >>= fun x3 =>
      if (!x3) = true then
        some false
      else
        F_R6_Same_l0 (IntKind.i64.wrap (t5 + (1 : Int))) o0 o1
    else
      some true
    : Option (Bool)) = some r) : M_F_R6_Same_l0 t5 o0 o1 r := by
  refine Ok_unroll ?_
  refine Ok_runB env [] rfl ?_
  refine Ok_cond (fun hb => ?_) (fun hb => ?_)
  · replace h := ite_t hb h
    refine Ok_runB env [] rfl ?_
    obtain ⟨x1, hx, h⟩ := bind_some h
    refine Ok_ixT env hx rfl rfl rfl rfl (Node.cells_eq x1) ?_
    refine Ok_runB env [] rfl ?_
    obtain ⟨x2, hx, h⟩ := bind_some h
    refine Ok_ixT env hx rfl rfl rfl rfl (Node.cells_eq x2) ?_
    refine Ok_runB env [] rfl ?_
    obtain ⟨x3, hx, h⟩ := bind_some h
    refine Ok_call (H_F_R6_Same _ _ _ hx) ?_
    refine Ok_runB env [] rfl ?_
    refine Ok_cond (fun hb => ?_) (fun hb => ?_)
    · replace h := ite_t hb h
      refine Ok_runB env [] rfl ?_
      cases h
      exact Ok_fin env rfl rfl (told_eq rfl)
    · replace h := ite_f hb h
      refine Ok_runB env [] rfl ?_
      exact Ok_again_to (by kernel_rfl) (less_at (by simp [leFT, leV, leOs, leO, leC, rho, AV.ren, AV.ren1, AV.ren0, AV.un, AV.un1, AV.un0, AV.closed, wkS] <;> (repeat' apply And.intro) <;> first | rfl) (by simp [leFT, leV, leOs, leO, leC, rho, AV.ren, AV.ren1, AV.ren0, AV.un, AV.un1, AV.un0, AV.closed, wkS] <;> (repeat' apply And.intro) <;> first | rfl)) (H_F_R6_Same_l0 _ _ _ _ h)
  · replace h := ite_f hb h
    refine Ok_runB env [] rfl ?_
    cases h
    exact Ok_fin env rfl rfl (told_eq rfl)
/-- treemerge/treemergeref06.Same -/
theorem H_F_R6_Same (a0 : Node) (a1 : Node) (r : Bool) (h : F_R6_Same a0 a1 = some r) : M_F_R6_Same a0 a1 r :=
  (F_R6_Same.mutual_partial_correctness (fun a0 a1 r => M_F_R6_Same a0 a1 r) (fun t5 o0 o1 r => M_F_R6_Same_l0 t5 o0 o1 r) (fun F0 h0 => S_F_R6_Same F0 h0) (fun F0 F1 h0 h1 => S_F_R6_Same_l0 F0 F1 h0 h1)).1 a0 a1 r h
/-- treemerge/treemergeref06.Same -/
theorem H_F_R6_Same_l0 (t5 : Int) (o0 : Node) (o1 : Node) (r : Bool) (h : F_R6_Same_l0 t5 o0 o1 = some r) : M_F_R6_Same_l0 t5 o0 o1 r :=
  (F_R6_Same.mutual_partial_correctness (fun a0 a1 r => M_F_R6_Same a0 a1 r) (fun t5 o0 o1 r => M_F_R6_Same_l0 t5 o0 o1 r) (fun F0 h0 => S_F_R6_Same F0 h0) (fun F0 F1 h0 h1 => S_F_R6_Same_l0 F0 F1 h0 h1)).2 t5 o0 o1 r h
end Go.Proofs.YtimdjillcaichaaDoorW.Ex.Gr
