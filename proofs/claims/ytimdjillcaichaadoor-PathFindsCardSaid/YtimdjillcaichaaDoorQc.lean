/- The program's functions, printed as functions on numbers, strings, lists and trees, with the proofs that they are what the code computes. Conditions: those in each theorem. -/
import Derived.Test.YtimdjillcaichaaDoorQb
namespace Go.Proofs.YtimdjillcaichaaDoorW.Ex.Gr
open Go Go.Proofs.YtimdjillcaichaaDoorW.Ex
set_option linter.all false
set_option maxRecDepth 100000
def F_R10_Get_l0 (t1 : (List Int)) (t6 : Int) (o0 : Node) : Option (Node × Int) :=
  if (decide (t6 < ((t1.map ic).length : Int))) = true then
    ix t1 t6 >>= fun x1 =>
    if (decide (x1 < (0 : Int))) = true then
      some ((Node.mk 0 (⟨#[]⟩) ([] : (List ByteArray)) ([] : (List Node))), (5 : Int))
    else
      ix t1 t6 >>= fun x2 =>
      if (decide (((o0.kids.map Node.cells).length : Int) ≤ x2)) = true then
        some ((Node.mk 0 (⟨#[]⟩) ([] : (List ByteArray)) ([] : (List Node))), (5 : Int))
      else
        ix t1 t6 >>= fun x3 =>
        ix o0.kids x3 >>= fun x4 =>
        F_R10_Get_l0 (nofix t1) (IntKind.i64.wrap (t6 + (1 : Int))) (nofix x4)
  else
    some (o0, (0 : Int))
  partial_fixpoint
@[reducible] def M_F_R10_Get_l0 (t1 : (List Int)) (t6 : Int) (o0 : Node) (r : Node × Int) : Prop :=
  Ok Tryd.prog G tt 38 0 (Ret Tryd.prog [.cell 4 25, .tmp 5] (fun y H => Told Tryd.prog G H y (.tup [(.agg (cellsN r.1)), (.int .i64 r.2)]))) (.again (loopOf [] Tryd.f23 0).1 (loopOf [] Tryd.f23 0).2 (.n .undef (.n (.sl 1 false (t1.map ic)) .z .z) (.n (.ptr 0 0 0) (.n (.ptr 1 1 0) .z .z) (.n (.int .i64 t6) .z .z))) 2 [(0, .var 25 (cellsN o0)), (1, .var 25 [(.int .i64 0), (.str ⟨#[]⟩), (.sl 1 false (([] : (List ByteArray)).map sc)), (.sl 4 false (([] : (List Node)).map Node.cells))])])
theorem E_F_R10_Get_l0 (t1 : (List Int)) (t6 : Int) (o0 : Node) : F_R10_Get_l0 t1 t6 o0 = (
    if (decide (t6 < ((t1.map ic).length : Int))) = true then
      ix t1 t6 >>= fun x1 =>
      if (decide (x1 < (0 : Int))) = true then
        some ((Node.mk 0 (⟨#[]⟩) ([] : (List ByteArray)) ([] : (List Node))), (5 : Int))
      else
        ix t1 t6 >>= fun x2 =>
        if (decide (((o0.kids.map Node.cells).length : Int) ≤ x2)) = true then
          some ((Node.mk 0 (⟨#[]⟩) ([] : (List ByteArray)) ([] : (List Node))), (5 : Int))
        else
          ix t1 t6 >>= fun x3 =>
          ix o0.kids x3 >>= fun x4 =>
          F_R10_Get_l0 t1 (IntKind.i64.wrap (t6 + (1 : Int))) x4
    else
      some (o0, (0 : Int))
    : Option (Node × Int)) := F_R10_Get_l0.eq_def t1 t6 o0
set_option maxHeartbeats 4000000 in
theorem S_F_R10_Get_l0 (F_R10_Get_l0 : (List Int) → Int → Node → Option (Node × Int)) (H_F_R10_Get_l0 : ∀ (t1 : (List Int)) (t6 : Int) (o0 : Node) (r : Node × Int), F_R10_Get_l0 t1 t6 o0 = some r → M_F_R10_Get_l0 t1 t6 o0 r) (t1 : (List Int)) (t6 : Int) (o0 : Node) (r : Node × Int) (h : (
    if (decide (t6 < ((t1.map ic).length : Int))) = true then
      ix t1 t6 >>= fun x1 =>
      if (decide (x1 < (0 : Int))) = true then
        some ((Node.mk 0 (⟨#[]⟩) ([] : (List ByteArray)) ([] : (List Node))), (5 : Int))
      else
        ix t1 t6 >>= fun x2 =>
        if (decide (((o0.kids.map Node.cells).length : Int) ≤ x2)) = true then
          some ((Node.mk 0 (⟨#[]⟩) ([] : (List ByteArray)) ([] : (List Node))), (5 : Int))
        else
          ix t1 t6 >>= fun x3 =>
          ix o0.kids x3 >>= fun x4 =>
          F_R10_Get_l0 t1 (IntKind.i64.wrap (t6 + (1 : Int))) x4
    else
      some (o0, (0 : Int))
    : Option (Node × Int)) = some r) : M_F_R10_Get_l0 t1 t6 o0 r := by
  refine Ok_unroll ?_
  refine Ok_runB env [] rfl ?_
  refine Ok_cond (fun hb => ?_) (fun hb => ?_)
  · replace h := ite_t hb h
    refine Ok_runB env [] rfl ?_
    obtain ⟨x1, hx, h⟩ := bind_some h
    refine Ok_ixT env hx rfl rfl rfl rfl rfl ?_
    refine Ok_runB env [] rfl ?_
    refine Ok_guard_f (fun hb => ?_) (fun hb => ?_)
    · replace h := ite_f hb h
      refine Ok_runB env [] rfl ?_
      obtain ⟨x2, hx, h⟩ := bind_some h
      refine Ok_ixT env hx rfl rfl rfl rfl rfl ?_
      refine Ok_runB env [] rfl ?_
      refine Ok_cond (fun hb => ?_) (fun hb => ?_)
      · replace h := ite_t hb h
        refine Ok_runB env [] rfl ?_
        cases h
        exact Ok_fin env rfl rfl (told_view (viewT_tup (viewLs_cons (view_agg (viewL_cons (view1_int rfl) (viewL_cons (view1_str rfl) (viewL_cons (view1_sl (.inr rfl)) (viewL_cons (view1_sl (.inr rfl)) viewL_nil))))) (viewLs_cons (view_one (view1_int rfl) (by simp)) viewLs_nil))))
      · replace h := ite_f hb h
        refine Ok_runB env [] rfl ?_
        obtain ⟨x3, hx, h⟩ := bind_some h
        refine Ok_ixT env hx rfl rfl rfl rfl rfl ?_
        refine Ok_runB env [] rfl ?_
        obtain ⟨x4, hx, h⟩ := bind_some h
        refine Ok_ixT env hx rfl rfl rfl rfl (Node.cells_eq x4) ?_
        refine Ok_runB env [] rfl ?_
        exact Ok_again_to (by kernel_rfl) (less_at (by simp [leFT, leV, leOs, leO, leC, rho, AV.ren, AV.ren1, AV.ren0, AV.un, AV.un1, AV.un0, AV.closed, wkS] <;> (repeat' apply And.intro) <;> first | rfl) (by simp [leFT, leV, leOs, leO, leC, rho, AV.ren, AV.ren1, AV.ren0, AV.un, AV.un1, AV.un0, AV.closed, wkS] <;> (repeat' apply And.intro) <;> first | rfl)) (H_F_R10_Get_l0 _ _ _ _ h)
    · replace h := ite_t hb h
      refine Ok_runB env [] rfl ?_
      cases h
      exact Ok_fin env rfl rfl (told_view (viewT_tup (viewLs_cons (view_agg (viewL_cons (view1_int rfl) (viewL_cons (view1_str rfl) (viewL_cons (view1_sl (.inr rfl)) (viewL_cons (view1_sl (.inr rfl)) viewL_nil))))) (viewLs_cons (view_one (view1_int rfl) (by simp)) viewLs_nil))))
  · replace h := ite_f hb h
    refine Ok_runB env [] rfl ?_
    cases h
    exact Ok_fin env rfl rfl (told_eq rfl)
/-- treemerge/treemergeref10.Get -/
theorem H_F_R10_Get_l0 (t1 : (List Int)) (t6 : Int) (o0 : Node) (r : Node × Int) (h : F_R10_Get_l0 t1 t6 o0 = some r) : M_F_R10_Get_l0 t1 t6 o0 r :=
  F_R10_Get_l0.partial_correctness (fun t1 t6 o0 r => M_F_R10_Get_l0 t1 t6 o0 r) (fun F0 h0 => S_F_R10_Get_l0 F0 h0) t1 t6 o0 r h
def F_R10_Get (a0 : Node) (a1 : (List Int)) : Option (Node × Int) :=
  F_R10_Get_l0 a1 (0 : Int) a0
@[reducible] def M_F_R10_Get (a0 : Node) (a1 : (List Int)) (r : Node × Int) : Prop :=
  Fn Tryd.prog G 23 [(.agg (cellsN a0)), (.sl 1 false (a1.map ic))] (.tup [(.agg (cellsN r.1)), (.int .i64 r.2)])
theorem E_F_R10_Get (a0 : Node) (a1 : (List Int)) : F_R10_Get a0 a1 = (
    F_R10_Get_l0 a1 (0 : Int) a0
    : Option (Node × Int)) := F_R10_Get.eq_def a0 a1
set_option maxHeartbeats 4000000 in
theorem S_F_R10_Get  (a0 : Node) (a1 : (List Int)) (r : Node × Int) (h : (
    F_R10_Get_l0 a1 (0 : Int) a0
    : Option (Node × Int)) = some r) : M_F_R10_Get a0 a1 r := by
  refine Fn_run (T := tt) (N := 38) (rs := [.cell 4 25, .tmp 5]) (fun vs w => by simp) Tryd.func23 rfl rfl rfl rfl (by kernel_rfl) (all_pure3 rfl) (closed3_pure _ rfl) ?_
  refine Ok_runB env [] rfl ?_
  exact Ok_loop_to (by kernel_rfl) (less_at (by simp [leFT, leV, leOs, leO, leC, rho, AV.ren, AV.ren1, AV.ren0, AV.un, AV.un1, AV.un0, AV.closed, wkS] <;> (repeat' apply And.intro) <;> first | rfl) (by simp [leFT, leV, leOs, leO, leC, rho, AV.ren, AV.ren1, AV.ren0, AV.un, AV.un1, AV.un0, AV.closed, wkS] <;> (repeat' apply And.intro) <;> first | rfl)) (H_F_R10_Get_l0 _ _ _ _ h)
/-- treemerge/treemergeref10.Get -/
theorem H_F_R10_Get (a0 : Node) (a1 : (List Int)) (r : Node × Int) (h : F_R10_Get a0 a1 = some r) : M_F_R10_Get a0 a1 r :=
  S_F_R10_Get a0 a1 r (by rw [E_F_R10_Get] at h; exact h)
def F_R3_Ints_l0 (t0 : (List Int)) (t1 : (List Int)) (t5 : Int) : Option (Bool) :=
  if (decide (t5 < ((t0.map ic).length : Int))) = true then
    ix t0 t5 >>= fun x1 =>
    ix t1 t5 >>= fun x2 =>
    if (!decide (x1 = x2)) = true then
      some false
    else
      F_R3_Ints_l0 (nofix t0) (nofix t1) (IntKind.i64.wrap (t5 + (1 : Int)))
  else
    some true
  partial_fixpoint
@[reducible] def M_F_R3_Ints_l0 (t0 : (List Int)) (t1 : (List Int)) (t5 : Int) (r : Bool) : Prop :=
  Ok Tryd.prog G tt 26 0 (Ret Tryd.prog [.tmp 4] (fun y H => Told Tryd.prog G H y (.bool r))) (.again (loopOf [] Tryd.f24 0).1 (loopOf [] Tryd.f24 0).2 (.n (.sl 1 false (t0.map ic)) (.n (.sl 1 false (t1.map ic)) .z (.n (.int .i64 t5) .z .z)) .z) 0 [])
theorem E_F_R3_Ints_l0 (t0 : (List Int)) (t1 : (List Int)) (t5 : Int) : F_R3_Ints_l0 t0 t1 t5 = (
    if (decide (t5 < ((t0.map ic).length : Int))) = true then
      ix t0 t5 >>= fun x1 =>
      ix t1 t5 >>= fun x2 =>
      if (!decide (x1 = x2)) = true then
        some false
      else
        F_R3_Ints_l0 t0 t1 (IntKind.i64.wrap (t5 + (1 : Int)))
    else
      some true
    : Option (Bool)) := F_R3_Ints_l0.eq_def t0 t1 t5
set_option maxHeartbeats 4000000 in
theorem S_F_R3_Ints_l0 (F_R3_Ints_l0 : (List Int) → (List Int) → Int → Option (Bool)) (H_F_R3_Ints_l0 : ∀ (t0 : (List Int)) (t1 : (List Int)) (t5 : Int) (r : Bool), F_R3_Ints_l0 t0 t1 t5 = some r → M_F_R3_Ints_l0 t0 t1 t5 r) (t0 : (List Int)) (t1 : (List Int)) (t5 : Int) (r : Bool) (h : (
    if (decide (t5 < ((t0.map ic).length : Int))) = true then
      ix t0 t5 >>= fun x1 =>
      ix t1 t5 >>= fun x2 =>
      if (!decide (x1 = x2)) = true then
        some false
      else
        F_R3_Ints_l0 t0 t1 (IntKind.i64.wrap (t5 + (1 : Int)))
    else
      some true
    : Option (Bool)) = some r) : M_F_R3_Ints_l0 t0 t1 t5 r := by
  refine Ok_unroll ?_
  refine Ok_runB env [] rfl ?_
  refine Ok_cond (fun hb => ?_) (fun hb => ?_)
  · replace h := ite_t hb h
    refine Ok_runB env [] rfl ?_
    obtain ⟨x1, hx, h⟩ := bind_some h
    refine Ok_ixT env hx rfl rfl rfl rfl rfl ?_
    refine Ok_runB env [] rfl ?_
    obtain ⟨x2, hx, h⟩ := bind_some h
    refine Ok_ixT env hx rfl rfl rfl rfl rfl ?_
    refine Ok_runB env [] rfl ?_
    refine Ok_cond (fun hb => ?_) (fun hb => ?_)
    · replace h := ite_t hb h
      refine Ok_runB env [] rfl ?_
      cases h
      exact Ok_fin env rfl rfl (told_eq rfl)
    · replace h := ite_f hb h
      refine Ok_runB env [] rfl ?_
      exact Ok_again_to (by kernel_rfl) (less_at (by simp [leFT, leV, leOs, leO, leC, rho, AV.ren, AV.ren1, AV.ren0, AV.un, AV.un1, AV.un0, AV.closed, wkS] <;> (repeat' apply And.intro) <;> first | rfl) (by simp [leFT, leV, leOs, leO, leC, rho, AV.ren, AV.ren1, AV.ren0, AV.un, AV.un1, AV.un0, AV.closed, wkS] <;> (repeat' apply And.intro) <;> first | rfl)) (H_F_R3_Ints_l0 _ _ _ _ h)
  · replace h := ite_f hb h
    refine Ok_runB env [] rfl ?_
    cases h
    exact Ok_fin env rfl rfl (told_eq rfl)
/-- treemerge/treemergeref03.Ints -/
theorem H_F_R3_Ints_l0 (t0 : (List Int)) (t1 : (List Int)) (t5 : Int) (r : Bool) (h : F_R3_Ints_l0 t0 t1 t5 = some r) : M_F_R3_Ints_l0 t0 t1 t5 r :=
  F_R3_Ints_l0.partial_correctness (fun t0 t1 t5 r => M_F_R3_Ints_l0 t0 t1 t5 r) (fun F0 h0 => S_F_R3_Ints_l0 F0 h0) t0 t1 t5 r h
def F_R3_Ints (a0 : (List Int)) (a1 : (List Int)) : Option (Bool) :=
  if (!decide (((a0.map ic).length : Int) = ((a1.map ic).length : Int))) = true then
    some false
  else
    F_R3_Ints_l0 a0 a1 (0 : Int)
@[reducible] def M_F_R3_Ints (a0 : (List Int)) (a1 : (List Int)) (r : Bool) : Prop :=
  Fn Tryd.prog G 24 [(.sl 1 false (a0.map ic)), (.sl 1 false (a1.map ic))] (.bool r)
theorem E_F_R3_Ints (a0 : (List Int)) (a1 : (List Int)) : F_R3_Ints a0 a1 = (
    if (!decide (((a0.map ic).length : Int) = ((a1.map ic).length : Int))) = true then
      some false
    else
      F_R3_Ints_l0 a0 a1 (0 : Int)
    : Option (Bool)) := F_R3_Ints.eq_def a0 a1
set_option maxHeartbeats 4000000 in
theorem S_F_R3_Ints  (a0 : (List Int)) (a1 : (List Int)) (r : Bool) (h : (
    if (!decide (((a0.map ic).length : Int) = ((a1.map ic).length : Int))) = true then
      some false
    else
      F_R3_Ints_l0 a0 a1 (0 : Int)
    : Option (Bool)) = some r) : M_F_R3_Ints a0 a1 r := by
  refine Fn_run (T := tt) (N := 26) (rs := [.tmp 4]) (fun vs w => by simp) Tryd.func24 rfl rfl rfl rfl (by kernel_rfl) (all_pure3 rfl) (closed3_pure _ rfl) ?_
  refine Ok_runB env [] rfl ?_
  refine Ok_cond (fun hb => ?_) (fun hb => ?_)
  · replace h := ite_t hb h
    refine Ok_runB env [] rfl ?_
    cases h
    exact Ok_fin env rfl rfl (told_eq rfl)
  · replace h := ite_f hb h
    refine Ok_runB env [] rfl ?_
    exact Ok_loop_to (by kernel_rfl) (less_at (by simp [leFT, leV, leOs, leO, leC, rho, AV.ren, AV.ren1, AV.ren0, AV.un, AV.un1, AV.un0, AV.closed, wkS] <;> (repeat' apply And.intro) <;> first | rfl) (by simp [leFT, leV, leOs, leO, leC, rho, AV.ren, AV.ren1, AV.ren0, AV.un, AV.un1, AV.un0, AV.closed, wkS] <;> (repeat' apply And.intro) <;> first | rfl)) (H_F_R3_Ints_l0 _ _ _ _ h)
/-- treemerge/treemergeref03.Ints -/
theorem H_F_R3_Ints (a0 : (List Int)) (a1 : (List Int)) (r : Bool) (h : F_R3_Ints a0 a1 = some r) : M_F_R3_Ints a0 a1 r :=
  S_F_R3_Ints a0 a1 r (by rw [E_F_R3_Ints] at h; exact h)
def F_R3_Strings_l0 (t0 : (List ByteArray)) (t1 : (List ByteArray)) (t5 : Int) : Option (Bool) :=
  if (decide (t5 < ((t0.map sc).length : Int))) = true then
    ix t0 t5 >>= fun x1 =>
    ix t1 t5 >>= fun x2 =>
    if (!decide (x1 = x2)) = true then
      some false
    else
      F_R3_Strings_l0 (nofix t0) (nofix t1) (IntKind.i64.wrap (t5 + (1 : Int)))
  else
    some true
  partial_fixpoint
@[reducible] def M_F_R3_Strings_l0 (t0 : (List ByteArray)) (t1 : (List ByteArray)) (t5 : Int) (r : Bool) : Prop :=
  Ok Tryd.prog G tt 26 0 (Ret Tryd.prog [.tmp 4] (fun y H => Told Tryd.prog G H y (.bool r))) (.again (loopOf [] Tryd.f56 0).1 (loopOf [] Tryd.f56 0).2 (.n (.sl 1 false (t0.map sc)) (.n (.sl 1 false (t1.map sc)) .z (.n (.int .i64 t5) .z .z)) .z) 0 [])
theorem E_F_R3_Strings_l0 (t0 : (List ByteArray)) (t1 : (List ByteArray)) (t5 : Int) : F_R3_Strings_l0 t0 t1 t5 = (
    if (decide (t5 < ((t0.map sc).length : Int))) = true then
      ix t0 t5 >>= fun x1 =>
      ix t1 t5 >>= fun x2 =>
      if (!decide (x1 = x2)) = true then
        some false
      else
        F_R3_Strings_l0 t0 t1 (IntKind.i64.wrap (t5 + (1 : Int)))
    else
      some true
    : Option (Bool)) := F_R3_Strings_l0.eq_def t0 t1 t5
set_option maxHeartbeats 4000000 in
theorem S_F_R3_Strings_l0 (F_R3_Strings_l0 : (List ByteArray) → (List ByteArray) → Int → Option (Bool)) (H_F_R3_Strings_l0 : ∀ (t0 : (List ByteArray)) (t1 : (List ByteArray)) (t5 : Int) (r : Bool), F_R3_Strings_l0 t0 t1 t5 = some r → M_F_R3_Strings_l0 t0 t1 t5 r) (t0 : (List ByteArray)) (t1 : (List ByteArray)) (t5 : Int) (r : Bool) (h : (
    if (decide (t5 < ((t0.map sc).length : Int))) = true then
      ix t0 t5 >>= fun x1 =>
      ix t1 t5 >>= fun x2 =>
      if (!decide (x1 = x2)) = true then
        some false
      else
        F_R3_Strings_l0 t0 t1 (IntKind.i64.wrap (t5 + (1 : Int)))
    else
      some true
    : Option (Bool)) = some r) : M_F_R3_Strings_l0 t0 t1 t5 r := by
  refine Ok_unroll ?_
  refine Ok_runB env [] rfl ?_
  refine Ok_cond (fun hb => ?_) (fun hb => ?_)
  · replace h := ite_t hb h
    refine Ok_runB env [] rfl ?_
    obtain ⟨x1, hx, h⟩ := bind_some h
    refine Ok_ixT env hx rfl rfl rfl rfl rfl ?_
    refine Ok_runB env [] rfl ?_
    obtain ⟨x2, hx, h⟩ := bind_some h
    refine Ok_ixT env hx rfl rfl rfl rfl rfl ?_
    refine Ok_runB env [] rfl ?_
    refine Ok_cond (fun hb => ?_) (fun hb => ?_)
    · replace h := ite_t hb h
      refine Ok_runB env [] rfl ?_
      cases h
      exact Ok_fin env rfl rfl (told_eq rfl)
    · replace h := ite_f hb h
      refine Ok_runB env [] rfl ?_
      exact Ok_again_to (by kernel_rfl) (less_at (by simp [leFT, leV, leOs, leO, leC, rho, AV.ren, AV.ren1, AV.ren0, AV.un, AV.un1, AV.un0, AV.closed, wkS] <;> (repeat' apply And.intro) <;> first | rfl) (by simp [leFT, leV, leOs, leO, leC, rho, AV.ren, AV.ren1, AV.ren0, AV.un, AV.un1, AV.un0, AV.closed, wkS] <;> (repeat' apply And.intro) <;> first | rfl)) (H_F_R3_Strings_l0 _ _ _ _ h)
  · replace h := ite_f hb h
    refine Ok_runB env [] rfl ?_
    cases h
    exact Ok_fin env rfl rfl (told_eq rfl)
/-- treemerge/treemergeref03.Strings -/
theorem H_F_R3_Strings_l0 (t0 : (List ByteArray)) (t1 : (List ByteArray)) (t5 : Int) (r : Bool) (h : F_R3_Strings_l0 t0 t1 t5 = some r) : M_F_R3_Strings_l0 t0 t1 t5 r :=
  F_R3_Strings_l0.partial_correctness (fun t0 t1 t5 r => M_F_R3_Strings_l0 t0 t1 t5 r) (fun F0 h0 => S_F_R3_Strings_l0 F0 h0) t0 t1 t5 r h
def F_R3_Strings (a0 : (List ByteArray)) (a1 : (List ByteArray)) : Option (Bool) :=
  if (!decide (((a0.map sc).length : Int) = ((a1.map sc).length : Int))) = true then
    some false
  else
    F_R3_Strings_l0 a0 a1 (0 : Int)
@[reducible] def M_F_R3_Strings (a0 : (List ByteArray)) (a1 : (List ByteArray)) (r : Bool) : Prop :=
  Fn Tryd.prog G 56 [(.sl 1 false (a0.map sc)), (.sl 1 false (a1.map sc))] (.bool r)
theorem E_F_R3_Strings (a0 : (List ByteArray)) (a1 : (List ByteArray)) : F_R3_Strings a0 a1 = (
    if (!decide (((a0.map sc).length : Int) = ((a1.map sc).length : Int))) = true then
      some false
    else
      F_R3_Strings_l0 a0 a1 (0 : Int)
    : Option (Bool)) := F_R3_Strings.eq_def a0 a1
set_option maxHeartbeats 4000000 in
theorem S_F_R3_Strings  (a0 : (List ByteArray)) (a1 : (List ByteArray)) (r : Bool) (h : (
    if (!decide (((a0.map sc).length : Int) = ((a1.map sc).length : Int))) = true then
      some false
    else
      F_R3_Strings_l0 a0 a1 (0 : Int)
    : Option (Bool)) = some r) : M_F_R3_Strings a0 a1 r := by
  refine Fn_run (T := tt) (N := 26) (rs := [.tmp 4]) (fun vs w => by simp) Tryd.func56 rfl rfl rfl rfl (by kernel_rfl) (all_pure3 rfl) (closed3_pure _ rfl) ?_
  refine Ok_runB env [] rfl ?_
  refine Ok_cond (fun hb => ?_) (fun hb => ?_)
  · replace h := ite_t hb h
    refine Ok_runB env [] rfl ?_
    cases h
    exact Ok_fin env rfl rfl (told_eq rfl)
  · replace h := ite_f hb h
    refine Ok_runB env [] rfl ?_
    exact Ok_loop_to (by kernel_rfl) (less_at (by simp [leFT, leV, leOs, leO, leC, rho, AV.ren, AV.ren1, AV.ren0, AV.un, AV.un1, AV.un0, AV.closed, wkS] <;> (repeat' apply And.intro) <;> first | rfl) (by simp [leFT, leV, leOs, leO, leC, rho, AV.ren, AV.ren1, AV.ren0, AV.un, AV.un1, AV.un0, AV.closed, wkS] <;> (repeat' apply And.intro) <;> first | rfl)) (H_F_R3_Strings_l0 _ _ _ _ h)
/-- treemerge/treemergeref03.Strings -/
theorem H_F_R3_Strings (a0 : (List ByteArray)) (a1 : (List ByteArray)) (r : Bool) (h : F_R3_Strings a0 a1 = some r) : M_F_R3_Strings a0 a1 r :=
  S_F_R3_Strings a0 a1 r (by rw [E_F_R3_Strings] at h; exact h)
mutual
def F_R6_Equal (a0 : Node) (a1 : Node) : Option (Bool) :=
  if (!decide (a0.kind = a1.kind)) = true then
    some false
  else
    if (!decide (a0.text = a1.text)) = true then
      some false
    else
      F_R3_Strings a0.gaps a1.gaps >>= fun x1 =>
      if (!x1) = true then
        some false
      else
        if (!decide (((a0.kids.map Node.cells).length : Int) = ((a1.kids.map Node.cells).length : Int))) = true then
          some false
        else
          F_R6_Equal_l0 (0 : Int) (nofix a0) (nofix a1)
  partial_fixpoint
def F_R6_Equal_l0 (t5 : Int) (o0 : Node) (o1 : Node) : Option (Bool) :=
  if (decide (t5 < ((o0.kids.map Node.cells).length : Int))) = true then
    ix o0.kids t5 >>= fun x2 =>
    ix o1.kids t5 >>= fun x3 =>
    F_R6_Equal (nofix x2) (nofix x3) >>= fun x4 =>
    if (!x4) = true then
      some false
    else
      F_R6_Equal_l0 (IntKind.i64.wrap (t5 + (1 : Int))) (nofix o0) (nofix o1)
  else
    some true
  partial_fixpoint
end
@[reducible] def M_F_R6_Equal (a0 : Node) (a1 : Node) (r : Bool) : Prop :=
  Fn Tryd.prog G 25 [(.agg (cellsN a0)), (.agg (cellsN a1))] (.bool r)
@[reducible] def M_F_R6_Equal_l0 (t5 : Int) (o0 : Node) (o1 : Node) (r : Bool) : Prop :=
  Ok Tryd.prog G tt 54 0 (Ret Tryd.prog [.tmp 4] (fun y H => Told Tryd.prog G H y (.bool r))) (.again (loopOf [] Tryd.f25 0).1 (loopOf [] Tryd.f25 0).2 (.n .undef (.n .undef (.n (.ptr 1 1 0) .z .z) (.n (.int .i64 t5) .z .z)) (.n (.ptr 0 0 0) .z .z)) 2 [(0, .var 25 (cellsN o0)), (1, .var 25 (cellsN o1))])
theorem E_F_R6_Equal (a0 : Node) (a1 : Node) : F_R6_Equal a0 a1 = (
    if (!decide (a0.kind = a1.kind)) = true then
      some false
    else
      if (!decide (a0.text = a1.text)) = true then
        some false
      else
        F_R3_Strings a0.gaps a1.gaps >>= fun x1 =>
        if (!x1) = true then
          some false
        else
          if (!decide (((a0.kids.map Node.cells).length : Int) = ((a1.kids.map Node.cells).length : Int))) = true then
            some false
          else
            F_R6_Equal_l0 (0 : Int) a0 a1
    : Option (Bool)) := F_R6_Equal.eq_def a0 a1
theorem E_F_R6_Equal_l0 (t5 : Int) (o0 : Node) (o1 : Node) : F_R6_Equal_l0 t5 o0 o1 = (
    if (decide (t5 < ((o0.kids.map Node.cells).length : Int))) = true then
      ix o0.kids t5 >>= fun x2 =>
      ix o1.kids t5 >>= fun x3 =>
      F_R6_Equal x2 x3 >>= fun x4 =>
      if (!x4) = true then
        some false
      else
        F_R6_Equal_l0 (IntKind.i64.wrap (t5 + (1 : Int))) o0 o1
    else
      some true
    : Option (Bool)) := F_R6_Equal_l0.eq_def t5 o0 o1
set_option maxHeartbeats 4000000 in
theorem S_F_R6_Equal (F_R6_Equal_l0 : Int → Node → Node → Option (Bool)) (H_F_R6_Equal_l0 : ∀ (t5 : Int) (o0 : Node) (o1 : Node) (r : Bool), F_R6_Equal_l0 t5 o0 o1 = some r → M_F_R6_Equal_l0 t5 o0 o1 r) (a0 : Node) (a1 : Node) (r : Bool) (h : (
    if (!decide (a0.kind = a1.kind)) = true then
      some false
    else
      if (!decide (a0.text = a1.text)) = true then
        some false
      else
        F_R3_Strings a0.gaps a1.gaps >>= fun x1 =>
        if (!x1) = true then
          some false
        else
          if (!decide (((a0.kids.map Node.cells).length : Int) = ((a1.kids.map Node.cells).length : Int))) = true then
            some false
          else
            F_R6_Equal_l0 (0 : Int) a0 a1
    : Option (Bool)) = some r) : M_F_R6_Equal a0 a1 r := by
  refine Fn_run (T := tt) (N := 54) (rs := [.tmp 4]) (fun vs w => by simp) Tryd.func25 rfl rfl rfl rfl (by kernel_rfl) (all_pure3 rfl) (closed3_pure _ rfl) ?_
  refine Ok_runB env [] rfl ?_
  refine Ok_guard_f (fun hb => ?_) (fun hb => ?_)
  · replace h := ite_f hb h
    refine Ok_runB env [] rfl ?_
    refine Ok_guard_f (fun hb => ?_) (fun hb => ?_)
    · replace h := ite_f hb h
      refine Ok_runB env [] rfl ?_
      obtain ⟨x1, hx, h⟩ := bind_some h
      refine Ok_call (H_F_R3_Strings _ _ _ hx) ?_
      refine Ok_runB env [] rfl ?_
      refine Ok_guard_f (fun hb => ?_) (fun hb => ?_)
      · replace h := ite_f hb h
        refine Ok_runB env [] rfl ?_
        refine Ok_cond (fun hb => ?_) (fun hb => ?_)
        · replace h := ite_t hb h
          refine Ok_runB env [] rfl ?_
          cases h
          exact Ok_fin env rfl rfl (told_eq rfl)
        · replace h := ite_f hb h
          refine Ok_runB env [] rfl ?_
          exact Ok_loop_to (by kernel_rfl) (less_at (by simp [leFT, leV, leOs, leO, leC, rho, AV.ren, AV.ren1, AV.ren0, AV.un, AV.un1, AV.un0, AV.closed, wkS] <;> (repeat' apply And.intro) <;> first | rfl) (by simp [leFT, leV, leOs, leO, leC, rho, AV.ren, AV.ren1, AV.ren0, AV.un, AV.un1, AV.un0, AV.closed, wkS] <;> (repeat' apply And.intro) <;> first | rfl)) (H_F_R6_Equal_l0 _ _ _ _ h)
      · replace h := ite_t hb h
        refine Ok_runB env [] rfl ?_
        cases h
        exact Ok_fin env rfl rfl (told_eq rfl)
    · replace h := ite_t hb h
      refine Ok_runB env [] rfl ?_
      cases h
      exact Ok_fin env rfl rfl (told_eq rfl)
  · replace h := ite_t hb h
    refine Ok_runB env [] rfl ?_
    cases h
    exact Ok_fin env rfl rfl (told_eq rfl)
set_option maxHeartbeats 4000000 in
theorem S_F_R6_Equal_l0 (F_R6_Equal : Node → Node → Option (Bool)) (F_R6_Equal_l0 : Int → Node → Node → Option (Bool)) (H_F_R6_Equal : ∀ (a0 : Node) (a1 : Node) (r : Bool), F_R6_Equal a0 a1 = some r → M_F_R6_Equal a0 a1 r) (H_F_R6_Equal_l0 : ∀ (t5 : Int) (o0 : Node) (o1 : Node) (r : Bool), F_R6_Equal_l0 t5 o0 o1 = some r → M_F_R6_Equal_l0 t5 o0 o1 r) (t5 : Int) (o0 : Node) (o1 : Node) (r : Bool) (h : (
    if (decide (t5 < ((o0.kids.map Node.cells).length : Int))) = true then
      ix o0.kids t5 >>= fun x2 =>
      ix o1.kids t5 >>= fun x3 =>
      F_R6_Equal x2 x3 >>= fun x4 =>
      if (!x4) = true then
        some false
      else
        F_R6_Equal_l0 (IntKind.i64.wrap (t5 + (1 : Int))) o0 o1
    else
      some true
    : Option (Bool)) = some r) : M_F_R6_Equal_l0 t5 o0 o1 r := by
  refine Ok_unroll ?_
  refine Ok_runB env [] rfl ?_
  refine Ok_cond (fun hb => ?_) (fun hb => ?_)
  · replace h := ite_t hb h
    refine Ok_runB env [] rfl ?_
    obtain ⟨x2, hx, h⟩ := bind_some h
    refine Ok_ixT env hx rfl rfl rfl rfl (Node.cells_eq x2) ?_
    refine Ok_runB env [] rfl ?_
    obtain ⟨x3, hx, h⟩ := bind_some h
    refine Ok_ixT env hx rfl rfl rfl rfl (Node.cells_eq x3) ?_
    refine Ok_runB env [] rfl ?_
    obtain ⟨x4, hx, h⟩ := bind_some h
    refine Ok_call (H_F_R6_Equal _ _ _ hx) ?_
    refine Ok_runB env [] rfl ?_
    refine Ok_cond (fun hb => ?_) (fun hb => ?_)
    · replace h := ite_t hb h
      refine Ok_runB env [] rfl ?_
      cases h
      exact Ok_fin env rfl rfl (told_eq rfl)
    · replace h := ite_f hb h
      refine Ok_runB env [] rfl ?_
      exact Ok_again_to (by kernel_rfl) (less_at (by simp [leFT, leV, leOs, leO, leC, rho, AV.ren, AV.ren1, AV.ren0, AV.un, AV.un1, AV.un0, AV.closed, wkS] <;> (repeat' apply And.intro) <;> first | rfl) (by simp [leFT, leV, leOs, leO, leC, rho, AV.ren, AV.ren1, AV.ren0, AV.un, AV.un1, AV.un0, AV.closed, wkS] <;> (repeat' apply And.intro) <;> first | rfl)) (H_F_R6_Equal_l0 _ _ _ _ h)
  · replace h := ite_f hb h
    refine Ok_runB env [] rfl ?_
    cases h
    exact Ok_fin env rfl rfl (told_eq rfl)
/-- treemerge/treemergeref06.Equal -/
theorem H_F_R6_Equal (a0 : Node) (a1 : Node) (r : Bool) (h : F_R6_Equal a0 a1 = some r) : M_F_R6_Equal a0 a1 r :=
  (F_R6_Equal.mutual_partial_correctness (fun a0 a1 r => M_F_R6_Equal a0 a1 r) (fun t5 o0 o1 r => M_F_R6_Equal_l0 t5 o0 o1 r) (fun F0 h0 => S_F_R6_Equal F0 h0) (fun F0 F1 h0 h1 => S_F_R6_Equal_l0 F0 F1 h0 h1)).1 a0 a1 r h
/-- treemerge/treemergeref06.Equal -/
theorem H_F_R6_Equal_l0 (t5 : Int) (o0 : Node) (o1 : Node) (r : Bool) (h : F_R6_Equal_l0 t5 o0 o1 = some r) : M_F_R6_Equal_l0 t5 o0 o1 r :=
  (F_R6_Equal.mutual_partial_correctness (fun a0 a1 r => M_F_R6_Equal a0 a1 r) (fun t5 o0 o1 r => M_F_R6_Equal_l0 t5 o0 o1 r) (fun F0 h0 => S_F_R6_Equal F0 h0) (fun F0 F1 h0 h1 => S_F_R6_Equal_l0 F0 F1 h0 h1)).2 t5 o0 o1 r h
def F_L10_PathFinds (a0 : Node) (a1 : Int) (a2 : (List Int)) : Option (Bool) :=
  F_L10_small a0 >>= fun x1 =>
  if (!x1) = true then
    F_L10_awake >>= fun x2 =>
    some x2
  else
    F_path_Of a0 a1 >>= fun x3 =>
    F_R10_Of a0 a1 >>= fun x4 =>
    F_path_Index a0 a2 >>= fun x5 =>
    F_R10_Index a0 a2 >>= fun x6 =>
    F_path_Get a0 a2 >>= fun x7 =>
    F_R10_Get a0 a2 >>= fun x8 =>
    F_R3_Ints x3.1 x4.1 >>= fun x9 =>
    if x9 = true then
      if (x3.2 == x4.2) = true then
        if (decide (x5.1 = x6.1)) = true then
          if (x5.2 == x6.2) = true then
            F_R6_Equal x7.1 x8.1 >>= fun x10 =>
            if x10 = true then
              if (decide (x7.2 = x8.2)) = true then
                F_L10_awake >>= fun x11 =>
                some x11
              else
                some false
            else
              some false
          else
            some false
        else
          some false
      else
        some false
    else
      some false
@[reducible] def M_F_L10_PathFinds (a0 : Node) (a1 : Int) (a2 : (List Int)) (r : Bool) : Prop :=
  Fn Tryd.prog G 3 [(.agg (cellsN a0)), (.int .i64 a1), (.sl 1 false (a2.map ic))] (.bool r)
theorem E_F_L10_PathFinds (a0 : Node) (a1 : Int) (a2 : (List Int)) : F_L10_PathFinds a0 a1 a2 = (
    F_L10_small a0 >>= fun x1 =>
    if (!x1) = true then
      F_L10_awake >>= fun x2 =>
      some x2
    else
      F_path_Of a0 a1 >>= fun x3 =>
      F_R10_Of a0 a1 >>= fun x4 =>
      F_path_Index a0 a2 >>= fun x5 =>
      F_R10_Index a0 a2 >>= fun x6 =>
      F_path_Get a0 a2 >>= fun x7 =>
      F_R10_Get a0 a2 >>= fun x8 =>
      F_R3_Ints x3.1 x4.1 >>= fun x9 =>
      if x9 = true then
        if (x3.2 == x4.2) = true then
          if (decide (x5.1 = x6.1)) = true then
            if (x5.2 == x6.2) = true then
              F_R6_Equal x7.1 x8.1 >>= fun x10 =>
              if x10 = true then
                if (decide (x7.2 = x8.2)) = true then
                  F_L10_awake >>= fun x11 =>
                  some x11
                else
                  some false
              else
                some false
            else
              some false
          else
            some false
        else
          some false
      else
        some false
    : Option (Bool)) := F_L10_PathFinds.eq_def a0 a1 a2
set_option maxHeartbeats 4000000 in
theorem S_F_L10_PathFinds  (a0 : Node) (a1 : Int) (a2 : (List Int)) (r : Bool) (h : (
    F_L10_small a0 >>= fun x1 =>
    if (!x1) = true then
      F_L10_awake >>= fun x2 =>
      some x2
    else
      F_path_Of a0 a1 >>= fun x3 =>
      F_R10_Of a0 a1 >>= fun x4 =>
      F_path_Index a0 a2 >>= fun x5 =>
      F_R10_Index a0 a2 >>= fun x6 =>
      F_path_Get a0 a2 >>= fun x7 =>
      F_R10_Get a0 a2 >>= fun x8 =>
      F_R3_Ints x3.1 x4.1 >>= fun x9 =>
      if x9 = true then
        if (x3.2 == x4.2) = true then
          if (decide (x5.1 = x6.1)) = true then
            if (x5.2 == x6.2) = true then
              F_R6_Equal x7.1 x8.1 >>= fun x10 =>
              if x10 = true then
                if (decide (x7.2 = x8.2)) = true then
                  F_L10_awake >>= fun x11 =>
                  some x11
                else
                  some false
              else
                some false
            else
              some false
          else
            some false
        else
          some false
      else
        some false
    : Option (Bool)) = some r) : M_F_L10_PathFinds a0 a1 a2 r := by
  refine Fn_run (T := tt) (N := 90) (rs := [.tmp 6]) (fun vs w => by simp) Tryd.func3 rfl rfl rfl rfl (by kernel_rfl) (all_pure3 rfl) (closed3_pure _ rfl) ?_
  refine Ok_runB env [] rfl ?_
  obtain ⟨x1, hx, h⟩ := bind_some h
  refine Ok_call (H_F_L10_small _ _ hx) ?_
  refine Ok_runB env [] rfl ?_
  refine Ok_cond (fun hb => ?_) (fun hb => ?_)
  · replace h := ite_t hb h
    refine Ok_runB env [] rfl ?_
    obtain ⟨x2, hx, h⟩ := bind_some h
    refine Ok_call (H_F_L10_awake _ hx) ?_
    refine Ok_runB env [] rfl ?_
    cases h
    exact Ok_fin env rfl rfl (told_eq rfl)
  · replace h := ite_f hb h
    refine Ok_runB env [] rfl ?_
    obtain ⟨x3, hx, h⟩ := bind_some h
    refine Ok_call (H_F_path_Of _ _ _ hx) ?_
    refine Ok_runB env [] rfl ?_
    obtain ⟨x4, hx, h⟩ := bind_some h
    refine Ok_call (H_F_R10_Of _ _ _ hx) ?_
    refine Ok_runB env [] rfl ?_
    obtain ⟨x5, hx, h⟩ := bind_some h
    refine Ok_call (H_F_path_Index _ _ _ hx) ?_
    refine Ok_runB env [] rfl ?_
    obtain ⟨x6, hx, h⟩ := bind_some h
    refine Ok_call (H_F_R10_Index _ _ _ hx) ?_
    refine Ok_runB env [] rfl ?_
    obtain ⟨x7, hx, h⟩ := bind_some h
    refine Ok_call (H_F_path_Get _ _ _ hx) ?_
    refine Ok_runB env [] rfl ?_
    obtain ⟨x8, hx, h⟩ := bind_some h
    refine Ok_call (H_F_R10_Get _ _ _ hx) ?_
    refine Ok_runB env [] rfl ?_
    obtain ⟨x9, hx, h⟩ := bind_some h
    refine Ok_call (H_F_R3_Ints _ _ _ hx) ?_
    refine Ok_runB env [] rfl ?_
    refine Ok_guard_t (fun hb => ?_) (fun hb => ?_)
    · replace h := ite_t hb h
      refine Ok_runB env [] rfl ?_
      refine Ok_guard_t (fun hb => ?_) (fun hb => ?_)
      · replace h := ite_t hb h
        refine Ok_runB env [] rfl ?_
        refine Ok_guard_t (fun hb => ?_) (fun hb => ?_)
        · replace h := ite_t hb h
          refine Ok_runB env [] rfl ?_
          refine Ok_guard_t (fun hb => ?_) (fun hb => ?_)
          · replace h := ite_t hb h
            refine Ok_runB env [] rfl ?_
            obtain ⟨x10, hx, h⟩ := bind_some h
            refine Ok_call (H_F_R6_Equal _ _ _ hx) ?_
            refine Ok_runB env [] rfl ?_
            refine Ok_guard_t (fun hb => ?_) (fun hb => ?_)
            · replace h := ite_t hb h
              refine Ok_runB env [] rfl ?_
              refine Ok_guard_t (fun hb => ?_) (fun hb => ?_)
              · replace h := ite_t hb h
                refine Ok_runB env [] rfl ?_
                obtain ⟨x11, hx, h⟩ := bind_some h
                refine Ok_call (H_F_L10_awake _ hx) ?_
                refine Ok_runB env [] rfl ?_
                cases h
                exact Ok_fin env rfl rfl (told_eq rfl)
              · replace h := ite_f hb h
                refine Ok_runB env [] rfl ?_
                cases h
                exact Ok_fin env rfl rfl (told_eq rfl)
            · replace h := ite_f hb h
              refine Ok_runB env [] rfl ?_
              cases h
              exact Ok_fin env rfl rfl (told_eq rfl)
          · replace h := ite_f hb h
            refine Ok_runB env [] rfl ?_
            cases h
            exact Ok_fin env rfl rfl (told_eq rfl)
        · replace h := ite_f hb h
          refine Ok_runB env [] rfl ?_
          cases h
          exact Ok_fin env rfl rfl (told_eq rfl)
      · replace h := ite_f hb h
        refine Ok_runB env [] rfl ?_
        cases h
        exact Ok_fin env rfl rfl (told_eq rfl)
    · replace h := ite_f hb h
      refine Ok_runB env [] rfl ?_
      cases h
      exact Ok_fin env rfl rfl (told_eq rfl)
/-- treemerge/treemergelaw10.PathFinds -/
theorem H_F_L10_PathFinds (a0 : Node) (a1 : Int) (a2 : (List Int)) (r : Bool) (h : F_L10_PathFinds a0 a1 a2 = some r) : M_F_L10_PathFinds a0 a1 a2 r :=
  S_F_L10_PathFinds a0 a1 a2 r (by rw [E_F_L10_PathFinds] at h; exact h)
def F_R10_fits (a0 : Node) (a1 : (List Int)) (a2 : Int) : Option (Bool) :=
  if (decide (((a1.map ic).length : Int) = (0 : Int))) = true then
    some true
  else
    lsub a1 (0 : Int) (IntKind.i64.wrap (((a1.map ic).length : Int) - (1 : Int))) >>= fun x1 =>
    F_R10_Get a0 x1 >>= fun x2 =>
    if (decide (x2.2 = (0 : Int))) = true then
      ix a1 (IntKind.i64.wrap (((a1.map ic).length : Int) - (1 : Int))) >>= fun x3 =>
      F_R7_Fits x2.1.kind x3 a2 >>= fun x4 =>
      some x4
    else
      some false
@[reducible] def M_F_R10_fits (a0 : Node) (a1 : (List Int)) (a2 : Int) (r : Bool) : Prop :=
  Fn Tryd.prog G 61 [(.agg (cellsN a0)), (.sl 1 false (a1.map ic)), (.int .i64 a2)] (.bool r)
theorem E_F_R10_fits (a0 : Node) (a1 : (List Int)) (a2 : Int) : F_R10_fits a0 a1 a2 = (
    if (decide (((a1.map ic).length : Int) = (0 : Int))) = true then
      some true
    else
      lsub a1 (0 : Int) (IntKind.i64.wrap (((a1.map ic).length : Int) - (1 : Int))) >>= fun x1 =>
      F_R10_Get a0 x1 >>= fun x2 =>
      if (decide (x2.2 = (0 : Int))) = true then
        ix a1 (IntKind.i64.wrap (((a1.map ic).length : Int) - (1 : Int))) >>= fun x3 =>
        F_R7_Fits x2.1.kind x3 a2 >>= fun x4 =>
        some x4
      else
        some false
    : Option (Bool)) := F_R10_fits.eq_def a0 a1 a2
set_option maxHeartbeats 4000000 in
theorem S_F_R10_fits  (a0 : Node) (a1 : (List Int)) (a2 : Int) (r : Bool) (h : (
    if (decide (((a1.map ic).length : Int) = (0 : Int))) = true then
      some true
    else
      lsub a1 (0 : Int) (IntKind.i64.wrap (((a1.map ic).length : Int) - (1 : Int))) >>= fun x1 =>
      F_R10_Get a0 x1 >>= fun x2 =>
      if (decide (x2.2 = (0 : Int))) = true then
        ix a1 (IntKind.i64.wrap (((a1.map ic).length : Int) - (1 : Int))) >>= fun x3 =>
        F_R7_Fits x2.1.kind x3 a2 >>= fun x4 =>
        some x4
      else
        some false
    : Option (Bool)) = some r) : M_F_R10_fits a0 a1 a2 r := by
  refine Fn_run (T := tt) (N := 36) (rs := [.tmp 6]) (fun vs w => by simp) Tryd.func61 rfl rfl rfl rfl (by kernel_rfl) (all_pure3 rfl) (closed3_pure _ rfl) ?_
  refine Ok_runB env [] rfl ?_
  refine Ok_cond (fun hb => ?_) (fun hb => ?_)
  · replace h := ite_t hb h
    refine Ok_runB env [] rfl ?_
    cases h
    exact Ok_fin env rfl rfl (told_eq rfl)
  · replace h := ite_f hb h
    refine Ok_runB env [] rfl ?_
    obtain ⟨x1, hx, h⟩ := bind_some h
    refine Ok_lsubT env hx rfl rfl rfl rfl rfl ?_
    refine Ok_runB env [] rfl ?_
    obtain ⟨x2, hx, h⟩ := bind_some h
    refine Ok_call (H_F_R10_Get _ _ _ hx) ?_
    refine Ok_runB env [] rfl ?_
    refine Ok_guard_t (fun hb => ?_) (fun hb => ?_)
    · replace h := ite_t hb h
      refine Ok_runB env [] rfl ?_
      obtain ⟨x3, hx, h⟩ := bind_some h
      refine Ok_ixT env hx rfl rfl rfl rfl rfl ?_
      refine Ok_runB env [] rfl ?_
      obtain ⟨x4, hx, h⟩ := bind_some h
      refine Ok_call (H_F_R7_Fits _ _ _ _ hx) ?_
      refine Ok_runB env [] rfl ?_
      cases h
      exact Ok_fin env rfl rfl (told_eq rfl)
    · replace h := ite_f hb h
      refine Ok_runB env [] rfl ?_
      cases h
      exact Ok_fin env rfl rfl (told_eq rfl)
/-- treemerge/treemergeref10.fits -/
theorem H_F_R10_fits (a0 : Node) (a1 : (List Int)) (a2 : Int) (r : Bool) (h : F_R10_fits a0 a1 a2 = some r) : M_F_R10_fits a0 a1 a2 r :=
  S_F_R10_fits a0 a1 a2 r (by rw [E_F_R10_fits] at h; exact h)
def F_R10_checked (a0 : Node) : Option (Node × Int) :=
  F_R7_Check a0 >>= fun x1 =>
  if (!decide (x1 = (0 : Int))) = true then
    some ((Node.mk 0 (⟨#[]⟩) ([] : (List ByteArray)) ([] : (List Node))), (7 : Int))
  else
    some (a0, (0 : Int))
@[reducible] def M_F_R10_checked (a0 : Node) (r : Node × Int) : Prop :=
  Fn Tryd.prog G 62 [(.agg (cellsN a0))] (.tup [(.agg (cellsN r.1)), (.int .i64 r.2)])
theorem E_F_R10_checked (a0 : Node) : F_R10_checked a0 = (
    F_R7_Check a0 >>= fun x1 =>
    if (!decide (x1 = (0 : Int))) = true then
      some ((Node.mk 0 (⟨#[]⟩) ([] : (List ByteArray)) ([] : (List Node))), (7 : Int))
    else
      some (a0, (0 : Int))
    : Option (Node × Int)) := F_R10_checked.eq_def a0
set_option maxHeartbeats 4000000 in
theorem S_F_R10_checked  (a0 : Node) (r : Node × Int) (h : (
    F_R7_Check a0 >>= fun x1 =>
    if (!decide (x1 = (0 : Int))) = true then
      some ((Node.mk 0 (⟨#[]⟩) ([] : (List ByteArray)) ([] : (List Node))), (7 : Int))
    else
      some (a0, (0 : Int))
    : Option (Node × Int)) = some r) : M_F_R10_checked a0 r := by
  refine Fn_run (T := tt) (N := 9) (rs := [.cell 2 25, .tmp 3]) (fun vs w => by simp) Tryd.func62 rfl rfl rfl rfl (by kernel_rfl) (all_pure3 rfl) (closed3_pure _ rfl) ?_
  refine Ok_runB env [] rfl ?_
  obtain ⟨x1, hx, h⟩ := bind_some h
  refine Ok_call (H_F_R7_Check _ _ hx) ?_
  refine Ok_runB env [] rfl ?_
  refine Ok_cond (fun hb => ?_) (fun hb => ?_)
  · replace h := ite_t hb h
    refine Ok_runB env [] rfl ?_
    cases h
    exact Ok_fin env rfl rfl (told_view (viewT_tup (viewLs_cons (view_agg (viewL_cons (view1_int rfl) (viewL_cons (view1_str rfl) (viewL_cons (view1_sl (.inr rfl)) (viewL_cons (view1_sl (.inr rfl)) viewL_nil))))) (viewLs_cons (view_one (view1_int rfl) (by simp)) viewLs_nil))))
  · replace h := ite_f hb h
    refine Ok_runB env [] rfl ?_
    cases h
    exact Ok_fin env rfl rfl (told_eq rfl)
/-- treemerge/treemergeref10.checked -/
theorem H_F_R10_checked (a0 : Node) (r : Node × Int) (h : F_R10_checked a0 = some r) : M_F_R10_checked a0 r :=
  S_F_R10_checked a0 r (by rw [E_F_R10_checked] at h; exact h)
def F_R10_With_t18 (o2 : Node) : Option (Node) :=
  some o2
@[reducible] def M_F_R10_With_t18 (o2 : Node) (r : Node) : Prop :=
  Ok Tryd.prog G tt 21 0 (Ret Tryd.prog [.cell 4 25] (fun y H => Told Tryd.prog G H y (.agg (cellsN r)))) (.go [] (testOf [18] Tryd.f65 18) [] (.n .undef (.n .undef .z (.n (.ptr 2 2 0) .z .z)) (.n .undef (.n (.ptr 1 1 0) .z .z) .z)) 3 [(0, .dead), (1, .var 25 [(.int .i64 0), (.str ⟨#[]⟩), (.sl 1 false (([] : (List ByteArray)).map sc)), (.sl 4 false (([] : (List Node)).map Node.cells))]), (2, .var 25 (cellsN o2))])
theorem E_F_R10_With_t18 (o2 : Node) : F_R10_With_t18 o2 = (
    some o2
    : Option (Node)) := F_R10_With_t18.eq_def o2
set_option maxHeartbeats 4000000 in
theorem S_F_R10_With_t18  (o2 : Node) (r : Node) (h : (
    some o2
    : Option (Node)) = some r) : M_F_R10_With_t18 o2 r := by
  refine Ok_runB env [18] rfl ?_
  cases h
  exact Ok_fin env rfl rfl (told_eq rfl)
/-- treemerge/treemergeref10.With -/
theorem H_F_R10_With_t18 (o2 : Node) (r : Node) (h : F_R10_With_t18 o2 = some r) : M_F_R10_With_t18 o2 r :=
  S_F_R10_With_t18 o2 r (by rw [E_F_R10_With_t18] at h; exact h)
def F_R10_With (a0 : Node) (a1 : (List Node)) : Option (Node) :=
  F_R7_Own (Node.mk a0.kind a0.text a0.gaps a1) >>= fun x1 =>
  F_R7_Own a0 >>= fun x2 =>
  if (!decide (x1 = x2)) = true then
    F_R10_With_t18 (Node.mk a0.kind a0.text ([] : (List ByteArray)) a1)
  else
    F_R10_With_t18 (Node.mk a0.kind a0.text a0.gaps a1)
@[reducible] def M_F_R10_With (a0 : Node) (a1 : (List Node)) (r : Node) : Prop :=
  Fn Tryd.prog G 65 [(.agg (cellsN a0)), (.sl 4 false (a1.map Node.cells))] (.agg (cellsN r))
theorem E_F_R10_With (a0 : Node) (a1 : (List Node)) : F_R10_With a0 a1 = (
    F_R7_Own (Node.mk a0.kind a0.text a0.gaps a1) >>= fun x1 =>
    F_R7_Own a0 >>= fun x2 =>
    if (!decide (x1 = x2)) = true then
      F_R10_With_t18 (Node.mk a0.kind a0.text ([] : (List ByteArray)) a1)
    else
      F_R10_With_t18 (Node.mk a0.kind a0.text a0.gaps a1)
    : Option (Node)) := F_R10_With.eq_def a0 a1
set_option maxHeartbeats 4000000 in
theorem S_F_R10_With  (a0 : Node) (a1 : (List Node)) (r : Node) (h : (
    F_R7_Own (Node.mk a0.kind a0.text a0.gaps a1) >>= fun x1 =>
    F_R7_Own a0 >>= fun x2 =>
    if (!decide (x1 = x2)) = true then
      F_R10_With_t18 (Node.mk a0.kind a0.text ([] : (List ByteArray)) a1)
    else
      F_R10_With_t18 (Node.mk a0.kind a0.text a0.gaps a1)
    : Option (Node)) = some r) : M_F_R10_With a0 a1 r := by
  refine Fn_run (T := tt) (N := 21) (rs := [.cell 4 25]) (fun vs w => by simp) Tryd.func65 rfl rfl rfl rfl (by kernel_rfl) (all_pure3 rfl) (closed3_pure _ rfl) ?_
  refine Ok_runB env [18] rfl ?_
  obtain ⟨x1, hx, h⟩ := bind_some h
  refine Ok_call (H_F_R7_Own _ _ hx) ?_
  refine Ok_runB env [18] rfl ?_
  obtain ⟨x2, hx, h⟩ := bind_some h
  refine Ok_call (H_F_R7_Own _ _ hx) ?_
  refine Ok_runB env [18] rfl ?_
  refine Ok_cond (fun hb => ?_) (fun hb => ?_)
  · replace h := ite_t hb h
    refine Ok_runB env [18] rfl ?_
    exact Ok_bar_to (by kernel_rfl) rfl (less_at (by simp [leFT, leV, leOs, leO, leC, rho, AV.ren, AV.ren1, AV.ren0, AV.un, AV.un1, AV.un0, AV.closed, wkS] <;> (repeat' apply And.intro) <;> first | rfl) (by simp [leFT, leV, leOs, leO, leC, rho, AV.ren, AV.ren1, AV.ren0, AV.un, AV.un1, AV.un0, AV.closed, wkS] <;> (repeat' apply And.intro) <;> first | rfl)) (H_F_R10_With_t18 _ _ h)
  · replace h := ite_f hb h
    refine Ok_runB env [18] rfl ?_
    exact Ok_bar_to (by kernel_rfl) rfl (less_at (by simp [leFT, leV, leOs, leO, leC, rho, AV.ren, AV.ren1, AV.ren0, AV.un, AV.un1, AV.un0, AV.closed, wkS] <;> (repeat' apply And.intro) <;> first | rfl) (by simp [leFT, leV, leOs, leO, leC, rho, AV.ren, AV.ren1, AV.ren0, AV.un, AV.un1, AV.un0, AV.closed, wkS] <;> (repeat' apply And.intro) <;> first | rfl)) (H_F_R10_With_t18 _ _ h)
/-- treemerge/treemergeref10.With -/
theorem H_F_R10_With (a0 : Node) (a1 : (List Node)) (r : Node) (h : F_R10_With a0 a1 = some r) : M_F_R10_With a0 a1 r :=
  S_F_R10_With a0 a1 r (by rw [E_F_R10_With] at h; exact h)
mutual
def F_R10_put (a0 : Node) (a1 : (List Int)) (a2 : Node) : Option (Node) :=
  if (decide (((a1.map ic).length : Int) = (0 : Int))) = true then
    some a2
  else
    F_R10_put_l0 (nofix a1) ([] : List Node) (0 : Int) (nofix a0) (nofix a2)
  partial_fixpoint
def F_R10_put_l0 (t1 : (List Int)) (t7 : (List Node)) (t8 : Int) (o0 : Node) (o1 : Node) : Option (Node) :=
  if (decide (t8 < ((o0.kids.map Node.cells).length : Int))) = true then
    ix t1 (0 : Int) >>= fun x1 =>
    if (decide (t8 = x1)) = true then
      ix o0.kids t8 >>= fun x2 =>
      lsub t1 (1 : Int) ((t1.map ic).length : Int) >>= fun x3 =>
      F_R10_put (nofix x2) (nofix x3) (nofix o1) >>= fun x4 =>
      app 72 t7 ([x4]) >>= fun x5 =>
      F_R10_put_t24 (nofix t1) (nofix x5) (nofix t8) (nofix o0) (nofix o1)
    else
      ix o0.kids t8 >>= fun x6 =>
      app 72 t7 ([x6]) >>= fun x7 =>
      F_R10_put_t24 (nofix t1) (nofix x7) (nofix t8) (nofix o0) (nofix o1)
  else
    F_R10_With (nofix o0) (nofix t7) >>= fun x8 =>
    some x8
  partial_fixpoint
def F_R10_put_t24 (t1 : (List Int)) (t7 : (List Node)) (t8 : Int) (o0 : Node) (o1 : Node) : Option (Node) :=
  F_R10_put_l0 (nofix t1) (nofix t7) (IntKind.i64.wrap (t8 + (1 : Int))) (nofix o0) (nofix o1)
  partial_fixpoint
end
@[reducible] def M_F_R10_put (a0 : Node) (a1 : (List Int)) (a2 : Node) (r : Node) : Prop :=
  Fn Tryd.prog G 63 [(.agg (cellsN a0)), (.sl 1 false (a1.map ic)), (.agg (cellsN a2))] (.agg (cellsN r))
@[reducible] def M_F_R10_put_l0 (t1 : (List Int)) (t7 : (List Node)) (t8 : Int) (o0 : Node) (o1 : Node) (r : Node) : Prop :=
  Ok Tryd.prog G tt 48 0 (Ret Tryd.prog [.cell 6 25] (fun y H => Told Tryd.prog G H y (.agg (cellsN r)))) (.again (loopOf [24, 1000000] Tryd.f63 0).1 (loopOf [24, 1000000] Tryd.f63 0).2 (.n .undef (.n (.sl 1 false (t1.map ic)) (.n (.ptr 0 0 0) (.n (.bs 4 3 3 0 t7.length) .z .z) .z) (.n (.ptr 1 1 0) .z .z)) (.n .undef (.n .undef (.n (.int .i64 t8) .z .z) .z) (.n (.ptr 2 2 0) .z .z))) 4 [(0, .var 25 (cellsN o0)), (1, .var 25 (cellsN o1)), (2, .var 25 [(.int .i64 0), (.str ⟨#[]⟩), (.sl 1 false (([] : (List ByteArray)).map sc)), (.sl 4 false (([] : (List Node)).map Node.cells))]), (3, .row 25 (t7.map Node.cells).flatten)])
@[reducible] def M_F_R10_put_t24 (t1 : (List Int)) (t7 : (List Node)) (t8 : Int) (o0 : Node) (o1 : Node) (r : Node) : Prop :=
  Ok Tryd.prog G tt 48 0 (Ret Tryd.prog [.cell 6 25] (fun y H => Told Tryd.prog G H y (.agg (cellsN r)))) (.go [] (testOf [24, 1000000] Tryd.f63 24) [] (.n .undef (.n (.sl 1 false (t1.map ic)) (.n (.ptr 0 0 0) (.n (.bs 4 3 4 0 t7.length) .z .z) .z) (.n (.ptr 1 1 0) .z .z)) (.n .undef (.n .undef (.n (.int .i64 t8) .z .z) .z) (.n (.ptr 2 2 0) .z .z))) 5 [(0, .var 25 (cellsN o0)), (1, .var 25 (cellsN o1)), (2, .var 25 [(.int .i64 0), (.str ⟨#[]⟩), (.sl 1 false (([] : (List ByteArray)).map sc)), (.sl 4 false (([] : (List Node)).map Node.cells))]), (4, .row 25 (t7.map Node.cells).flatten)])
theorem E_F_R10_put (a0 : Node) (a1 : (List Int)) (a2 : Node) : F_R10_put a0 a1 a2 = (
    if (decide (((a1.map ic).length : Int) = (0 : Int))) = true then
      some a2
    else
      F_R10_put_l0 a1 ([] : List Node) (0 : Int) a0 a2
    : Option (Node)) := F_R10_put.eq_def a0 a1 a2
theorem E_F_R10_put_l0 (t1 : (List Int)) (t7 : (List Node)) (t8 : Int) (o0 : Node) (o1 : Node) : F_R10_put_l0 t1 t7 t8 o0 o1 = (
    if (decide (t8 < ((o0.kids.map Node.cells).length : Int))) = true then
      ix t1 (0 : Int) >>= fun x1 =>
      if (decide (t8 = x1)) = true then
        ix o0.kids t8 >>= fun x2 =>
        lsub t1 (1 : Int) ((t1.map ic).length : Int) >>= fun x3 =>
        F_R10_put x2 x3 o1 >>= fun x4 =>
        app 72 t7 ([x4]) >>= fun x5 =>
        F_R10_put_t24 t1 x5 t8 o0 o1
      else
        ix o0.kids t8 >>= fun x6 =>
        app 72 t7 ([x6]) >>= fun x7 =>
        F_R10_put_t24 t1 x7 t8 o0 o1
    else
      F_R10_With o0 t7 >>= fun x8 =>
      some x8
    : Option (Node)) := F_R10_put_l0.eq_def t1 t7 t8 o0 o1
theorem E_F_R10_put_t24 (t1 : (List Int)) (t7 : (List Node)) (t8 : Int) (o0 : Node) (o1 : Node) : F_R10_put_t24 t1 t7 t8 o0 o1 = (
    F_R10_put_l0 t1 t7 (IntKind.i64.wrap (t8 + (1 : Int))) o0 o1
    : Option (Node)) := F_R10_put_t24.eq_def t1 t7 t8 o0 o1
set_option maxHeartbeats 4000000 in
theorem S_F_R10_put (F_R10_put_l0 : (List Int) → (List Node) → Int → Node → Node → Option (Node)) (H_F_R10_put_l0 : ∀ (t1 : (List Int)) (t7 : (List Node)) (t8 : Int) (o0 : Node) (o1 : Node) (r : Node), F_R10_put_l0 t1 t7 t8 o0 o1 = some r → M_F_R10_put_l0 t1 t7 t8 o0 o1 r) (a0 : Node) (a1 : (List Int)) (a2 : Node) (r : Node) (h : (
    if (decide (((a1.map ic).length : Int) = (0 : Int))) = true then
      some a2
    else
      F_R10_put_l0 a1 ([] : List Node) (0 : Int) a0 a2
    : Option (Node)) = some r) : M_F_R10_put a0 a1 a2 r := by
  refine Fn_run (T := tt) (N := 48) (rs := [.cell 6 25]) (fun vs w => by simp) Tryd.func63 rfl rfl rfl rfl (by kernel_rfl) (all_pure3 rfl) (closed3_pure _ rfl) ?_
  refine Ok_runB env [24, 1000000] rfl ?_
  refine Ok_cond (fun hb => ?_) (fun hb => ?_)
  · replace h := ite_t hb h
    refine Ok_runB env [24, 1000000] rfl ?_
    cases h
    exact Ok_fin env rfl rfl (told_eq rfl)
  · replace h := ite_f hb h
    refine Ok_runB env [24, 1000000] rfl ?_
    refine Ok_own 7 _ 4 25 rfl rfl ?_
    exact Ok_loop_to (by kernel_rfl) (less_at (by simp [leFT, leV, leOs, leO, leC, rho, AV.ren, AV.ren1, AV.ren0, AV.un, AV.un1, AV.un0, AV.closed, wkS] <;> (repeat' apply And.intro) <;> first | rfl | exact fun x a _ h => (Node_ok.all a x h).2) (by simp [leFT, leV, leOs, leO, leC, rho, AV.ren, AV.ren1, AV.ren0, AV.un, AV.un1, AV.un0, AV.closed, wkS] <;> (repeat' apply And.intro) <;> first | rfl | exact fun x a _ h => (Node_ok.all a x h).2)) (H_F_R10_put_l0 _ _ _ _ _ _ h)
set_option maxHeartbeats 4000000 in
theorem S_F_R10_put_l0 (F_R10_put : Node → (List Int) → Node → Option (Node)) (F_R10_put_t24 : (List Int) → (List Node) → Int → Node → Node → Option (Node)) (H_F_R10_put : ∀ (a0 : Node) (a1 : (List Int)) (a2 : Node) (r : Node), F_R10_put a0 a1 a2 = some r → M_F_R10_put a0 a1 a2 r) (H_F_R10_put_t24 : ∀ (t1 : (List Int)) (t7 : (List Node)) (t8 : Int) (o0 : Node) (o1 : Node) (r : Node), F_R10_put_t24 t1 t7 t8 o0 o1 = some r → M_F_R10_put_t24 t1 t7 t8 o0 o1 r) (t1 : (List Int)) (t7 : (List Node)) (t8 : Int) (o0 : Node) (o1 : Node) (r : Node) (h : (
    if (decide (t8 < ((o0.kids.map Node.cells).length : Int))) = true then
      ix t1 (0 : Int) >>= fun x1 =>
      if (decide (t8 = x1)) = true then
        ix o0.kids t8 >>= fun x2 =>
        lsub t1 (1 : Int) ((t1.map ic).length : Int) >>= fun x3 =>
        F_R10_put x2 x3 o1 >>= fun x4 =>
        app 72 t7 ([x4]) >>= fun x5 =>
        F_R10_put_t24 t1 x5 t8 o0 o1
      else
        ix o0.kids t8 >>= fun x6 =>
        app 72 t7 ([x6]) >>= fun x7 =>
        F_R10_put_t24 t1 x7 t8 o0 o1
    else
      F_R10_With o0 t7 >>= fun x8 =>
      some x8
    : Option (Node)) = some r) : M_F_R10_put_l0 t1 t7 t8 o0 o1 r := by
  refine Ok_unroll ?_
  refine Ok_runB env [24, 1000000] rfl ?_
  refine Ok_cond (fun hb => ?_) (fun hb => ?_)
  · replace h := ite_t hb h
    refine Ok_runB env [24, 1000000] rfl ?_
    obtain ⟨x1, hx, h⟩ := bind_some h
    refine Ok_ixT env hx rfl rfl rfl rfl rfl ?_
    refine Ok_runB env [24, 1000000] rfl ?_
    refine Ok_cond (fun hb => ?_) (fun hb => ?_)
    · replace h := ite_t hb h
      refine Ok_runB env [24, 1000000] rfl ?_
      obtain ⟨x2, hx, h⟩ := bind_some h
      refine Ok_ixT env hx rfl rfl rfl rfl (Node.cells_eq x2) ?_
      refine Ok_runB env [24, 1000000] rfl ?_
      obtain ⟨x3, hx, h⟩ := bind_some h
      refine Ok_lsubT env hx rfl rfl rfl rfl rfl ?_
      refine Ok_runB env [24, 1000000] rfl ?_
      obtain ⟨x4, hx, h⟩ := bind_some h
      refine Ok_call (H_F_R10_put _ _ _ _ hx) ?_
      refine Ok_runB env [24, 1000000] rfl ?_
      obtain ⟨x5, hx, h⟩ := bind_some h
      have hp_x5 := app_pos hx (by simp)
      refine Ok_appO env hx rfl (show _ = AV.sl _ _ (List.map Node.cells [x4]) from (by simp only [List.map_cons, List.map_nil, Node.cells_eq]; rfl)) (by simp) Node.cells_len rfl rfl rfl rfl rfl (by decide) rfl rfl rfl ?_
      refine Ok_runB env [24, 1000000] rfl ?_
      exact Ok_bar_to (by kernel_rfl) rfl (less_at (by simp [leFT, leV, leOs, leO, leC, rho, AV.ren, AV.ren1, AV.ren0, AV.un, AV.un1, AV.un0, AV.closed, wkS] <;> (repeat' apply And.intro) <;> first | rfl | exact fun x a _ h => (Node_ok.all a x h).2) (by simp [leFT, leV, leOs, leO, leC, rho, AV.ren, AV.ren1, AV.ren0, AV.un, AV.un1, AV.un0, AV.closed, wkS] <;> (repeat' apply And.intro) <;> first | rfl | exact fun x a _ h => (Node_ok.all a x h).2)) (H_F_R10_put_t24 _ _ _ _ _ _ h)
    · replace h := ite_f hb h
      refine Ok_runB env [24, 1000000] rfl ?_
      obtain ⟨x6, hx, h⟩ := bind_some h
      refine Ok_ixT env hx rfl rfl rfl rfl (Node.cells_eq x6) ?_
      refine Ok_runB env [24, 1000000] rfl ?_
      obtain ⟨x7, hx, h⟩ := bind_some h
      have hp_x7 := app_pos hx (by simp)
      refine Ok_appO env hx rfl (show _ = AV.sl _ _ (List.map Node.cells [x6]) from (by simp only [List.map_cons, List.map_nil, Node.cells_eq]; rfl)) (by simp) Node.cells_len rfl rfl rfl rfl rfl (by decide) rfl rfl rfl ?_
      refine Ok_runB env [24, 1000000] rfl ?_
      exact Ok_bar_to (by kernel_rfl) rfl (less_at (by simp [leFT, leV, leOs, leO, leC, rho, AV.ren, AV.ren1, AV.ren0, AV.un, AV.un1, AV.un0, AV.closed, wkS] <;> (repeat' apply And.intro) <;> first | rfl | exact fun x a _ h => (Node_ok.all a x h).2) (by simp [leFT, leV, leOs, leO, leC, rho, AV.ren, AV.ren1, AV.ren0, AV.un, AV.un1, AV.un0, AV.closed, wkS] <;> (repeat' apply And.intro) <;> first | rfl | exact fun x a _ h => (Node_ok.all a x h).2)) (H_F_R10_put_t24 _ _ _ _ _ _ h)
  · replace h := ite_f hb h
    refine Ok_runB env [24, 1000000] rfl ?_
    refine Ok_viewB [(7, (.sl 4 false (t7.map Node.cells)))] [3] rfl (viwL_cons Node_ok rfl rfl rfl viwL_nil) rfl rfl ?_
    refine Ok_bar_on ?_
    refine Ok_runB env [24, 1000000] rfl ?_
    obtain ⟨x8, hx, h⟩ := bind_some h
    refine Ok_call (H_F_R10_With _ _ _ hx) ?_
    refine Ok_runB env [24, 1000000] rfl ?_
    cases h
    exact Ok_fin env rfl rfl (told_eq rfl)
set_option maxHeartbeats 4000000 in
theorem S_F_R10_put_t24 (F_R10_put_l0 : (List Int) → (List Node) → Int → Node → Node → Option (Node)) (H_F_R10_put_l0 : ∀ (t1 : (List Int)) (t7 : (List Node)) (t8 : Int) (o0 : Node) (o1 : Node) (r : Node), F_R10_put_l0 t1 t7 t8 o0 o1 = some r → M_F_R10_put_l0 t1 t7 t8 o0 o1 r) (t1 : (List Int)) (t7 : (List Node)) (t8 : Int) (o0 : Node) (o1 : Node) (r : Node) (h : (
    F_R10_put_l0 t1 t7 (IntKind.i64.wrap (t8 + (1 : Int))) o0 o1
    : Option (Node)) = some r) : M_F_R10_put_t24 t1 t7 t8 o0 o1 r := by
  refine Ok_runB env [24, 1000000] rfl ?_
  exact Ok_again_to (by kernel_rfl) (less_at (by simp [leFT, leV, leOs, leO, leC, rho, AV.ren, AV.ren1, AV.ren0, AV.un, AV.un1, AV.un0, AV.closed, wkS] <;> (repeat' apply And.intro) <;> first | rfl | exact fun x a _ h => (Node_ok.all a x h).2) (by simp [leFT, leV, leOs, leO, leC, rho, AV.ren, AV.ren1, AV.ren0, AV.un, AV.un1, AV.un0, AV.closed, wkS] <;> (repeat' apply And.intro) <;> first | rfl | exact fun x a _ h => (Node_ok.all a x h).2)) (H_F_R10_put_l0 _ _ _ _ _ _ h)
/-- treemerge/treemergeref10.put -/
theorem H_F_R10_put (a0 : Node) (a1 : (List Int)) (a2 : Node) (r : Node) (h : F_R10_put a0 a1 a2 = some r) : M_F_R10_put a0 a1 a2 r :=
  (F_R10_put.mutual_partial_correctness (fun a0 a1 a2 r => M_F_R10_put a0 a1 a2 r) (fun t1 t7 t8 o0 o1 r => M_F_R10_put_l0 t1 t7 t8 o0 o1 r) (fun t1 t7 t8 o0 o1 r => M_F_R10_put_t24 t1 t7 t8 o0 o1 r) (fun F0 h0 => S_F_R10_put F0 h0) (fun F0 F1 h0 h1 => S_F_R10_put_l0 F0 F1 h0 h1) (fun F0 h0 => S_F_R10_put_t24 F0 h0)).1 a0 a1 a2 r h
/-- treemerge/treemergeref10.put -/
theorem H_F_R10_put_l0 (t1 : (List Int)) (t7 : (List Node)) (t8 : Int) (o0 : Node) (o1 : Node) (r : Node) (h : F_R10_put_l0 t1 t7 t8 o0 o1 = some r) : M_F_R10_put_l0 t1 t7 t8 o0 o1 r :=
  (F_R10_put.mutual_partial_correctness (fun a0 a1 a2 r => M_F_R10_put a0 a1 a2 r) (fun t1 t7 t8 o0 o1 r => M_F_R10_put_l0 t1 t7 t8 o0 o1 r) (fun t1 t7 t8 o0 o1 r => M_F_R10_put_t24 t1 t7 t8 o0 o1 r) (fun F0 h0 => S_F_R10_put F0 h0) (fun F0 F1 h0 h1 => S_F_R10_put_l0 F0 F1 h0 h1) (fun F0 h0 => S_F_R10_put_t24 F0 h0)).2.1 t1 t7 t8 o0 o1 r h
/-- treemerge/treemergeref10.put -/
theorem H_F_R10_put_t24 (t1 : (List Int)) (t7 : (List Node)) (t8 : Int) (o0 : Node) (o1 : Node) (r : Node) (h : F_R10_put_t24 t1 t7 t8 o0 o1 = some r) : M_F_R10_put_t24 t1 t7 t8 o0 o1 r :=
  (F_R10_put.mutual_partial_correctness (fun a0 a1 a2 r => M_F_R10_put a0 a1 a2 r) (fun t1 t7 t8 o0 o1 r => M_F_R10_put_l0 t1 t7 t8 o0 o1 r) (fun t1 t7 t8 o0 o1 r => M_F_R10_put_t24 t1 t7 t8 o0 o1 r) (fun F0 h0 => S_F_R10_put F0 h0) (fun F0 F1 h0 h1 => S_F_R10_put_l0 F0 F1 h0 h1) (fun F0 h0 => S_F_R10_put_t24 F0 h0)).2.2 t1 t7 t8 o0 o1 r h
def F_R10_Replace (a0 : Node) (a1 : (List Int)) (a2 : Node) : Option (Node × Int) :=
  F_R10_Get a0 a1 >>= fun x1 =>
  if (!decide (x1.2 = (0 : Int))) = true then
    some ((Node.mk 0 (⟨#[]⟩) ([] : (List ByteArray)) ([] : (List Node))), x1.2)
  else
    F_R10_fits a0 a1 a2.kind >>= fun x2 =>
    if (!x2) = true then
      some ((Node.mk 0 (⟨#[]⟩) ([] : (List ByteArray)) ([] : (List Node))), (7 : Int))
    else
      F_R10_put a0 a1 a2 >>= fun x3 =>
      F_R10_checked x3 >>= fun x4 =>
      some (x4.1, x4.2)
@[reducible] def M_F_R10_Replace (a0 : Node) (a1 : (List Int)) (a2 : Node) (r : Node × Int) : Prop :=
  Fn Tryd.prog G 27 [(.agg (cellsN a0)), (.sl 1 false (a1.map ic)), (.agg (cellsN a2))] (.tup [(.agg (cellsN r.1)), (.int .i64 r.2)])
theorem E_F_R10_Replace (a0 : Node) (a1 : (List Int)) (a2 : Node) : F_R10_Replace a0 a1 a2 = (
    F_R10_Get a0 a1 >>= fun x1 =>
    if (!decide (x1.2 = (0 : Int))) = true then
      some ((Node.mk 0 (⟨#[]⟩) ([] : (List ByteArray)) ([] : (List Node))), x1.2)
    else
      F_R10_fits a0 a1 a2.kind >>= fun x2 =>
      if (!x2) = true then
        some ((Node.mk 0 (⟨#[]⟩) ([] : (List ByteArray)) ([] : (List Node))), (7 : Int))
      else
        F_R10_put a0 a1 a2 >>= fun x3 =>
        F_R10_checked x3 >>= fun x4 =>
        some (x4.1, x4.2)
    : Option (Node × Int)) := F_R10_Replace.eq_def a0 a1 a2
set_option maxHeartbeats 4000000 in
theorem S_F_R10_Replace  (a0 : Node) (a1 : (List Int)) (a2 : Node) (r : Node × Int) (h : (
    F_R10_Get a0 a1 >>= fun x1 =>
    if (!decide (x1.2 = (0 : Int))) = true then
      some ((Node.mk 0 (⟨#[]⟩) ([] : (List ByteArray)) ([] : (List Node))), x1.2)
    else
      F_R10_fits a0 a1 a2.kind >>= fun x2 =>
      if (!x2) = true then
        some ((Node.mk 0 (⟨#[]⟩) ([] : (List ByteArray)) ([] : (List Node))), (7 : Int))
      else
        F_R10_put a0 a1 a2 >>= fun x3 =>
        F_R10_checked x3 >>= fun x4 =>
        some (x4.1, x4.2)
    : Option (Node × Int)) = some r) : M_F_R10_Replace a0 a1 a2 r := by
  refine Fn_run (T := tt) (N := 34) (rs := [.cell 6 25, .tmp 7]) (fun vs w => by simp) Tryd.func27 rfl rfl rfl rfl (by kernel_rfl) (all_pure3 rfl) (closed3_pure _ rfl) ?_
  refine Ok_runB env [] rfl ?_
  obtain ⟨x1, hx, h⟩ := bind_some h
  refine Ok_call (H_F_R10_Get _ _ _ hx) ?_
  refine Ok_runB env [] rfl ?_
  refine Ok_cond (fun hb => ?_) (fun hb => ?_)
  · replace h := ite_t hb h
    refine Ok_runB env [] rfl ?_
    cases h
    exact Ok_fin env rfl rfl (told_view (viewT_tup (viewLs_cons (view_agg (viewL_cons (view1_int rfl) (viewL_cons (view1_str rfl) (viewL_cons (view1_sl (.inr rfl)) (viewL_cons (view1_sl (.inr rfl)) viewL_nil))))) (viewLs_cons (view_one (view1_int rfl) (by simp)) viewLs_nil))))
  · replace h := ite_f hb h
    refine Ok_runB env [] rfl ?_
    obtain ⟨x2, hx, h⟩ := bind_some h
    refine Ok_call (H_F_R10_fits _ _ _ _ hx) ?_
    refine Ok_runB env [] rfl ?_
    refine Ok_cond (fun hb => ?_) (fun hb => ?_)
    · replace h := ite_t hb h
      refine Ok_runB env [] rfl ?_
      cases h
      exact Ok_fin env rfl rfl (told_view (viewT_tup (viewLs_cons (view_agg (viewL_cons (view1_int rfl) (viewL_cons (view1_str rfl) (viewL_cons (view1_sl (.inr rfl)) (viewL_cons (view1_sl (.inr rfl)) viewL_nil))))) (viewLs_cons (view_one (view1_int rfl) (by simp)) viewLs_nil))))
    · replace h := ite_f hb h
      refine Ok_runB env [] rfl ?_
      obtain ⟨x3, hx, h⟩ := bind_some h
      refine Ok_call (H_F_R10_put _ _ _ _ hx) ?_
      refine Ok_runB env [] rfl ?_
      obtain ⟨x4, hx, h⟩ := bind_some h
      refine Ok_call (H_F_R10_checked _ _ hx) ?_
      refine Ok_runB env [] rfl ?_
      cases h
      exact Ok_fin env rfl rfl (told_eq rfl)
/-- treemerge/treemergeref10.Replace -/
theorem H_F_R10_Replace (a0 : Node) (a1 : (List Int)) (a2 : Node) (r : Node × Int) (h : F_R10_Replace a0 a1 a2 = some r) : M_F_R10_Replace a0 a1 a2 r :=
  S_F_R10_Replace a0 a1 a2 r (by rw [E_F_R10_Replace] at h; exact h)
mutual
def F_R10_Insert_l0 (t1 : (List Int)) (t8 : Int) (t11 : (List Node)) (t12 : Int) (o0 : Node) (o1 : Node) (o3 : Node) : Option (Node × Int) :=
  if (decide (t12 ≤ ((o3.kids.map Node.cells).length : Int))) = true then
    ix t1 t8 >>= fun x6 =>
    if (decide (t12 = x6)) = true then
      app 72 t11 ([o1]) >>= fun x7 =>
      F_R10_Insert_t66 (nofix t1) (nofix t8) (nofix x7) (nofix t12) (nofix o0) (nofix o1) (nofix o3)
    else
      F_R10_Insert_t66 (nofix t1) (nofix t8) (nofix t11) (nofix t12) (nofix o0) (nofix o1) (nofix o3)
  else
    lsub t1 (0 : Int) t8 >>= fun x8 =>
    F_R10_With (nofix o3) (nofix t11) >>= fun x9 =>
    F_R10_put (nofix o0) (nofix x8) (nofix x9) >>= fun x10 =>
    F_R10_checked (nofix x10) >>= fun x11 =>
    some (x11.1, x11.2)
  partial_fixpoint
def F_R10_Insert_t66 (t1 : (List Int)) (t8 : Int) (t11 : (List Node)) (t12 : Int) (o0 : Node) (o1 : Node) (o3 : Node) : Option (Node × Int) :=
  if (decide (t12 < ((o3.kids.map Node.cells).length : Int))) = true then
    ix o3.kids t12 >>= fun x12 =>
    app 72 t11 ([x12]) >>= fun x13 =>
    F_R10_Insert_t75 (nofix t1) (nofix t8) (nofix x13) (nofix t12) (nofix o0) (nofix o1) (nofix o3)
  else
    F_R10_Insert_t75 (nofix t1) (nofix t8) (nofix t11) (nofix t12) (nofix o0) (nofix o1) (nofix o3)
  partial_fixpoint
def F_R10_Insert_t75 (t1 : (List Int)) (t8 : Int) (t11 : (List Node)) (t12 : Int) (o0 : Node) (o1 : Node) (o3 : Node) : Option (Node × Int) :=
  F_R10_Insert_l0 (nofix t1) (nofix t8) (nofix t11) (IntKind.i64.wrap (t12 + (1 : Int))) (nofix o0) (nofix o1) (nofix o3)
  partial_fixpoint
end
@[reducible] def M_F_R10_Insert_l0 (t1 : (List Int)) (t8 : Int) (t11 : (List Node)) (t12 : Int) (o0 : Node) (o1 : Node) (o3 : Node) (r : Node × Int) : Prop :=
  Ok Tryd.prog G tt 95 0 (Ret Tryd.prog [.cell 6 25, .tmp 7] (fun y H => Told Tryd.prog G H y (.tup [(.agg (cellsN r.1)), (.int .i64 r.2)]))) (.again (loopOf [66, 75, 1000000] Tryd.f29 0).1 (loopOf [66, 75, 1000000] Tryd.f29 0).2 (.n .undef (.n (.sl 1 false (t1.map ic)) (.n (.ptr 0 0 0) .z (.n (.bs 4 4 4 0 t11.length) .z .z)) (.n (.ptr 1 1 0) (.n (.ptr 3 3 0) .z .z) .z)) (.n .undef (.n .undef (.n (.int .i64 t8) .z .z) (.n (.int .i64 t12) .z .z)) (.n (.ptr 2 2 0) .z .z))) 5 [(0, .var 25 (cellsN o0)), (1, .var 25 (cellsN o1)), (2, .var 25 [(.int .i64 0), (.str ⟨#[]⟩), (.sl 1 false (([] : (List ByteArray)).map sc)), (.sl 4 false (([] : (List Node)).map Node.cells))]), (3, .var 25 (cellsN o3)), (4, .row 25 (t11.map Node.cells).flatten)])
@[reducible] def M_F_R10_Insert_t66 (t1 : (List Int)) (t8 : Int) (t11 : (List Node)) (t12 : Int) (o0 : Node) (o1 : Node) (o3 : Node) (r : Node × Int) : Prop :=
  Ok Tryd.prog G tt 95 0 (Ret Tryd.prog [.cell 6 25, .tmp 7] (fun y H => Told Tryd.prog G H y (.tup [(.agg (cellsN r.1)), (.int .i64 r.2)]))) (.go [] (testOf [66, 75, 1000000] Tryd.f29 66) [] (.n .undef (.n (.sl 1 false (t1.map ic)) (.n (.ptr 0 0 0) .z (.n (.bs 4 4 5 0 t11.length) .z .z)) (.n (.ptr 1 1 0) (.n (.ptr 3 3 0) .z .z) .z)) (.n .undef (.n .undef (.n (.int .i64 t8) .z .z) (.n (.int .i64 t12) .z .z)) (.n (.ptr 2 2 0) .z .z))) 6 [(0, .var 25 (cellsN o0)), (1, .var 25 (cellsN o1)), (2, .var 25 [(.int .i64 0), (.str ⟨#[]⟩), (.sl 1 false (([] : (List ByteArray)).map sc)), (.sl 4 false (([] : (List Node)).map Node.cells))]), (3, .var 25 (cellsN o3)), (5, .row 25 (t11.map Node.cells).flatten)])
@[reducible] def M_F_R10_Insert_t75 (t1 : (List Int)) (t8 : Int) (t11 : (List Node)) (t12 : Int) (o0 : Node) (o1 : Node) (o3 : Node) (r : Node × Int) : Prop :=
  Ok Tryd.prog G tt 95 0 (Ret Tryd.prog [.cell 6 25, .tmp 7] (fun y H => Told Tryd.prog G H y (.tup [(.agg (cellsN r.1)), (.int .i64 r.2)]))) (.go [] (testOf [66, 75, 1000000] Tryd.f29 75) [] (.n .undef (.n (.sl 1 false (t1.map ic)) (.n (.ptr 0 0 0) .z (.n (.bs 4 4 6 0 t11.length) .z .z)) (.n (.ptr 1 1 0) (.n (.ptr 3 3 0) .z .z) .z)) (.n .undef (.n .undef (.n (.int .i64 t8) .z .z) (.n (.int .i64 t12) .z .z)) (.n (.ptr 2 2 0) .z .z))) 7 [(0, .var 25 (cellsN o0)), (1, .var 25 (cellsN o1)), (2, .var 25 [(.int .i64 0), (.str ⟨#[]⟩), (.sl 1 false (([] : (List ByteArray)).map sc)), (.sl 4 false (([] : (List Node)).map Node.cells))]), (3, .var 25 (cellsN o3)), (6, .row 25 (t11.map Node.cells).flatten)])
theorem E_F_R10_Insert_l0 (t1 : (List Int)) (t8 : Int) (t11 : (List Node)) (t12 : Int) (o0 : Node) (o1 : Node) (o3 : Node) : F_R10_Insert_l0 t1 t8 t11 t12 o0 o1 o3 = (
    if (decide (t12 ≤ ((o3.kids.map Node.cells).length : Int))) = true then
      ix t1 t8 >>= fun x6 =>
      if (decide (t12 = x6)) = true then
        app 72 t11 ([o1]) >>= fun x7 =>
        F_R10_Insert_t66 t1 t8 x7 t12 o0 o1 o3
      else
        F_R10_Insert_t66 t1 t8 t11 t12 o0 o1 o3
    else
      lsub t1 (0 : Int) t8 >>= fun x8 =>
      F_R10_With o3 t11 >>= fun x9 =>
      F_R10_put o0 x8 x9 >>= fun x10 =>
      F_R10_checked x10 >>= fun x11 =>
      some (x11.1, x11.2)
    : Option (Node × Int)) := F_R10_Insert_l0.eq_def t1 t8 t11 t12 o0 o1 o3
theorem E_F_R10_Insert_t66 (t1 : (List Int)) (t8 : Int) (t11 : (List Node)) (t12 : Int) (o0 : Node) (o1 : Node) (o3 : Node) : F_R10_Insert_t66 t1 t8 t11 t12 o0 o1 o3 = (
    if (decide (t12 < ((o3.kids.map Node.cells).length : Int))) = true then
      ix o3.kids t12 >>= fun x12 =>
      app 72 t11 ([x12]) >>= fun x13 =>
      F_R10_Insert_t75 t1 t8 x13 t12 o0 o1 o3
    else
      F_R10_Insert_t75 t1 t8 t11 t12 o0 o1 o3
    : Option (Node × Int)) := F_R10_Insert_t66.eq_def t1 t8 t11 t12 o0 o1 o3
theorem E_F_R10_Insert_t75 (t1 : (List Int)) (t8 : Int) (t11 : (List Node)) (t12 : Int) (o0 : Node) (o1 : Node) (o3 : Node) : F_R10_Insert_t75 t1 t8 t11 t12 o0 o1 o3 = (
    F_R10_Insert_l0 t1 t8 t11 (IntKind.i64.wrap (t12 + (1 : Int))) o0 o1 o3
    : Option (Node × Int)) := F_R10_Insert_t75.eq_def t1 t8 t11 t12 o0 o1 o3
set_option maxHeartbeats 4000000 in
theorem S_F_R10_Insert_l0 (F_R10_Insert_t66 : (List Int) → Int → (List Node) → Int → Node → Node → Node → Option (Node × Int)) (H_F_R10_Insert_t66 : ∀ (t1 : (List Int)) (t8 : Int) (t11 : (List Node)) (t12 : Int) (o0 : Node) (o1 : Node) (o3 : Node) (r : Node × Int), F_R10_Insert_t66 t1 t8 t11 t12 o0 o1 o3 = some r → M_F_R10_Insert_t66 t1 t8 t11 t12 o0 o1 o3 r) (t1 : (List Int)) (t8 : Int) (t11 : (List Node)) (t12 : Int) (o0 : Node) (o1 : Node) (o3 : Node) (r : Node × Int) (h : (
    if (decide (t12 ≤ ((o3.kids.map Node.cells).length : Int))) = true then
      ix t1 t8 >>= fun x6 =>
      if (decide (t12 = x6)) = true then
        app 72 t11 ([o1]) >>= fun x7 =>
        F_R10_Insert_t66 t1 t8 x7 t12 o0 o1 o3
      else
        F_R10_Insert_t66 t1 t8 t11 t12 o0 o1 o3
    else
      lsub t1 (0 : Int) t8 >>= fun x8 =>
      F_R10_With o3 t11 >>= fun x9 =>
      F_R10_put o0 x8 x9 >>= fun x10 =>
      F_R10_checked x10 >>= fun x11 =>
      some (x11.1, x11.2)
    : Option (Node × Int)) = some r) : M_F_R10_Insert_l0 t1 t8 t11 t12 o0 o1 o3 r := by
  refine Ok_unroll ?_
  refine Ok_runB env [66, 75, 1000000] rfl ?_
  refine Ok_cond (fun hb => ?_) (fun hb => ?_)
  · replace h := ite_t hb h
    refine Ok_runB env [66, 75, 1000000] rfl ?_
    obtain ⟨x6, hx, h⟩ := bind_some h
    refine Ok_ixT env hx rfl rfl rfl rfl rfl ?_
    refine Ok_runB env [66, 75, 1000000] rfl ?_
    refine Ok_cond (fun hb => ?_) (fun hb => ?_)
    · replace h := ite_t hb h
      refine Ok_runB env [66, 75, 1000000] rfl ?_
      obtain ⟨x7, hx, h⟩ := bind_some h
      have hp_x7 := app_pos hx (by simp)
      refine Ok_appO env hx rfl (show _ = AV.sl _ _ (List.map Node.cells [o1]) from (by simp only [List.map_cons, List.map_nil, Node.cells_eq]; rfl)) (by simp) Node.cells_len rfl rfl rfl rfl rfl (by decide) rfl rfl rfl ?_
      refine Ok_runB env [66, 75, 1000000] rfl ?_
      exact Ok_bar_to (by kernel_rfl) rfl (less_at (by simp [leFT, leV, leOs, leO, leC, rho, AV.ren, AV.ren1, AV.ren0, AV.un, AV.un1, AV.un0, AV.closed, wkS] <;> (repeat' apply And.intro) <;> first | rfl | exact fun x a _ h => (Node_ok.all a x h).2) (by simp [leFT, leV, leOs, leO, leC, rho, AV.ren, AV.ren1, AV.ren0, AV.un, AV.un1, AV.un0, AV.closed, wkS] <;> (repeat' apply And.intro) <;> first | rfl | exact fun x a _ h => (Node_ok.all a x h).2)) (H_F_R10_Insert_t66 _ _ _ _ _ _ _ _ h)
    · replace h := ite_f hb h
      refine Ok_runB env [66, 75, 1000000] rfl ?_
      exact Ok_bar_to (by kernel_rfl) rfl (less_at (by simp [leFT, leV, leOs, leO, leC, rho, AV.ren, AV.ren1, AV.ren0, AV.un, AV.un1, AV.un0, AV.closed, wkS] <;> (repeat' apply And.intro) <;> first | rfl | exact fun x a _ h => (Node_ok.all a x h).2) (by simp [leFT, leV, leOs, leO, leC, rho, AV.ren, AV.ren1, AV.ren0, AV.un, AV.un1, AV.un0, AV.closed, wkS] <;> (repeat' apply And.intro) <;> first | rfl | exact fun x a _ h => (Node_ok.all a x h).2)) (H_F_R10_Insert_t66 _ _ _ _ _ _ _ _ h)
  · replace h := ite_f hb h
    refine Ok_runB env [66, 75, 1000000] rfl ?_
    refine Ok_viewB [(11, (.sl 4 false (t11.map Node.cells)))] [4] rfl (viwL_cons Node_ok rfl rfl rfl viwL_nil) rfl rfl ?_
    refine Ok_bar_on ?_
    refine Ok_runB env [66, 75, 1000000] rfl ?_
    obtain ⟨x8, hx, h⟩ := bind_some h
    refine Ok_lsubT env hx rfl rfl rfl rfl rfl ?_
    refine Ok_runB env [66, 75, 1000000] rfl ?_
    obtain ⟨x9, hx, h⟩ := bind_some h
    refine Ok_call (H_F_R10_With _ _ _ hx) ?_
    refine Ok_runB env [66, 75, 1000000] rfl ?_
    obtain ⟨x10, hx, h⟩ := bind_some h
    refine Ok_call (H_F_R10_put _ _ _ _ hx) ?_
    refine Ok_runB env [66, 75, 1000000] rfl ?_
    obtain ⟨x11, hx, h⟩ := bind_some h
    refine Ok_call (H_F_R10_checked _ _ hx) ?_
    refine Ok_runB env [66, 75, 1000000] rfl ?_
    cases h
    exact Ok_fin env rfl rfl (told_eq rfl)
set_option maxHeartbeats 4000000 in
theorem S_F_R10_Insert_t66 (F_R10_Insert_t75 : (List Int) → Int → (List Node) → Int → Node → Node → Node → Option (Node × Int)) (H_F_R10_Insert_t75 : ∀ (t1 : (List Int)) (t8 : Int) (t11 : (List Node)) (t12 : Int) (o0 : Node) (o1 : Node) (o3 : Node) (r : Node × Int), F_R10_Insert_t75 t1 t8 t11 t12 o0 o1 o3 = some r → M_F_R10_Insert_t75 t1 t8 t11 t12 o0 o1 o3 r) (t1 : (List Int)) (t8 : Int) (t11 : (List Node)) (t12 : Int) (o0 : Node) (o1 : Node) (o3 : Node) (r : Node × Int) (h : (
    if (decide (t12 < ((o3.kids.map Node.cells).length : Int))) = true then
      ix o3.kids t12 >>= fun x12 =>
      app 72 t11 ([x12]) >>= fun x13 =>
      F_R10_Insert_t75 t1 t8 x13 t12 o0 o1 o3
    else
      F_R10_Insert_t75 t1 t8 t11 t12 o0 o1 o3
    : Option (Node × Int)) = some r) : M_F_R10_Insert_t66 t1 t8 t11 t12 o0 o1 o3 r := by
  refine Ok_runB env [66, 75, 1000000] rfl ?_
  refine Ok_cond (fun hb => ?_) (fun hb => ?_)
  · replace h := ite_t hb h
    refine Ok_runB env [66, 75, 1000000] rfl ?_
    obtain ⟨x12, hx, h⟩ := bind_some h
    refine Ok_ixT env hx rfl rfl rfl rfl (Node.cells_eq x12) ?_
    refine Ok_runB env [66, 75, 1000000] rfl ?_
    obtain ⟨x13, hx, h⟩ := bind_some h
    have hp_x13 := app_pos hx (by simp)
    refine Ok_appO env hx rfl (show _ = AV.sl _ _ (List.map Node.cells [x12]) from (by simp only [List.map_cons, List.map_nil, Node.cells_eq]; rfl)) (by simp) Node.cells_len rfl rfl rfl rfl rfl (by decide) rfl rfl rfl ?_
    refine Ok_runB env [66, 75, 1000000] rfl ?_
    exact Ok_bar_to (by kernel_rfl) rfl (less_at (by simp [leFT, leV, leOs, leO, leC, rho, AV.ren, AV.ren1, AV.ren0, AV.un, AV.un1, AV.un0, AV.closed, wkS] <;> (repeat' apply And.intro) <;> first | rfl | exact fun x a _ h => (Node_ok.all a x h).2) (by simp [leFT, leV, leOs, leO, leC, rho, AV.ren, AV.ren1, AV.ren0, AV.un, AV.un1, AV.un0, AV.closed, wkS] <;> (repeat' apply And.intro) <;> first | rfl | exact fun x a _ h => (Node_ok.all a x h).2)) (H_F_R10_Insert_t75 _ _ _ _ _ _ _ _ h)
  · replace h := ite_f hb h
    refine Ok_runB env [66, 75, 1000000] rfl ?_
    exact Ok_bar_to (by kernel_rfl) rfl (less_at (by simp [leFT, leV, leOs, leO, leC, rho, AV.ren, AV.ren1, AV.ren0, AV.un, AV.un1, AV.un0, AV.closed, wkS] <;> (repeat' apply And.intro) <;> first | rfl | exact fun x a _ h => (Node_ok.all a x h).2) (by simp [leFT, leV, leOs, leO, leC, rho, AV.ren, AV.ren1, AV.ren0, AV.un, AV.un1, AV.un0, AV.closed, wkS] <;> (repeat' apply And.intro) <;> first | rfl | exact fun x a _ h => (Node_ok.all a x h).2)) (H_F_R10_Insert_t75 _ _ _ _ _ _ _ _ h)
set_option maxHeartbeats 4000000 in
theorem S_F_R10_Insert_t75 (F_R10_Insert_l0 : (List Int) → Int → (List Node) → Int → Node → Node → Node → Option (Node × Int)) (H_F_R10_Insert_l0 : ∀ (t1 : (List Int)) (t8 : Int) (t11 : (List Node)) (t12 : Int) (o0 : Node) (o1 : Node) (o3 : Node) (r : Node × Int), F_R10_Insert_l0 t1 t8 t11 t12 o0 o1 o3 = some r → M_F_R10_Insert_l0 t1 t8 t11 t12 o0 o1 o3 r) (t1 : (List Int)) (t8 : Int) (t11 : (List Node)) (t12 : Int) (o0 : Node) (o1 : Node) (o3 : Node) (r : Node × Int) (h : (
    F_R10_Insert_l0 t1 t8 t11 (IntKind.i64.wrap (t12 + (1 : Int))) o0 o1 o3
    : Option (Node × Int)) = some r) : M_F_R10_Insert_t75 t1 t8 t11 t12 o0 o1 o3 r := by
  refine Ok_runB env [66, 75, 1000000] rfl ?_
  exact Ok_again_to (by kernel_rfl) (less_at (by simp [leFT, leV, leOs, leO, leC, rho, AV.ren, AV.ren1, AV.ren0, AV.un, AV.un1, AV.un0, AV.closed, wkS] <;> (repeat' apply And.intro) <;> first | rfl | exact fun x a _ h => (Node_ok.all a x h).2) (by simp [leFT, leV, leOs, leO, leC, rho, AV.ren, AV.ren1, AV.ren0, AV.un, AV.un1, AV.un0, AV.closed, wkS] <;> (repeat' apply And.intro) <;> first | rfl | exact fun x a _ h => (Node_ok.all a x h).2)) (H_F_R10_Insert_l0 _ _ _ _ _ _ _ _ h)
/-- treemerge/treemergeref10.Insert -/
theorem H_F_R10_Insert_l0 (t1 : (List Int)) (t8 : Int) (t11 : (List Node)) (t12 : Int) (o0 : Node) (o1 : Node) (o3 : Node) (r : Node × Int) (h : F_R10_Insert_l0 t1 t8 t11 t12 o0 o1 o3 = some r) : M_F_R10_Insert_l0 t1 t8 t11 t12 o0 o1 o3 r :=
  (F_R10_Insert_l0.mutual_partial_correctness (fun t1 t8 t11 t12 o0 o1 o3 r => M_F_R10_Insert_l0 t1 t8 t11 t12 o0 o1 o3 r) (fun t1 t8 t11 t12 o0 o1 o3 r => M_F_R10_Insert_t66 t1 t8 t11 t12 o0 o1 o3 r) (fun t1 t8 t11 t12 o0 o1 o3 r => M_F_R10_Insert_t75 t1 t8 t11 t12 o0 o1 o3 r) (fun F0 h0 => S_F_R10_Insert_l0 F0 h0) (fun F0 h0 => S_F_R10_Insert_t66 F0 h0) (fun F0 h0 => S_F_R10_Insert_t75 F0 h0)).1 t1 t8 t11 t12 o0 o1 o3 r h
/-- treemerge/treemergeref10.Insert -/
theorem H_F_R10_Insert_t66 (t1 : (List Int)) (t8 : Int) (t11 : (List Node)) (t12 : Int) (o0 : Node) (o1 : Node) (o3 : Node) (r : Node × Int) (h : F_R10_Insert_t66 t1 t8 t11 t12 o0 o1 o3 = some r) : M_F_R10_Insert_t66 t1 t8 t11 t12 o0 o1 o3 r :=
  (F_R10_Insert_l0.mutual_partial_correctness (fun t1 t8 t11 t12 o0 o1 o3 r => M_F_R10_Insert_l0 t1 t8 t11 t12 o0 o1 o3 r) (fun t1 t8 t11 t12 o0 o1 o3 r => M_F_R10_Insert_t66 t1 t8 t11 t12 o0 o1 o3 r) (fun t1 t8 t11 t12 o0 o1 o3 r => M_F_R10_Insert_t75 t1 t8 t11 t12 o0 o1 o3 r) (fun F0 h0 => S_F_R10_Insert_l0 F0 h0) (fun F0 h0 => S_F_R10_Insert_t66 F0 h0) (fun F0 h0 => S_F_R10_Insert_t75 F0 h0)).2.1 t1 t8 t11 t12 o0 o1 o3 r h
/-- treemerge/treemergeref10.Insert -/
theorem H_F_R10_Insert_t75 (t1 : (List Int)) (t8 : Int) (t11 : (List Node)) (t12 : Int) (o0 : Node) (o1 : Node) (o3 : Node) (r : Node × Int) (h : F_R10_Insert_t75 t1 t8 t11 t12 o0 o1 o3 = some r) : M_F_R10_Insert_t75 t1 t8 t11 t12 o0 o1 o3 r :=
  (F_R10_Insert_l0.mutual_partial_correctness (fun t1 t8 t11 t12 o0 o1 o3 r => M_F_R10_Insert_l0 t1 t8 t11 t12 o0 o1 o3 r) (fun t1 t8 t11 t12 o0 o1 o3 r => M_F_R10_Insert_t66 t1 t8 t11 t12 o0 o1 o3 r) (fun t1 t8 t11 t12 o0 o1 o3 r => M_F_R10_Insert_t75 t1 t8 t11 t12 o0 o1 o3 r) (fun F0 h0 => S_F_R10_Insert_l0 F0 h0) (fun F0 h0 => S_F_R10_Insert_t66 F0 h0) (fun F0 h0 => S_F_R10_Insert_t75 F0 h0)).2.2 t1 t8 t11 t12 o0 o1 o3 r h
def F_R10_Insert (a0 : Node) (a1 : (List Int)) (a2 : Node) : Option (Node × Int) :=
  if (decide ((IntKind.i64.wrap (((a1.map ic).length : Int) - (1 : Int))) < (0 : Int))) = true then
    some ((Node.mk 0 (⟨#[]⟩) ([] : (List ByteArray)) ([] : (List Node))), (5 : Int))
  else
    lsub a1 (0 : Int) (IntKind.i64.wrap (((a1.map ic).length : Int) - (1 : Int))) >>= fun x1 =>
    F_R10_Get a0 x1 >>= fun x2 =>
    if (!decide (x2.2 = (0 : Int))) = true then
      some ((Node.mk 0 (⟨#[]⟩) ([] : (List ByteArray)) ([] : (List Node))), (5 : Int))
    else
      ix a1 (IntKind.i64.wrap (((a1.map ic).length : Int) - (1 : Int))) >>= fun x3 =>
      if (decide (x3 < (0 : Int))) = true then
        some ((Node.mk 0 (⟨#[]⟩) ([] : (List ByteArray)) ([] : (List Node))), (5 : Int))
      else
        ix a1 (IntKind.i64.wrap (((a1.map ic).length : Int) - (1 : Int))) >>= fun x4 =>
        if (decide (((x2.1.kids.map Node.cells).length : Int) < x4)) = true then
          some ((Node.mk 0 (⟨#[]⟩) ([] : (List ByteArray)) ([] : (List Node))), (5 : Int))
        else
          F_R10_fits a0 a1 a2.kind >>= fun x5 =>
          if (!x5) = true then
            some ((Node.mk 0 (⟨#[]⟩) ([] : (List ByteArray)) ([] : (List Node))), (7 : Int))
          else
            F_R10_Insert_l0 a1 (IntKind.i64.wrap (((a1.map ic).length : Int) - (1 : Int))) ([] : List Node) (0 : Int) a0 a2 x2.1
@[reducible] def M_F_R10_Insert (a0 : Node) (a1 : (List Int)) (a2 : Node) (r : Node × Int) : Prop :=
  Fn Tryd.prog G 29 [(.agg (cellsN a0)), (.sl 1 false (a1.map ic)), (.agg (cellsN a2))] (.tup [(.agg (cellsN r.1)), (.int .i64 r.2)])
theorem E_F_R10_Insert (a0 : Node) (a1 : (List Int)) (a2 : Node) : F_R10_Insert a0 a1 a2 = (
    if (decide ((IntKind.i64.wrap (((a1.map ic).length : Int) - (1 : Int))) < (0 : Int))) = true then
      some ((Node.mk 0 (⟨#[]⟩) ([] : (List ByteArray)) ([] : (List Node))), (5 : Int))
    else
      lsub a1 (0 : Int) (IntKind.i64.wrap (((a1.map ic).length : Int) - (1 : Int))) >>= fun x1 =>
      F_R10_Get a0 x1 >>= fun x2 =>
      if (!decide (x2.2 = (0 : Int))) = true then
        some ((Node.mk 0 (⟨#[]⟩) ([] : (List ByteArray)) ([] : (List Node))), (5 : Int))
      else
        ix a1 (IntKind.i64.wrap (((a1.map ic).length : Int) - (1 : Int))) >>= fun x3 =>
        if (decide (x3 < (0 : Int))) = true then
          some ((Node.mk 0 (⟨#[]⟩) ([] : (List ByteArray)) ([] : (List Node))), (5 : Int))
        else
          ix a1 (IntKind.i64.wrap (((a1.map ic).length : Int) - (1 : Int))) >>= fun x4 =>
          if (decide (((x2.1.kids.map Node.cells).length : Int) < x4)) = true then
            some ((Node.mk 0 (⟨#[]⟩) ([] : (List ByteArray)) ([] : (List Node))), (5 : Int))
          else
            F_R10_fits a0 a1 a2.kind >>= fun x5 =>
            if (!x5) = true then
              some ((Node.mk 0 (⟨#[]⟩) ([] : (List ByteArray)) ([] : (List Node))), (7 : Int))
            else
              F_R10_Insert_l0 a1 (IntKind.i64.wrap (((a1.map ic).length : Int) - (1 : Int))) ([] : List Node) (0 : Int) a0 a2 x2.1
    : Option (Node × Int)) := F_R10_Insert.eq_def a0 a1 a2
set_option maxHeartbeats 4000000 in
theorem S_F_R10_Insert  (a0 : Node) (a1 : (List Int)) (a2 : Node) (r : Node × Int) (h : (
    if (decide ((IntKind.i64.wrap (((a1.map ic).length : Int) - (1 : Int))) < (0 : Int))) = true then
      some ((Node.mk 0 (⟨#[]⟩) ([] : (List ByteArray)) ([] : (List Node))), (5 : Int))
    else
      lsub a1 (0 : Int) (IntKind.i64.wrap (((a1.map ic).length : Int) - (1 : Int))) >>= fun x1 =>
      F_R10_Get a0 x1 >>= fun x2 =>
      if (!decide (x2.2 = (0 : Int))) = true then
        some ((Node.mk 0 (⟨#[]⟩) ([] : (List ByteArray)) ([] : (List Node))), (5 : Int))
      else
        ix a1 (IntKind.i64.wrap (((a1.map ic).length : Int) - (1 : Int))) >>= fun x3 =>
        if (decide (x3 < (0 : Int))) = true then
          some ((Node.mk 0 (⟨#[]⟩) ([] : (List ByteArray)) ([] : (List Node))), (5 : Int))
        else
          ix a1 (IntKind.i64.wrap (((a1.map ic).length : Int) - (1 : Int))) >>= fun x4 =>
          if (decide (((x2.1.kids.map Node.cells).length : Int) < x4)) = true then
            some ((Node.mk 0 (⟨#[]⟩) ([] : (List ByteArray)) ([] : (List Node))), (5 : Int))
          else
            F_R10_fits a0 a1 a2.kind >>= fun x5 =>
            if (!x5) = true then
              some ((Node.mk 0 (⟨#[]⟩) ([] : (List ByteArray)) ([] : (List Node))), (7 : Int))
            else
              F_R10_Insert_l0 a1 (IntKind.i64.wrap (((a1.map ic).length : Int) - (1 : Int))) ([] : List Node) (0 : Int) a0 a2 x2.1
    : Option (Node × Int)) = some r) : M_F_R10_Insert a0 a1 a2 r := by
  refine Fn_run (T := tt) (N := 95) (rs := [.cell 6 25, .tmp 7]) (fun vs w => by simp) Tryd.func29 rfl rfl rfl rfl (by kernel_rfl) (all_pure3 rfl) (closed3_pure _ rfl) ?_
  refine Ok_runB env [66, 75, 1000000] rfl ?_
  refine Ok_cond (fun hb => ?_) (fun hb => ?_)
  · replace h := ite_t hb h
    refine Ok_runB env [66, 75, 1000000] rfl ?_
    cases h
    exact Ok_fin env rfl rfl (told_view (viewT_tup (viewLs_cons (view_agg (viewL_cons (view1_int rfl) (viewL_cons (view1_str rfl) (viewL_cons (view1_sl (.inr rfl)) (viewL_cons (view1_sl (.inr rfl)) viewL_nil))))) (viewLs_cons (view_one (view1_int rfl) (by simp)) viewLs_nil))))
  · replace h := ite_f hb h
    refine Ok_runB env [66, 75, 1000000] rfl ?_
    obtain ⟨x1, hx, h⟩ := bind_some h
    refine Ok_lsubT env hx rfl rfl rfl rfl rfl ?_
    refine Ok_runB env [66, 75, 1000000] rfl ?_
    obtain ⟨x2, hx, h⟩ := bind_some h
    refine Ok_call (H_F_R10_Get _ _ _ hx) ?_
    refine Ok_runB env [66, 75, 1000000] rfl ?_
    refine Ok_guard_f (fun hb => ?_) (fun hb => ?_)
    · replace h := ite_f hb h
      refine Ok_runB env [66, 75, 1000000] rfl ?_
      obtain ⟨x3, hx, h⟩ := bind_some h
      refine Ok_ixT env hx rfl rfl rfl rfl rfl ?_
      refine Ok_runB env [66, 75, 1000000] rfl ?_
      refine Ok_guard_f (fun hb => ?_) (fun hb => ?_)
      · replace h := ite_f hb h
        refine Ok_runB env [66, 75, 1000000] rfl ?_
        obtain ⟨x4, hx, h⟩ := bind_some h
        refine Ok_ixT env hx rfl rfl rfl rfl rfl ?_
        refine Ok_runB env [66, 75, 1000000] rfl ?_
        refine Ok_cond (fun hb => ?_) (fun hb => ?_)
        · replace h := ite_t hb h
          refine Ok_runB env [66, 75, 1000000] rfl ?_
          cases h
          exact Ok_fin env rfl rfl (told_view (viewT_tup (viewLs_cons (view_agg (viewL_cons (view1_int rfl) (viewL_cons (view1_str rfl) (viewL_cons (view1_sl (.inr rfl)) (viewL_cons (view1_sl (.inr rfl)) viewL_nil))))) (viewLs_cons (view_one (view1_int rfl) (by simp)) viewLs_nil))))
        · replace h := ite_f hb h
          refine Ok_runB env [66, 75, 1000000] rfl ?_
          obtain ⟨x5, hx, h⟩ := bind_some h
          refine Ok_call (H_F_R10_fits _ _ _ _ hx) ?_
          refine Ok_runB env [66, 75, 1000000] rfl ?_
          refine Ok_cond (fun hb => ?_) (fun hb => ?_)
          · replace h := ite_t hb h
            refine Ok_runB env [66, 75, 1000000] rfl ?_
            cases h
            exact Ok_fin env rfl rfl (told_view (viewT_tup (viewLs_cons (view_agg (viewL_cons (view1_int rfl) (viewL_cons (view1_str rfl) (viewL_cons (view1_sl (.inr rfl)) (viewL_cons (view1_sl (.inr rfl)) viewL_nil))))) (viewLs_cons (view_one (view1_int rfl) (by simp)) viewLs_nil))))
          · replace h := ite_f hb h
            refine Ok_runB env [66, 75, 1000000] rfl ?_
            refine Ok_own 11 _ 4 25 rfl rfl ?_
            exact Ok_loop_to (by kernel_rfl) (less_at (by simp [leFT, leV, leOs, leO, leC, rho, AV.ren, AV.ren1, AV.ren0, AV.un, AV.un1, AV.un0, AV.closed, wkS] <;> (repeat' apply And.intro) <;> first | rfl | exact fun x a _ h => (Node_ok.all a x h).2) (by simp [leFT, leV, leOs, leO, leC, rho, AV.ren, AV.ren1, AV.ren0, AV.un, AV.un1, AV.un0, AV.closed, wkS] <;> (repeat' apply And.intro) <;> first | rfl | exact fun x a _ h => (Node_ok.all a x h).2)) (H_F_R10_Insert_l0 _ _ _ _ _ _ _ _ h)
      · replace h := ite_t hb h
        refine Ok_runB env [66, 75, 1000000] rfl ?_
        cases h
        exact Ok_fin env rfl rfl (told_view (viewT_tup (viewLs_cons (view_agg (viewL_cons (view1_int rfl) (viewL_cons (view1_str rfl) (viewL_cons (view1_sl (.inr rfl)) (viewL_cons (view1_sl (.inr rfl)) viewL_nil))))) (viewLs_cons (view_one (view1_int rfl) (by simp)) viewLs_nil))))
    · replace h := ite_t hb h
      refine Ok_runB env [66, 75, 1000000] rfl ?_
      cases h
      exact Ok_fin env rfl rfl (told_view (viewT_tup (viewLs_cons (view_agg (viewL_cons (view1_int rfl) (viewL_cons (view1_str rfl) (viewL_cons (view1_sl (.inr rfl)) (viewL_cons (view1_sl (.inr rfl)) viewL_nil))))) (viewLs_cons (view_one (view1_int rfl) (by simp)) viewLs_nil))))
/-- treemerge/treemergeref10.Insert -/
theorem H_F_R10_Insert (a0 : Node) (a1 : (List Int)) (a2 : Node) (r : Node × Int) (h : F_R10_Insert a0 a1 a2 = some r) : M_F_R10_Insert a0 a1 a2 r :=
  S_F_R10_Insert a0 a1 a2 r (by rw [E_F_R10_Insert] at h; exact h)
end Go.Proofs.YtimdjillcaichaaDoorW.Ex.Gr
