/- The program's functions, printed as functions on numbers, strings, lists and trees, with the proofs that they are what the code computes. Conditions: those in each theorem. -/
import Derived.Test.YtimdjillcaichaaDoorQ0
namespace Go.Proofs.YtimdjillcaichaaDoorW.Ex.Gr
open Go Go.Proofs.YtimdjillcaichaaDoorW.Ex
set_option linter.all false
set_option maxRecDepth 100000
mutual
def F_R6_left (a0 : Node) (a1 : Int) (a2 : Int) : Option (Int) :=
  if (decide (a1 < (1 : Int))) = true then
    some (-1 : Int)
  else
    if (decide (a2 < (1 : Int))) = true then
      some (-1 : Int)
    else
      if (decide (a1 < ((a0.kids.map Node.cells).length : Int))) = true then
        some (-1 : Int)
      else
        F_R6_left_l0 (nofix a2) (IntKind.i64.wrap (a1 - (1 : Int))) (0 : Int) (nofix a0)
  partial_fixpoint
def F_R6_left_l0 (t2 : Int) (t7 : Int) (t8 : Int) (o0 : Node) : Option (Int) :=
  if (decide (t8 < ((o0.kids.map Node.cells).length : Int))) = true then
    ix o0.kids t8 >>= fun x1 =>
    F_R6_left (nofix x1) (nofix t7) (IntKind.i64.wrap (t2 - (1 : Int))) >>= fun x2 =>
    if (decide (x2 < (0 : Int))) = true then
      some (-1 : Int)
    else
      F_R6_left_l0 (nofix t2) (nofix x2) (IntKind.i64.wrap (t8 + (1 : Int))) (nofix o0)
  else
    some t7
  partial_fixpoint
end
@[reducible] def M_F_R6_left (a0 : Node) (a1 : Int) (a2 : Int) (r : Int) : Prop :=
  Fn Tryd.prog G 78 [(.agg (cellsN a0)), (.int .i64 a1), (.int .i64 a2)] (.int .i64 r)
@[reducible] def M_F_R6_left_l0 (t2 : Int) (t7 : Int) (t8 : Int) (o0 : Node) (r : Int) : Prop :=
  Ok Tryd.prog G tt 43 0 (Ret Tryd.prog [.tmp 6] (fun y H => Told Tryd.prog G H y (.int .i64 r))) (.again (loopOf [] Tryd.f78 0).1 (loopOf [] Tryd.f78 0).2 (.n .undef (.n .undef (.n (.ptr 0 0 0) (.n (.int .i64 t7) .z .z) .z) .z) (.n (.int .i64 t2) (.n .undef (.n (.int .i64 t8) .z .z) .z) .z)) 1 [(0, .var 25 (cellsN o0))])
theorem E_F_R6_left (a0 : Node) (a1 : Int) (a2 : Int) : F_R6_left a0 a1 a2 = (
    if (decide (a1 < (1 : Int))) = true then
      some (-1 : Int)
    else
      if (decide (a2 < (1 : Int))) = true then
        some (-1 : Int)
      else
        if (decide (a1 < ((a0.kids.map Node.cells).length : Int))) = true then
          some (-1 : Int)
        else
          F_R6_left_l0 a2 (IntKind.i64.wrap (a1 - (1 : Int))) (0 : Int) a0
    : Option (Int)) := F_R6_left.eq_def a0 a1 a2
theorem E_F_R6_left_l0 (t2 : Int) (t7 : Int) (t8 : Int) (o0 : Node) : F_R6_left_l0 t2 t7 t8 o0 = (
    if (decide (t8 < ((o0.kids.map Node.cells).length : Int))) = true then
      ix o0.kids t8 >>= fun x1 =>
      F_R6_left x1 t7 (IntKind.i64.wrap (t2 - (1 : Int))) >>= fun x2 =>
      if (decide (x2 < (0 : Int))) = true then
        some (-1 : Int)
      else
        F_R6_left_l0 t2 x2 (IntKind.i64.wrap (t8 + (1 : Int))) o0
    else
      some t7
    : Option (Int)) := F_R6_left_l0.eq_def t2 t7 t8 o0
set_option maxHeartbeats 4000000 in
theorem S_F_R6_left (F_R6_left_l0 : Int → Int → Int → Node → Option (Int)) (H_F_R6_left_l0 : ∀ (t2 : Int) (t7 : Int) (t8 : Int) (o0 : Node) (r : Int), F_R6_left_l0 t2 t7 t8 o0 = some r → M_F_R6_left_l0 t2 t7 t8 o0 r) (a0 : Node) (a1 : Int) (a2 : Int) (r : Int) (h : (
    if (decide (a1 < (1 : Int))) = true then
      some (-1 : Int)
    else
      if (decide (a2 < (1 : Int))) = true then
        some (-1 : Int)
      else
        if (decide (a1 < ((a0.kids.map Node.cells).length : Int))) = true then
          some (-1 : Int)
        else
          F_R6_left_l0 a2 (IntKind.i64.wrap (a1 - (1 : Int))) (0 : Int) a0
    : Option (Int)) = some r) : M_F_R6_left a0 a1 a2 r := by
  refine Fn_run (T := tt) (N := 43) (rs := [.tmp 6]) (fun vs w => by simp) Tryd.func78 rfl rfl rfl rfl (by kernel_rfl) (all_pure3 rfl) (closed3_pure _ rfl) ?_
  refine Ok_runB env [] rfl ?_
  refine Ok_guard_f (fun hb => ?_) (fun hb => ?_)
  · replace h := ite_f hb h
    refine Ok_runB env [] rfl ?_
    refine Ok_guard_f (fun hb => ?_) (fun hb => ?_)
    · replace h := ite_f hb h
      refine Ok_runB env [] rfl ?_
      refine Ok_cond (fun hb => ?_) (fun hb => ?_)
      · replace h := ite_t hb h
        refine Ok_runB env [] rfl ?_
        cases h
        exact Ok_fin env rfl rfl (told_eq rfl)
      · replace h := ite_f hb h
        refine Ok_runB env [] rfl ?_
        exact Ok_loop_to (by kernel_rfl) (less_at (by simp [leFT, leV, leOs, leO, leC, rho, AV.ren, AV.ren1, AV.ren0, AV.un, AV.un1, AV.un0, AV.closed, wkS] <;> (repeat' apply And.intro) <;> first | rfl) (by simp [leFT, leV, leOs, leO, leC, rho, AV.ren, AV.ren1, AV.ren0, AV.un, AV.un1, AV.un0, AV.closed, wkS] <;> (repeat' apply And.intro) <;> first | rfl)) (H_F_R6_left_l0 _ _ _ _ _ h)
    · replace h := ite_t hb h
      refine Ok_runB env [] rfl ?_
      cases h
      exact Ok_fin env rfl rfl (told_eq rfl)
  · replace h := ite_t hb h
    refine Ok_runB env [] rfl ?_
    cases h
    exact Ok_fin env rfl rfl (told_eq rfl)
set_option maxHeartbeats 4000000 in
theorem S_F_R6_left_l0 (F_R6_left : Node → Int → Int → Option (Int)) (F_R6_left_l0 : Int → Int → Int → Node → Option (Int)) (H_F_R6_left : ∀ (a0 : Node) (a1 : Int) (a2 : Int) (r : Int), F_R6_left a0 a1 a2 = some r → M_F_R6_left a0 a1 a2 r) (H_F_R6_left_l0 : ∀ (t2 : Int) (t7 : Int) (t8 : Int) (o0 : Node) (r : Int), F_R6_left_l0 t2 t7 t8 o0 = some r → M_F_R6_left_l0 t2 t7 t8 o0 r) (t2 : Int) (t7 : Int) (t8 : Int) (o0 : Node) (r : Int) (h : (
    if (decide (t8 < ((o0.kids.map Node.cells).length : Int))) = true then
      ix o0.kids t8 >>= fun x1 =>
      F_R6_left x1 t7 (IntKind.i64.wrap (t2 - (1 : Int))) >>= fun x2 =>
      if (decide (x2 < (0 : Int))) = true then
        some (-1 : Int)
      else
        F_R6_left_l0 t2 x2 (IntKind.i64.wrap (t8 + (1 : Int))) o0
    else
      some t7
    : Option (Int)) = some r) : M_F_R6_left_l0 t2 t7 t8 o0 r := by
  refine Ok_unroll ?_
  refine Ok_runB env [] rfl ?_
  refine Ok_cond (fun hb => ?_) (fun hb => ?_)
  · replace h := ite_t hb h
    refine Ok_runB env [] rfl ?_
    obtain ⟨x1, hx, h⟩ := bind_some h
    refine Ok_ixT env hx rfl rfl rfl rfl (Node.cells_eq x1) ?_
    refine Ok_runB env [] rfl ?_
    obtain ⟨x2, hx, h⟩ := bind_some h
    refine Ok_call (H_F_R6_left _ _ _ _ hx) ?_
    refine Ok_runB env [] rfl ?_
    refine Ok_cond (fun hb => ?_) (fun hb => ?_)
    · replace h := ite_t hb h
      refine Ok_runB env [] rfl ?_
      cases h
      exact Ok_fin env rfl rfl (told_eq rfl)
    · replace h := ite_f hb h
      refine Ok_runB env [] rfl ?_
      exact Ok_again_to (by kernel_rfl) (less_at (by simp [leFT, leV, leOs, leO, leC, rho, AV.ren, AV.ren1, AV.ren0, AV.un, AV.un1, AV.un0, AV.closed, wkS] <;> (repeat' apply And.intro) <;> first | rfl) (by simp [leFT, leV, leOs, leO, leC, rho, AV.ren, AV.ren1, AV.ren0, AV.un, AV.un1, AV.un0, AV.closed, wkS] <;> (repeat' apply And.intro) <;> first | rfl)) (H_F_R6_left_l0 _ _ _ _ _ h)
  · replace h := ite_f hb h
    refine Ok_runB env [] rfl ?_
    cases h
    exact Ok_fin env rfl rfl (told_eq rfl)
/-- treemerge/treemergeref06.left -/
theorem H_F_R6_left (a0 : Node) (a1 : Int) (a2 : Int) (r : Int) (h : F_R6_left a0 a1 a2 = some r) : M_F_R6_left a0 a1 a2 r :=
  (F_R6_left.mutual_partial_correctness (fun a0 a1 a2 r => M_F_R6_left a0 a1 a2 r) (fun t2 t7 t8 o0 r => M_F_R6_left_l0 t2 t7 t8 o0 r) (fun F0 h0 => S_F_R6_left F0 h0) (fun F0 F1 h0 h1 => S_F_R6_left_l0 F0 F1 h0 h1)).1 a0 a1 a2 r h
/-- treemerge/treemergeref06.left -/
theorem H_F_R6_left_l0 (t2 : Int) (t7 : Int) (t8 : Int) (o0 : Node) (r : Int) (h : F_R6_left_l0 t2 t7 t8 o0 = some r) : M_F_R6_left_l0 t2 t7 t8 o0 r :=
  (F_R6_left.mutual_partial_correctness (fun a0 a1 a2 r => M_F_R6_left a0 a1 a2 r) (fun t2 t7 t8 o0 r => M_F_R6_left_l0 t2 t7 t8 o0 r) (fun F0 h0 => S_F_R6_left F0 h0) (fun F0 F1 h0 h1 => S_F_R6_left_l0 F0 F1 h0 h1)).2 t2 t7 t8 o0 r h
def F_R6_Fits (a0 : Node) (a1 : Int) (a2 : Int) : Option (Bool) :=
  F_R6_left a0 a1 a2 >>= fun x1 =>
  some (decide ((0 : Int) ≤ x1))
@[reducible] def M_F_R6_Fits (a0 : Node) (a1 : Int) (a2 : Int) (r : Bool) : Prop :=
  Fn Tryd.prog G 49 [(.agg (cellsN a0)), (.int .i64 a1), (.int .i64 a2)] (.bool r)
theorem E_F_R6_Fits (a0 : Node) (a1 : Int) (a2 : Int) : F_R6_Fits a0 a1 a2 = (
    F_R6_left a0 a1 a2 >>= fun x1 =>
    some (decide ((0 : Int) ≤ x1))
    : Option (Bool)) := F_R6_Fits.eq_def a0 a1 a2
set_option maxHeartbeats 4000000 in
theorem S_F_R6_Fits  (a0 : Node) (a1 : Int) (a2 : Int) (r : Bool) (h : (
    F_R6_left a0 a1 a2 >>= fun x1 =>
    some (decide ((0 : Int) ≤ x1))
    : Option (Bool)) = some r) : M_F_R6_Fits a0 a1 a2 r := by
  refine Fn_run (T := tt) (N := 12) (rs := [.tmp 6]) (fun vs w => by simp) Tryd.func49 rfl rfl rfl rfl (by kernel_rfl) (all_pure3 rfl) (closed3_pure _ rfl) ?_
  refine Ok_runB env [] rfl ?_
  obtain ⟨x1, hx, h⟩ := bind_some h
  refine Ok_call (H_F_R6_left _ _ _ _ hx) ?_
  refine Ok_runB env [] rfl ?_
  cases h
  exact Ok_fin env rfl rfl (told_eq rfl)
/-- treemerge/treemergeref06.Fits -/
theorem H_F_R6_Fits (a0 : Node) (a1 : Int) (a2 : Int) (r : Bool) (h : F_R6_Fits a0 a1 a2 = some r) : M_F_R6_Fits a0 a1 a2 r :=
  S_F_R6_Fits a0 a1 a2 r (by rw [E_F_R6_Fits] at h; exact h)
def F_L10_small (a0 : Node) : Option (Bool) :=
  F_R6_Fits a0 (300 : Int) (60 : Int) >>= fun x1 =>
  some x1
@[reducible] def M_F_L10_small (a0 : Node) (r : Bool) : Prop :=
  Fn Tryd.prog G 16 [(.agg (cellsN a0))] (.bool r)
theorem E_F_L10_small (a0 : Node) : F_L10_small a0 = (
    F_R6_Fits a0 (300 : Int) (60 : Int) >>= fun x1 =>
    some x1
    : Option (Bool)) := F_L10_small.eq_def a0
set_option maxHeartbeats 4000000 in
theorem S_F_L10_small  (a0 : Node) (r : Bool) (h : (
    F_R6_Fits a0 (300 : Int) (60 : Int) >>= fun x1 =>
    some x1
    : Option (Bool)) = some r) : M_F_L10_small a0 r := by
  refine Fn_run (T := tt) (N := 5) (rs := [.tmp 2]) (fun vs w => by simp) Tryd.func16 rfl rfl rfl rfl (by kernel_rfl) (all_pure3 rfl) (closed3_pure _ rfl) ?_
  refine Ok_runB env [] rfl ?_
  obtain ⟨x1, hx, h⟩ := bind_some h
  refine Ok_call (H_F_R6_Fits _ _ _ _ hx) ?_
  refine Ok_runB env [] rfl ?_
  cases h
  exact Ok_fin env rfl rfl (told_eq rfl)
/-- treemerge/treemergelaw10.small -/
theorem H_F_L10_small (a0 : Node) (r : Bool) (h : F_L10_small a0 = some r) : M_F_L10_small a0 r :=
  S_F_L10_small a0 r (by rw [E_F_L10_small] at h; exact h)
mutual
def F_tree_Size (a0 : Node) : Option (Int) :=
  F_tree_Size_l0 a0.kids (1 : Int)
  partial_fixpoint
def F_tree_Size_l0 (rest0 : (List Node)) (t3 : Int) : Option (Int) :=
  match rest0 with
  | [] =>
    some t3
  | x_0 :: rest0 =>
    F_tree_Size (nofix x_0) >>= fun x1 =>
    F_tree_Size_l0 (nofix rest0) (IntKind.i64.wrap (t3 + x1))
  partial_fixpoint
end
@[reducible] def M_F_tree_Size (a0 : Node) (r : Int) : Prop :=
  Fn Tryd.prog G 52 [(.agg (cellsN a0))] (.int .i64 r)
@[reducible] def M_F_tree_Size_l0 (rest0 : (List Node)) (t3 : Int) (r : Int) : Prop :=
  ∀ (l0 : List Node) (j0 : Nat), l0.drop j0 = rest0 → j0 ≤ l0.length → l0.length ≤ 9223372036854775807 → Ok Tryd.prog G tt 19 0 (Ret Tryd.prog [.tmp 2] (fun y H => Told Tryd.prog G H y (.int .i64 r))) (.again (loopOf [] Tryd.f52 0).1 (loopOf [] Tryd.f52 0).2 (.n .undef (.n .undef (.n (.int .i64 t3) (.n (.sl 4 false (l0.map Node.cells)) .z .z) .z) (.n .undef (.n (.int .i64 ((j0 : Nat) : Int)) .z .z) .z)) (.n .undef (.n .undef (.n (.int .i64 ((l0.map Node.cells).length : Int)) .z .z) .z) .z)) 1 [])
theorem E_F_tree_Size (a0 : Node) : F_tree_Size a0 = (
    F_tree_Size_l0 a0.kids (1 : Int)
    : Option (Int)) := F_tree_Size.eq_def a0
theorem E_F_tree_Size_l0 (rest0 : (List Node)) (t3 : Int) : F_tree_Size_l0 rest0 t3 = (
    match rest0 with
    | [] =>
      some t3
    | x_0 :: rest0 =>
      F_tree_Size x_0 >>= fun x1 =>
      F_tree_Size_l0 rest0 (IntKind.i64.wrap (t3 + x1))
    : Option (Int)) := F_tree_Size_l0.eq_def rest0 t3
set_option maxHeartbeats 4000000 in
theorem S_F_tree_Size (F_tree_Size_l0 : (List Node) → Int → Option (Int)) (H_F_tree_Size_l0 : ∀ (rest0 : (List Node)) (t3 : Int) (r : Int), F_tree_Size_l0 rest0 t3 = some r → M_F_tree_Size_l0 rest0 t3 r) (a0 : Node) (r : Int) (h : (
    F_tree_Size_l0 a0.kids (1 : Int)
    : Option (Int)) = some r) : M_F_tree_Size a0 r := by
  refine Fn_run (T := tt) (N := 19) (rs := [.tmp 2]) (fun vs w => by simp) Tryd.func52 rfl rfl rfl rfl (by kernel_rfl) (all_pure3 rfl) (closed3_pure _ rfl) ?_
  refine Ok_runB env [] rfl ?_
  refine Ok_lenG 7 rfl (fun hm => ?_)
  exact Ok_loop_to (by kernel_rfl) (less_at (by simp [leFT, leV, leOs, leO, leC, rho, AV.ren, AV.ren1, AV.ren0, AV.un, AV.un1, AV.un0, AV.closed, wkS] <;> (repeat' apply And.intro) <;> first | rfl) (by simp [leFT, leV, leOs, leO, leC, rho, AV.ren, AV.ren1, AV.ren0, AV.un, AV.un1, AV.un0, AV.closed, wkS] <;> (repeat' apply And.intro) <;> first | rfl)) (H_F_tree_Size_l0 _ _ _ h a0.kids 0 rfl (Nat.zero_le _) (len_map_le hm))
set_option maxHeartbeats 4000000 in
theorem S_F_tree_Size_l0 (F_tree_Size : Node → Option (Int)) (F_tree_Size_l0 : (List Node) → Int → Option (Int)) (H_F_tree_Size : ∀ (a0 : Node) (r : Int), F_tree_Size a0 = some r → M_F_tree_Size a0 r) (H_F_tree_Size_l0 : ∀ (rest0 : (List Node)) (t3 : Int) (r : Int), F_tree_Size_l0 rest0 t3 = some r → M_F_tree_Size_l0 rest0 t3 r) (rest0 : (List Node)) (t3 : Int) (r : Int) (h : (
    match rest0 with
    | [] =>
      some t3
    | x_0 :: rest0 =>
      F_tree_Size x_0 >>= fun x1 =>
      F_tree_Size_l0 rest0 (IntKind.i64.wrap (t3 + x1))
    : Option (Int)) = some r) : M_F_tree_Size_l0 rest0 t3 r := by
  intro l0 j0 hl0 hj0 hm0
  refine Ok_unroll ?_
  cases rest0 with
  | nil =>
    have hb := range_nil (C := Node.cells) hl0 hj0
    refine Ok_runB env [] rfl ?_
    refine Ok_cond_f hb ?_
    refine Ok_runB env [] rfl ?_
    cases h
    exact Ok_fin env rfl rfl (told_eq rfl)
  | cons x_0 rest0 =>
    obtain ⟨hb, hx0, hd0, hk0, hw0⟩ := range_cons (C := Node.cells) hl0 hm0
    refine Ok_runB env [] rfl ?_
    refine Ok_cond_t hb ?_
    refine Ok_runB env [] rfl ?_
    refine Ok_ix env rfl rfl rfl rfl (m := j0) rfl (range_at hx0 (Node.cells_eq x_0)) ?_
    refine Ok_runB env [] rfl ?_
    obtain ⟨x1, hx, h⟩ := bind_some h
    refine Ok_call (H_F_tree_Size _ _ hx) ?_
    refine Ok_runB env [] rfl ?_
    exact Ok_again_to (by kernel_rfl) (less_at (by simp only [hw0]; simp [leFT, leV, leOs, leO, leC, rho, AV.ren, AV.ren1, AV.ren0, AV.un, AV.un1, AV.un0, AV.closed, wkS] <;> (repeat' apply And.intro) <;> first | rfl) (by simp [leFT, leV, leOs, leO, leC, rho, AV.ren, AV.ren1, AV.ren0, AV.un, AV.un1, AV.un0, AV.closed, wkS] <;> (repeat' apply And.intro) <;> first | rfl)) (H_F_tree_Size_l0 _ _ _ h l0 (j0 + 1) hd0 hk0 hm0)
/-- treemerge/tree.Size -/
theorem H_F_tree_Size (a0 : Node) (r : Int) (h : F_tree_Size a0 = some r) : M_F_tree_Size a0 r :=
  (F_tree_Size.mutual_partial_correctness (fun a0 r => M_F_tree_Size a0 r) (fun rest0 t3 r => M_F_tree_Size_l0 rest0 t3 r) (fun F0 h0 => S_F_tree_Size F0 h0) (fun F0 F1 h0 h1 => S_F_tree_Size_l0 F0 F1 h0 h1)).1 a0 r h
/-- treemerge/tree.Size -/
theorem H_F_tree_Size_l0 (rest0 : (List Node)) (t3 : Int) (r : Int) (h : F_tree_Size_l0 rest0 t3 = some r) : M_F_tree_Size_l0 rest0 t3 r :=
  (F_tree_Size.mutual_partial_correctness (fun a0 r => M_F_tree_Size a0 r) (fun rest0 t3 r => M_F_tree_Size_l0 rest0 t3 r) (fun F0 h0 => S_F_tree_Size F0 h0) (fun F0 F1 h0 h1 => S_F_tree_Size_l0 F0 F1 h0 h1)).2 rest0 t3 r h
mutual
def F_path_Of_l0 (t1 : Int) (t6 : (List Int)) (o0 : Node) : Option ((List Int) × Bool) :=
  if (decide ((0 : Int) < t1)) = true then
    F_path_Of_l1 (IntKind.i64.wrap (t1 - (1 : Int))) (nofix t6) (0 : Int) (nofix o0)
  else
    some (t6, true)
  partial_fixpoint
def F_path_Of_l1 (t1 : Int) (t6 : (List Int)) (t7 : Int) (o0 : Node) : Option ((List Int) × Bool) :=
  if (decide (t7 < ((o0.kids.map Node.cells).length : Int))) = true then
    ix o0.kids t7 >>= fun x1 =>
    F_tree_Size (nofix x1) >>= fun x2 =>
    if (decide (t1 < x2)) = true then
      F_path_Of_b2 (nofix t1) (nofix t6) (nofix t7) (nofix o0)
    else
      F_path_Of_l1 (IntKind.i64.wrap (t1 - x2)) (nofix t6) (IntKind.i64.wrap (t7 + (1 : Int))) (nofix o0)
  else
    F_path_Of_b2 (nofix t1) (nofix t6) (nofix t7) (nofix o0)
  partial_fixpoint
def F_path_Of_b2 (t1 : Int) (t6 : (List Int)) (t7 : Int) (o0 : Node) : Option ((List Int) × Bool) :=
  if (decide (t7 = ((o0.kids.map Node.cells).length : Int))) = true then
    some (([] : (List Int)), false)
  else
    app 8 t6 ([t7]) >>= fun x3 =>
    ix o0.kids t7 >>= fun x4 =>
    F_path_Of_l0 (nofix t1) (nofix x3) (nofix x4)
  partial_fixpoint
end
@[reducible] def M_F_path_Of_l0 (t1 : Int) (t6 : (List Int)) (o0 : Node) (r : (List Int) × Bool) : Prop :=
  Ok Tryd.prog G tt 49 0 (Ret Tryd.prog [.tmp 4, .tmp 5] (fun y H => Told Tryd.prog G H y (.tup [(.sl 1 false (r.1.map ic)), (.bool r.2)]))) (.again (loopOf [1000002] Tryd.f18 0).1 (loopOf [1000002] Tryd.f18 0).2 (.n .undef (.n (.int .i64 t1) .z .z) (.n (.ptr 0 0 0) .z (.n (.bs 1 1 1 0 t6.length) .z .z))) 2 [(0, .var 25 (cellsN o0)), (1, .row 3 (t6.map ic).flatten)])
@[reducible] def M_F_path_Of_l1 (t1 : Int) (t6 : (List Int)) (t7 : Int) (o0 : Node) (r : (List Int) × Bool) : Prop :=
  Ok Tryd.prog G tt 49 0 (Ret Tryd.prog [.tmp 4, .tmp 5] (fun y H => Told Tryd.prog G H y (.tup [(.sl 1 false (r.1.map ic)), (.bool r.2)]))) (.again (loopOf [1000002] Tryd.f18 1).1 (loopOf [1000002] Tryd.f18 1).2 (.n .undef (.n (.int .i64 t1) (.n .undef (.n (.int .i64 t7) .z .z) .z) .z) (.n (.ptr 0 0 0) .z (.n (.bs 1 1 1 0 t6.length) .z .z))) 2 [(0, .var 25 (cellsN o0)), (1, .row 3 (t6.map ic).flatten)])
@[reducible] def M_F_path_Of_b2 (t1 : Int) (t6 : (List Int)) (t7 : Int) (o0 : Node) (r : (List Int) × Bool) : Prop :=
  Ok Tryd.prog G tt 49 0 (Ret Tryd.prog [.tmp 4, .tmp 5] (fun y H => Told Tryd.prog G H y (.tup [(.sl 1 false (r.1.map ic)), (.bool r.2)]))) (.go [] (blockOf [1000002] Tryd.f18 2) [] (.n .undef (.n (.int .i64 t1) (.n .undef (.n (.int .i64 t7) .z .z) .z) .z) (.n (.ptr 0 0 0) .z (.n (.bs 1 1 1 0 t6.length) .z .z))) 2 [(0, .var 25 (cellsN o0)), (1, .row 3 (t6.map ic).flatten)])
theorem E_F_path_Of_l0 (t1 : Int) (t6 : (List Int)) (o0 : Node) : F_path_Of_l0 t1 t6 o0 = (
    if (decide ((0 : Int) < t1)) = true then
      F_path_Of_l1 (IntKind.i64.wrap (t1 - (1 : Int))) t6 (0 : Int) o0
    else
      some (t6, true)
    : Option ((List Int) × Bool)) := F_path_Of_l0.eq_def t1 t6 o0
theorem E_F_path_Of_l1 (t1 : Int) (t6 : (List Int)) (t7 : Int) (o0 : Node) : F_path_Of_l1 t1 t6 t7 o0 = (
    if (decide (t7 < ((o0.kids.map Node.cells).length : Int))) = true then
      ix o0.kids t7 >>= fun x1 =>
      F_tree_Size x1 >>= fun x2 =>
      if (decide (t1 < x2)) = true then
        F_path_Of_b2 t1 t6 t7 o0
      else
        F_path_Of_l1 (IntKind.i64.wrap (t1 - x2)) t6 (IntKind.i64.wrap (t7 + (1 : Int))) o0
    else
      F_path_Of_b2 t1 t6 t7 o0
    : Option ((List Int) × Bool)) := F_path_Of_l1.eq_def t1 t6 t7 o0
theorem E_F_path_Of_b2 (t1 : Int) (t6 : (List Int)) (t7 : Int) (o0 : Node) : F_path_Of_b2 t1 t6 t7 o0 = (
    if (decide (t7 = ((o0.kids.map Node.cells).length : Int))) = true then
      some (([] : (List Int)), false)
    else
      app 8 t6 ([t7]) >>= fun x3 =>
      ix o0.kids t7 >>= fun x4 =>
      F_path_Of_l0 t1 x3 x4
    : Option ((List Int) × Bool)) := F_path_Of_b2.eq_def t1 t6 t7 o0
set_option maxHeartbeats 4000000 in
theorem S_F_path_Of_l0 (F_path_Of_l1 : Int → (List Int) → Int → Node → Option ((List Int) × Bool)) (H_F_path_Of_l1 : ∀ (t1 : Int) (t6 : (List Int)) (t7 : Int) (o0 : Node) (r : (List Int) × Bool), F_path_Of_l1 t1 t6 t7 o0 = some r → M_F_path_Of_l1 t1 t6 t7 o0 r) (t1 : Int) (t6 : (List Int)) (o0 : Node) (r : (List Int) × Bool) (h : (
    if (decide ((0 : Int) < t1)) = true then
      F_path_Of_l1 (IntKind.i64.wrap (t1 - (1 : Int))) t6 (0 : Int) o0
    else
      some (t6, true)
    : Option ((List Int) × Bool)) = some r) : M_F_path_Of_l0 t1 t6 o0 r := by
  refine Ok_unroll ?_
  refine Ok_runB env [1000002] rfl ?_
  refine Ok_cond (fun hb => ?_) (fun hb => ?_)
  · replace h := ite_t hb h
    refine Ok_runB env [1000002] rfl ?_
    exact Ok_loop_to (by kernel_rfl) (less_at (by simp [leFT, leV, leOs, leO, leC, rho, AV.ren, AV.ren1, AV.ren0, AV.un, AV.un1, AV.un0, AV.closed, wkS] <;> (repeat' apply And.intro) <;> first | rfl | exact fun x a _ h => (ic_ok.all a x h).2) (by simp [leFT, leV, leOs, leO, leC, rho, AV.ren, AV.ren1, AV.ren0, AV.un, AV.un1, AV.un0, AV.closed, wkS] <;> (repeat' apply And.intro) <;> first | rfl | exact fun x a _ h => (ic_ok.all a x h).2)) (H_F_path_Of_l1 _ _ _ _ _ h)
  · replace h := ite_f hb h
    refine Ok_runB env [1000002] rfl ?_
    cases h
    exact Ok_fin env rfl rfl (told_view (viewT_tup (viewLs_cons (view_one (view_own ic_ok rfl) (by simp)) (viewLs_cons (view_one (view1_bool rfl) (by simp)) viewLs_nil))))
set_option maxHeartbeats 4000000 in
theorem S_F_path_Of_l1 (F_path_Of_l1 : Int → (List Int) → Int → Node → Option ((List Int) × Bool)) (F_path_Of_b2 : Int → (List Int) → Int → Node → Option ((List Int) × Bool)) (H_F_path_Of_l1 : ∀ (t1 : Int) (t6 : (List Int)) (t7 : Int) (o0 : Node) (r : (List Int) × Bool), F_path_Of_l1 t1 t6 t7 o0 = some r → M_F_path_Of_l1 t1 t6 t7 o0 r) (H_F_path_Of_b2 : ∀ (t1 : Int) (t6 : (List Int)) (t7 : Int) (o0 : Node) (r : (List Int) × Bool), F_path_Of_b2 t1 t6 t7 o0 = some r → M_F_path_Of_b2 t1 t6 t7 o0 r) (t1 : Int) (t6 : (List Int)) (t7 : Int) (o0 : Node) (r : (List Int) × Bool) (h : (
    if (decide (t7 < ((o0.kids.map Node.cells).length : Int))) = true then
      ix o0.kids t7 >>= fun x1 =>
      F_tree_Size x1 >>= fun x2 =>
      if (decide (t1 < x2)) = true then
        F_path_Of_b2 t1 t6 t7 o0
      else
        F_path_Of_l1 (IntKind.i64.wrap (t1 - x2)) t6 (IntKind.i64.wrap (t7 + (1 : Int))) o0
    else
      F_path_Of_b2 t1 t6 t7 o0
    : Option ((List Int) × Bool)) = some r) : M_F_path_Of_l1 t1 t6 t7 o0 r := by
  refine Ok_unroll ?_
  refine Ok_runB env [1000002] rfl ?_
  refine Ok_cond (fun hb => ?_) (fun hb => ?_)
  · replace h := ite_t hb h
    refine Ok_runB env [1000002] rfl ?_
    obtain ⟨x1, hx, h⟩ := bind_some h
    refine Ok_ixT env hx rfl rfl rfl rfl (Node.cells_eq x1) ?_
    refine Ok_runB env [1000002] rfl ?_
    obtain ⟨x2, hx, h⟩ := bind_some h
    refine Ok_call (H_F_tree_Size _ _ hx) ?_
    refine Ok_runB env [1000002] rfl ?_
    refine Ok_cond (fun hb => ?_) (fun hb => ?_)
    · replace h := ite_t hb h
      refine Ok_runB env [1000002] rfl ?_
      exact Ok_bar_to (by kernel_rfl) rfl (less_at (by simp [leFT, leV, leOs, leO, leC, rho, AV.ren, AV.ren1, AV.ren0, AV.un, AV.un1, AV.un0, AV.closed, wkS] <;> (repeat' apply And.intro) <;> first | rfl | exact fun x a _ h => (ic_ok.all a x h).2) (by simp [leFT, leV, leOs, leO, leC, rho, AV.ren, AV.ren1, AV.ren0, AV.un, AV.un1, AV.un0, AV.closed, wkS] <;> (repeat' apply And.intro) <;> first | rfl | exact fun x a _ h => (ic_ok.all a x h).2)) (H_F_path_Of_b2 _ _ _ _ _ h)
    · replace h := ite_f hb h
      refine Ok_runB env [1000002] rfl ?_
      exact Ok_again_to (by kernel_rfl) (less_at (by simp [leFT, leV, leOs, leO, leC, rho, AV.ren, AV.ren1, AV.ren0, AV.un, AV.un1, AV.un0, AV.closed, wkS] <;> (repeat' apply And.intro) <;> first | rfl | exact fun x a _ h => (ic_ok.all a x h).2) (by simp [leFT, leV, leOs, leO, leC, rho, AV.ren, AV.ren1, AV.ren0, AV.un, AV.un1, AV.un0, AV.closed, wkS] <;> (repeat' apply And.intro) <;> first | rfl | exact fun x a _ h => (ic_ok.all a x h).2)) (H_F_path_Of_l1 _ _ _ _ _ h)
  · replace h := ite_f hb h
    refine Ok_runB env [1000002] rfl ?_
    exact Ok_bar_to (by kernel_rfl) rfl (less_at (by simp [leFT, leV, leOs, leO, leC, rho, AV.ren, AV.ren1, AV.ren0, AV.un, AV.un1, AV.un0, AV.closed, wkS] <;> (repeat' apply And.intro) <;> first | rfl | exact fun x a _ h => (ic_ok.all a x h).2) (by simp [leFT, leV, leOs, leO, leC, rho, AV.ren, AV.ren1, AV.ren0, AV.un, AV.un1, AV.un0, AV.closed, wkS] <;> (repeat' apply And.intro) <;> first | rfl | exact fun x a _ h => (ic_ok.all a x h).2)) (H_F_path_Of_b2 _ _ _ _ _ h)
set_option maxHeartbeats 4000000 in
theorem S_F_path_Of_b2 (F_path_Of_l0 : Int → (List Int) → Node → Option ((List Int) × Bool)) (H_F_path_Of_l0 : ∀ (t1 : Int) (t6 : (List Int)) (o0 : Node) (r : (List Int) × Bool), F_path_Of_l0 t1 t6 o0 = some r → M_F_path_Of_l0 t1 t6 o0 r) (t1 : Int) (t6 : (List Int)) (t7 : Int) (o0 : Node) (r : (List Int) × Bool) (h : (
    if (decide (t7 = ((o0.kids.map Node.cells).length : Int))) = true then
      some (([] : (List Int)), false)
    else
      app 8 t6 ([t7]) >>= fun x3 =>
      ix o0.kids t7 >>= fun x4 =>
      F_path_Of_l0 t1 x3 x4
    : Option ((List Int) × Bool)) = some r) : M_F_path_Of_b2 t1 t6 t7 o0 r := by
  refine Ok_runB env [1000002] rfl ?_
  refine Ok_cond (fun hb => ?_) (fun hb => ?_)
  · replace h := ite_t hb h
    refine Ok_runB env [1000002] rfl ?_
    cases h
    exact Ok_fin env rfl rfl (told_view (viewT_tup (viewLs_cons (view_one (view1_sl (.inr rfl)) (by simp)) (viewLs_cons (view_one (view1_bool rfl) (by simp)) viewLs_nil))))
  · replace h := ite_f hb h
    refine Ok_runB env [1000002] rfl ?_
    obtain ⟨x3, hx, h⟩ := bind_some h
    have hp_x3 := app_pos hx (by simp)
    refine Ok_appO env hx rfl rfl (by simp) (fun _ => rfl) rfl rfl rfl rfl rfl (by decide) rfl rfl rfl ?_
    refine Ok_runB env [1000002] rfl ?_
    obtain ⟨x4, hx, h⟩ := bind_some h
    refine Ok_ixT env hx rfl rfl rfl rfl (Node.cells_eq x4) ?_
    refine Ok_runB env [1000002] rfl ?_
    exact Ok_again_to (by kernel_rfl) (less_at (by simp [leFT, leV, leOs, leO, leC, rho, AV.ren, AV.ren1, AV.ren0, AV.un, AV.un1, AV.un0, AV.closed, wkS] <;> (repeat' apply And.intro) <;> first | rfl | exact fun x a _ h => (ic_ok.all a x h).2) (by simp [leFT, leV, leOs, leO, leC, rho, AV.ren, AV.ren1, AV.ren0, AV.un, AV.un1, AV.un0, AV.closed, wkS] <;> (repeat' apply And.intro) <;> first | rfl | exact fun x a _ h => (ic_ok.all a x h).2)) (H_F_path_Of_l0 _ _ _ _ h)
/-- treemerge/path.Of -/
theorem H_F_path_Of_l0 (t1 : Int) (t6 : (List Int)) (o0 : Node) (r : (List Int) × Bool) (h : F_path_Of_l0 t1 t6 o0 = some r) : M_F_path_Of_l0 t1 t6 o0 r :=
  (F_path_Of_l0.mutual_partial_correctness (fun t1 t6 o0 r => M_F_path_Of_l0 t1 t6 o0 r) (fun t1 t6 t7 o0 r => M_F_path_Of_l1 t1 t6 t7 o0 r) (fun t1 t6 t7 o0 r => M_F_path_Of_b2 t1 t6 t7 o0 r) (fun F0 h0 => S_F_path_Of_l0 F0 h0) (fun F0 F1 h0 h1 => S_F_path_Of_l1 F0 F1 h0 h1) (fun F0 h0 => S_F_path_Of_b2 F0 h0)).1 t1 t6 o0 r h
/-- treemerge/path.Of -/
theorem H_F_path_Of_l1 (t1 : Int) (t6 : (List Int)) (t7 : Int) (o0 : Node) (r : (List Int) × Bool) (h : F_path_Of_l1 t1 t6 t7 o0 = some r) : M_F_path_Of_l1 t1 t6 t7 o0 r :=
  (F_path_Of_l0.mutual_partial_correctness (fun t1 t6 o0 r => M_F_path_Of_l0 t1 t6 o0 r) (fun t1 t6 t7 o0 r => M_F_path_Of_l1 t1 t6 t7 o0 r) (fun t1 t6 t7 o0 r => M_F_path_Of_b2 t1 t6 t7 o0 r) (fun F0 h0 => S_F_path_Of_l0 F0 h0) (fun F0 F1 h0 h1 => S_F_path_Of_l1 F0 F1 h0 h1) (fun F0 h0 => S_F_path_Of_b2 F0 h0)).2.1 t1 t6 t7 o0 r h
/-- treemerge/path.Of -/
theorem H_F_path_Of_b2 (t1 : Int) (t6 : (List Int)) (t7 : Int) (o0 : Node) (r : (List Int) × Bool) (h : F_path_Of_b2 t1 t6 t7 o0 = some r) : M_F_path_Of_b2 t1 t6 t7 o0 r :=
  (F_path_Of_l0.mutual_partial_correctness (fun t1 t6 o0 r => M_F_path_Of_l0 t1 t6 o0 r) (fun t1 t6 t7 o0 r => M_F_path_Of_l1 t1 t6 t7 o0 r) (fun t1 t6 t7 o0 r => M_F_path_Of_b2 t1 t6 t7 o0 r) (fun F0 h0 => S_F_path_Of_l0 F0 h0) (fun F0 F1 h0 h1 => S_F_path_Of_l1 F0 F1 h0 h1) (fun F0 h0 => S_F_path_Of_b2 F0 h0)).2.2 t1 t6 t7 o0 r h
def F_path_Of (a0 : Node) (a1 : Int) : Option ((List Int) × Bool) :=
  if (decide (a1 < (0 : Int))) = true then
    some (([] : (List Int)), false)
  else
    F_path_Of_l0 a1 ([] : List Int) a0
@[reducible] def M_F_path_Of (a0 : Node) (a1 : Int) (r : (List Int) × Bool) : Prop :=
  Fn Tryd.prog G 18 [(.agg (cellsN a0)), (.int .i64 a1)] (.tup [(.sl 1 false (r.1.map ic)), (.bool r.2)])
theorem E_F_path_Of (a0 : Node) (a1 : Int) : F_path_Of a0 a1 = (
    if (decide (a1 < (0 : Int))) = true then
      some (([] : (List Int)), false)
    else
      F_path_Of_l0 a1 ([] : List Int) a0
    : Option ((List Int) × Bool)) := F_path_Of.eq_def a0 a1
set_option maxHeartbeats 4000000 in
theorem S_F_path_Of  (a0 : Node) (a1 : Int) (r : (List Int) × Bool) (h : (
    if (decide (a1 < (0 : Int))) = true then
      some (([] : (List Int)), false)
    else
      F_path_Of_l0 a1 ([] : List Int) a0
    : Option ((List Int) × Bool)) = some r) : M_F_path_Of a0 a1 r := by
  refine Fn_run (T := tt) (N := 49) (rs := [.tmp 4, .tmp 5]) (fun vs w => by simp) Tryd.func18 rfl rfl rfl rfl (by kernel_rfl) (all_pure3 rfl) (closed3_pure _ rfl) ?_
  refine Ok_runB env [1000002] rfl ?_
  refine Ok_cond (fun hb => ?_) (fun hb => ?_)
  · replace h := ite_t hb h
    refine Ok_runB env [1000002] rfl ?_
    cases h
    exact Ok_fin env rfl rfl (told_view (viewT_tup (viewLs_cons (view_one (view1_sl (.inr rfl)) (by simp)) (viewLs_cons (view_one (view1_bool rfl) (by simp)) viewLs_nil))))
  · replace h := ite_f hb h
    refine Ok_runB env [1000002] rfl ?_
    refine Ok_own 6 _ 1 3 rfl rfl ?_
    exact Ok_loop_to (by kernel_rfl) (less_at (by simp [leFT, leV, leOs, leO, leC, rho, AV.ren, AV.ren1, AV.ren0, AV.un, AV.un1, AV.un0, AV.closed, wkS] <;> (repeat' apply And.intro) <;> first | rfl | exact fun x a _ h => (ic_ok.all a x h).2) (by simp [leFT, leV, leOs, leO, leC, rho, AV.ren, AV.ren1, AV.ren0, AV.un, AV.un1, AV.un0, AV.closed, wkS] <;> (repeat' apply And.intro) <;> first | rfl | exact fun x a _ h => (ic_ok.all a x h).2)) (H_F_path_Of_l0 _ _ _ _ h)
/-- treemerge/path.Of -/
theorem H_F_path_Of (a0 : Node) (a1 : Int) (r : (List Int) × Bool) (h : F_path_Of a0 a1 = some r) : M_F_path_Of a0 a1 r :=
  S_F_path_Of a0 a1 r (by rw [E_F_path_Of] at h; exact h)
mutual
def F_path_Index_l0 (rest0 : (List Int)) (t6 : Int) (o0 : Node) : Option (Int × Bool) :=
  match rest0 with
  | [] =>
    some (t6, true)
  | x_0 :: rest0 =>
    if (decide (x_0 < (0 : Int))) = true then
      some ((0 : Int), false)
    else
      if (decide (((o0.kids.map Node.cells).length : Int) ≤ x_0)) = true then
        some ((0 : Int), false)
      else
        lsub o0.kids (0 : Int) x_0 >>= fun x1 =>
        F_path_Index_l1 (nofix rest0) (nofix x1) (IntKind.i64.wrap (t6 + (1 : Int))) (nofix x_0) (nofix o0)
  partial_fixpoint
def F_path_Index_l1 (rest0 : (List Int)) (rest1 : (List Node)) (t6 : Int) (t8 : Int) (o0 : Node) : Option (Int × Bool) :=
  match rest1 with
  | [] =>
    ix o0.kids t8 >>= fun x2 =>
    F_path_Index_l0 (nofix rest0) (nofix t6) (nofix x2)
  | x_1 :: rest1 =>
    F_tree_Size (nofix x_1) >>= fun x3 =>
    F_path_Index_l1 (nofix rest0) (nofix rest1) (IntKind.i64.wrap (t6 + x3)) (nofix t8) (nofix o0)
  partial_fixpoint
end
@[reducible] def M_F_path_Index_l0 (rest0 : (List Int)) (t6 : Int) (o0 : Node) (r : Int × Bool) : Prop :=
  ∀ (l0 : List Int) (j0 : Nat), l0.drop j0 = rest0 → j0 ≤ l0.length → l0.length ≤ 9223372036854775807 → Ok Tryd.prog G tt 50 0 (Ret Tryd.prog [.tmp 4, .tmp 5] (fun y H => Told Tryd.prog G H y (.tup [(.int .i64 r.1), (.bool r.2)]))) (.again (loopOf [] Tryd.f20 0).1 (loopOf [] Tryd.f20 0).2 (.n .undef (.n .undef (.n .undef .z (.n (.sl 1 false (l0.map ic)) .z .z)) (.n .undef .z (.n (.int .i64 ((j0 : Nat) : Int)) .z .z))) (.n (.ptr 0 0 0) (.n .undef .z (.n (.int .i64 ((l0.map ic).length : Int)) .z .z)) (.n (.int .i64 t6) .z .z))) 1 [(0, .var 25 (cellsN o0))])
@[reducible] def M_F_path_Index_l1 (rest0 : (List Int)) (rest1 : (List Node)) (t6 : Int) (t8 : Int) (o0 : Node) (r : Int × Bool) : Prop :=
  ∀ (l0 : List Int) (j0 : Nat), l0.drop (j0 + 1) = rest0 → j0 + 1 ≤ l0.length → l0.length ≤ 9223372036854775807 → ∀ (l1 : List Node) (j1 : Nat), l1.drop j1 = rest1 → j1 ≤ l1.length → l1.length ≤ 9223372036854775807 → Ok Tryd.prog G tt 50 0 (Ret Tryd.prog [.tmp 4, .tmp 5] (fun y H => Told Tryd.prog G H y (.tup [(.int .i64 r.1), (.bool r.2)]))) (.again (loopOf [] Tryd.f20 1).1 (loopOf [] Tryd.f20 1).2 (.n .undef (.n .undef (.n .undef .z (.n (.sl 1 false (l0.map ic)) .z .z)) (.n .undef (.n .undef (.n .undef (.n (.int .i64 ((l1.map Node.cells).length : Int)) .z .z) .z) .z) (.n (.int .i64 ((j0 : Nat) : Int)) .z .z))) (.n (.ptr 0 0 0) (.n .undef (.n (.int .i64 t8) (.n .undef (.n (.sl 4 false (l1.map Node.cells)) .z .z) .z) .z) (.n (.int .i64 ((l0.map ic).length : Int)) .z .z)) (.n (.int .i64 t6) (.n .undef (.n .undef (.n (.int .i64 ((j1 : Nat) : Int)) .z .z) .z) .z) .z))) 1 [(0, .var 25 (cellsN o0))])
theorem E_F_path_Index_l0 (rest0 : (List Int)) (t6 : Int) (o0 : Node) : F_path_Index_l0 rest0 t6 o0 = (
    match rest0 with
    | [] =>
      some (t6, true)
    | x_0 :: rest0 =>
      if (decide (x_0 < (0 : Int))) = true then
        some ((0 : Int), false)
      else
        if (decide (((o0.kids.map Node.cells).length : Int) ≤ x_0)) = true then
          some ((0 : Int), false)
        else
          lsub o0.kids (0 : Int) x_0 >>= fun x1 =>
          F_path_Index_l1 rest0 x1 (IntKind.i64.wrap (t6 + (1 : Int))) x_0 o0
    : Option (Int × Bool)) := F_path_Index_l0.eq_def rest0 t6 o0
theorem E_F_path_Index_l1 (rest0 : (List Int)) (rest1 : (List Node)) (t6 : Int) (t8 : Int) (o0 : Node) : F_path_Index_l1 rest0 rest1 t6 t8 o0 = (
    match rest1 with
    | [] =>
      ix o0.kids t8 >>= fun x2 =>
      F_path_Index_l0 rest0 t6 x2
    | x_1 :: rest1 =>
      F_tree_Size x_1 >>= fun x3 =>
      F_path_Index_l1 rest0 rest1 (IntKind.i64.wrap (t6 + x3)) t8 o0
    : Option (Int × Bool)) := F_path_Index_l1.eq_def rest0 rest1 t6 t8 o0
set_option maxHeartbeats 4000000 in
theorem S_F_path_Index_l0 (F_path_Index_l1 : (List Int) → (List Node) → Int → Int → Node → Option (Int × Bool)) (H_F_path_Index_l1 : ∀ (rest0 : (List Int)) (rest1 : (List Node)) (t6 : Int) (t8 : Int) (o0 : Node) (r : Int × Bool), F_path_Index_l1 rest0 rest1 t6 t8 o0 = some r → M_F_path_Index_l1 rest0 rest1 t6 t8 o0 r) (rest0 : (List Int)) (t6 : Int) (o0 : Node) (r : Int × Bool) (h : (
    match rest0 with
    | [] =>
      some (t6, true)
    | x_0 :: rest0 =>
      if (decide (x_0 < (0 : Int))) = true then
        some ((0 : Int), false)
      else
        if (decide (((o0.kids.map Node.cells).length : Int) ≤ x_0)) = true then
          some ((0 : Int), false)
        else
          lsub o0.kids (0 : Int) x_0 >>= fun x1 =>
          F_path_Index_l1 rest0 x1 (IntKind.i64.wrap (t6 + (1 : Int))) x_0 o0
    : Option (Int × Bool)) = some r) : M_F_path_Index_l0 rest0 t6 o0 r := by
  intro l0 j0 hl0 hj0 hm0
  refine Ok_unroll ?_
  cases rest0 with
  | nil =>
    have hb := range_nil (C := ic) hl0 hj0
    refine Ok_runB env [] rfl ?_
    refine Ok_cond_f hb ?_
    refine Ok_runB env [] rfl ?_
    cases h
    exact Ok_fin env rfl rfl (told_eq rfl)
  | cons x_0 rest0 =>
    obtain ⟨hb, hx0, hd0, hk0, hw0⟩ := range_cons (C := ic) hl0 hm0
    refine Ok_runB env [] rfl ?_
    refine Ok_cond_t hb ?_
    refine Ok_runB env [] rfl ?_
    refine Ok_ix env rfl rfl rfl rfl (m := j0) rfl (range_at hx0 rfl) ?_
    refine Ok_runB env [] rfl ?_
    refine Ok_guard_f (fun hb => ?_) (fun hb => ?_)
    · replace h := ite_f hb h
      refine Ok_runB env [] rfl ?_
      refine Ok_cond (fun hb => ?_) (fun hb => ?_)
      · replace h := ite_t hb h
        refine Ok_runB env [] rfl ?_
        cases h
        exact Ok_fin env rfl rfl (told_eq rfl)
      · replace h := ite_f hb h
        refine Ok_runB env [] rfl ?_
        obtain ⟨x1, hx, h⟩ := bind_some h
        refine Ok_lsub3T env hx rfl rfl rfl rfl rfl rfl ?_
        refine Ok_runB env [] rfl ?_
        refine Ok_lenG 32 rfl (fun hm => ?_)
        exact Ok_loop_to (by kernel_rfl) (less_at (by simp [leFT, leV, leOs, leO, leC, rho, AV.ren, AV.ren1, AV.ren0, AV.un, AV.un1, AV.un0, AV.closed, wkS] <;> (repeat' apply And.intro) <;> first | rfl) (by simp [leFT, leV, leOs, leO, leC, rho, AV.ren, AV.ren1, AV.ren0, AV.un, AV.un1, AV.un0, AV.closed, wkS] <;> (repeat' apply And.intro) <;> first | rfl)) (H_F_path_Index_l1 _ _ _ _ _ _ h l0 j0 hd0 hk0 hm0 x1 0 rfl (Nat.zero_le _) (len_map_le hm))
    · replace h := ite_t hb h
      refine Ok_runB env [] rfl ?_
      cases h
      exact Ok_fin env rfl rfl (told_eq rfl)
set_option maxHeartbeats 4000000 in
theorem S_F_path_Index_l1 (F_path_Index_l0 : (List Int) → Int → Node → Option (Int × Bool)) (F_path_Index_l1 : (List Int) → (List Node) → Int → Int → Node → Option (Int × Bool)) (H_F_path_Index_l0 : ∀ (rest0 : (List Int)) (t6 : Int) (o0 : Node) (r : Int × Bool), F_path_Index_l0 rest0 t6 o0 = some r → M_F_path_Index_l0 rest0 t6 o0 r) (H_F_path_Index_l1 : ∀ (rest0 : (List Int)) (rest1 : (List Node)) (t6 : Int) (t8 : Int) (o0 : Node) (r : Int × Bool), F_path_Index_l1 rest0 rest1 t6 t8 o0 = some r → M_F_path_Index_l1 rest0 rest1 t6 t8 o0 r) (rest0 : (List Int)) (rest1 : (List Node)) (t6 : Int) (t8 : Int) (o0 : Node) (r : Int × Bool) (h : (
    match rest1 with
    | [] =>
      ix o0.kids t8 >>= fun x2 =>
      F_path_Index_l0 rest0 t6 x2
    | x_1 :: rest1 =>
      F_tree_Size x_1 >>= fun x3 =>
      F_path_Index_l1 rest0 rest1 (IntKind.i64.wrap (t6 + x3)) t8 o0
    : Option (Int × Bool)) = some r) : M_F_path_Index_l1 rest0 rest1 t6 t8 o0 r := by
  intro l0 j0 hd0 hk0 hm0
  have hw0 := range_w hk0 hm0
  intro l1 j1 hl1 hj1 hm1
  refine Ok_unroll ?_
  cases rest1 with
  | nil =>
    have hb := range_nil (C := Node.cells) hl1 hj1
    refine Ok_runB env [] rfl ?_
    refine Ok_cond_f hb ?_
    refine Ok_runB env [] rfl ?_
    obtain ⟨x2, hx, h⟩ := bind_some h
    refine Ok_ixT env hx rfl rfl rfl rfl (Node.cells_eq x2) ?_
    refine Ok_runB env [] rfl ?_
    exact Ok_again_to (by kernel_rfl) (less_at (by simp only [hw0]; simp [leFT, leV, leOs, leO, leC, rho, AV.ren, AV.ren1, AV.ren0, AV.un, AV.un1, AV.un0, AV.closed, wkS] <;> (repeat' apply And.intro) <;> first | rfl) (by simp [leFT, leV, leOs, leO, leC, rho, AV.ren, AV.ren1, AV.ren0, AV.un, AV.un1, AV.un0, AV.closed, wkS] <;> (repeat' apply And.intro) <;> first | rfl)) (H_F_path_Index_l0 _ _ _ _ h l0 (j0 + 1) hd0 hk0 hm0)
  | cons x_1 rest1 =>
    obtain ⟨hb, hx1, hd1, hk1, hw1⟩ := range_cons (C := Node.cells) hl1 hm1
    refine Ok_runB env [] rfl ?_
    refine Ok_cond_t hb ?_
    refine Ok_runB env [] rfl ?_
    refine Ok_ix env rfl rfl rfl rfl (m := j1) rfl (range_at hx1 (Node.cells_eq x_1)) ?_
    refine Ok_runB env [] rfl ?_
    obtain ⟨x3, hx, h⟩ := bind_some h
    refine Ok_call (H_F_tree_Size _ _ hx) ?_
    refine Ok_runB env [] rfl ?_
    exact Ok_again_to (by kernel_rfl) (less_at (by simp only [hw1]; simp [leFT, leV, leOs, leO, leC, rho, AV.ren, AV.ren1, AV.ren0, AV.un, AV.un1, AV.un0, AV.closed, wkS] <;> (repeat' apply And.intro) <;> first | rfl) (by simp [leFT, leV, leOs, leO, leC, rho, AV.ren, AV.ren1, AV.ren0, AV.un, AV.un1, AV.un0, AV.closed, wkS] <;> (repeat' apply And.intro) <;> first | rfl)) (H_F_path_Index_l1 _ _ _ _ _ _ h l0 j0 hd0 hk0 hm0 l1 (j1 + 1) hd1 hk1 hm1)
/-- treemerge/path.Index -/
theorem H_F_path_Index_l0 (rest0 : (List Int)) (t6 : Int) (o0 : Node) (r : Int × Bool) (h : F_path_Index_l0 rest0 t6 o0 = some r) : M_F_path_Index_l0 rest0 t6 o0 r :=
  (F_path_Index_l0.mutual_partial_correctness (fun rest0 t6 o0 r => M_F_path_Index_l0 rest0 t6 o0 r) (fun rest0 rest1 t6 t8 o0 r => M_F_path_Index_l1 rest0 rest1 t6 t8 o0 r) (fun F0 h0 => S_F_path_Index_l0 F0 h0) (fun F0 F1 h0 h1 => S_F_path_Index_l1 F0 F1 h0 h1)).1 rest0 t6 o0 r h
/-- treemerge/path.Index -/
theorem H_F_path_Index_l1 (rest0 : (List Int)) (rest1 : (List Node)) (t6 : Int) (t8 : Int) (o0 : Node) (r : Int × Bool) (h : F_path_Index_l1 rest0 rest1 t6 t8 o0 = some r) : M_F_path_Index_l1 rest0 rest1 t6 t8 o0 r :=
  (F_path_Index_l0.mutual_partial_correctness (fun rest0 t6 o0 r => M_F_path_Index_l0 rest0 t6 o0 r) (fun rest0 rest1 t6 t8 o0 r => M_F_path_Index_l1 rest0 rest1 t6 t8 o0 r) (fun F0 h0 => S_F_path_Index_l0 F0 h0) (fun F0 F1 h0 h1 => S_F_path_Index_l1 F0 F1 h0 h1)).2 rest0 rest1 t6 t8 o0 r h
def F_path_Index (a0 : Node) (a1 : (List Int)) : Option (Int × Bool) :=
  F_path_Index_l0 a1 (0 : Int) a0
@[reducible] def M_F_path_Index (a0 : Node) (a1 : (List Int)) (r : Int × Bool) : Prop :=
  Fn Tryd.prog G 20 [(.agg (cellsN a0)), (.sl 1 false (a1.map ic))] (.tup [(.int .i64 r.1), (.bool r.2)])
theorem E_F_path_Index (a0 : Node) (a1 : (List Int)) : F_path_Index a0 a1 = (
    F_path_Index_l0 a1 (0 : Int) a0
    : Option (Int × Bool)) := F_path_Index.eq_def a0 a1
set_option maxHeartbeats 4000000 in
theorem S_F_path_Index  (a0 : Node) (a1 : (List Int)) (r : Int × Bool) (h : (
    F_path_Index_l0 a1 (0 : Int) a0
    : Option (Int × Bool)) = some r) : M_F_path_Index a0 a1 r := by
  refine Fn_run (T := tt) (N := 50) (rs := [.tmp 4, .tmp 5]) (fun vs w => by simp) Tryd.func20 rfl rfl rfl rfl (by kernel_rfl) (all_pure3 rfl) (closed3_pure _ rfl) ?_
  refine Ok_runB env [] rfl ?_
  refine Ok_lenG 11 rfl (fun hm => ?_)
  exact Ok_loop_to (by kernel_rfl) (less_at (by simp [leFT, leV, leOs, leO, leC, rho, AV.ren, AV.ren1, AV.ren0, AV.un, AV.un1, AV.un0, AV.closed, wkS] <;> (repeat' apply And.intro) <;> first | rfl) (by simp [leFT, leV, leOs, leO, leC, rho, AV.ren, AV.ren1, AV.ren0, AV.un, AV.un1, AV.un0, AV.closed, wkS] <;> (repeat' apply And.intro) <;> first | rfl)) (H_F_path_Index_l0 _ _ _ _ h a1 0 rfl (Nat.zero_le _) (len_map_le hm))
/-- treemerge/path.Index -/
theorem H_F_path_Index (a0 : Node) (a1 : (List Int)) (r : Int × Bool) (h : F_path_Index a0 a1 = some r) : M_F_path_Index a0 a1 r :=
  S_F_path_Index a0 a1 r (by rw [E_F_path_Index] at h; exact h)
def F_path_get_l0 (rest0 : (List Int)) (o0 : Node) : Option (Node × Bool) :=
  match rest0 with
  | [] =>
    some (o0, true)
  | x_0 :: rest0 =>
    if (decide (x_0 < (0 : Int))) = true then
      some ((Node.mk 0 (⟨#[]⟩) ([] : (List ByteArray)) ([] : (List Node))), false)
    else
      if (decide (((o0.kids.map Node.cells).length : Int) ≤ x_0)) = true then
        some ((Node.mk 0 (⟨#[]⟩) ([] : (List ByteArray)) ([] : (List Node))), false)
      else
        ix o0.kids x_0 >>= fun x1 =>
        F_path_get_l0 (nofix rest0) (nofix x1)
  partial_fixpoint
@[reducible] def M_F_path_get_l0 (rest0 : (List Int)) (o0 : Node) (r : Node × Bool) : Prop :=
  ∀ (l0 : List Int) (j0 : Nat), l0.drop j0 = rest0 → j0 ≤ l0.length → l0.length ≤ 9223372036854775807 → Ok Tryd.prog G tt 31 0 (Ret Tryd.prog [.cell 4 25, .tmp 5] (fun y H => Told Tryd.prog G H y (.tup [(.agg (cellsN r.1)), (.bool r.2)]))) (.again (loopOf [] Tryd.f54 0).1 (loopOf [] Tryd.f54 0).2 (.n .undef (.n .undef .z (.n .undef (.n (.int .i64 ((l0.map ic).length : Int)) .z .z) .z)) (.n (.ptr 0 0 0) (.n (.ptr 1 1 0) (.n (.sl 1 false (l0.map ic)) .z .z) .z) (.n .undef (.n (.int .i64 ((j0 : Nat) : Int)) .z .z) .z))) 2 [(0, .var 25 (cellsN o0)), (1, .var 25 [(.int .i64 0), (.str ⟨#[]⟩), (.sl 1 false (([] : (List ByteArray)).map sc)), (.sl 4 false (([] : (List Node)).map Node.cells))])])
theorem E_F_path_get_l0 (rest0 : (List Int)) (o0 : Node) : F_path_get_l0 rest0 o0 = (
    match rest0 with
    | [] =>
      some (o0, true)
    | x_0 :: rest0 =>
      if (decide (x_0 < (0 : Int))) = true then
        some ((Node.mk 0 (⟨#[]⟩) ([] : (List ByteArray)) ([] : (List Node))), false)
      else
        if (decide (((o0.kids.map Node.cells).length : Int) ≤ x_0)) = true then
          some ((Node.mk 0 (⟨#[]⟩) ([] : (List ByteArray)) ([] : (List Node))), false)
        else
          ix o0.kids x_0 >>= fun x1 =>
          F_path_get_l0 rest0 x1
    : Option (Node × Bool)) := F_path_get_l0.eq_def rest0 o0
set_option maxHeartbeats 4000000 in
theorem S_F_path_get_l0 (F_path_get_l0 : (List Int) → Node → Option (Node × Bool)) (H_F_path_get_l0 : ∀ (rest0 : (List Int)) (o0 : Node) (r : Node × Bool), F_path_get_l0 rest0 o0 = some r → M_F_path_get_l0 rest0 o0 r) (rest0 : (List Int)) (o0 : Node) (r : Node × Bool) (h : (
    match rest0 with
    | [] =>
      some (o0, true)
    | x_0 :: rest0 =>
      if (decide (x_0 < (0 : Int))) = true then
        some ((Node.mk 0 (⟨#[]⟩) ([] : (List ByteArray)) ([] : (List Node))), false)
      else
        if (decide (((o0.kids.map Node.cells).length : Int) ≤ x_0)) = true then
          some ((Node.mk 0 (⟨#[]⟩) ([] : (List ByteArray)) ([] : (List Node))), false)
        else
          ix o0.kids x_0 >>= fun x1 =>
          F_path_get_l0 rest0 x1
    : Option (Node × Bool)) = some r) : M_F_path_get_l0 rest0 o0 r := by
  intro l0 j0 hl0 hj0 hm0
  refine Ok_unroll ?_
  cases rest0 with
  | nil =>
    have hb := range_nil (C := ic) hl0 hj0
    refine Ok_runB env [] rfl ?_
    refine Ok_cond_f hb ?_
    refine Ok_runB env [] rfl ?_
    cases h
    exact Ok_fin env rfl rfl (told_eq rfl)
  | cons x_0 rest0 =>
    obtain ⟨hb, hx0, hd0, hk0, hw0⟩ := range_cons (C := ic) hl0 hm0
    refine Ok_runB env [] rfl ?_
    refine Ok_cond_t hb ?_
    refine Ok_runB env [] rfl ?_
    refine Ok_ix env rfl rfl rfl rfl (m := j0) rfl (range_at hx0 rfl) ?_
    refine Ok_runB env [] rfl ?_
    refine Ok_guard_f (fun hb => ?_) (fun hb => ?_)
    · replace h := ite_f hb h
      refine Ok_runB env [] rfl ?_
      refine Ok_cond (fun hb => ?_) (fun hb => ?_)
      · replace h := ite_t hb h
        refine Ok_runB env [] rfl ?_
        cases h
        exact Ok_fin env rfl rfl (told_view (viewT_tup (viewLs_cons (view_agg (viewL_cons (view1_int rfl) (viewL_cons (view1_str rfl) (viewL_cons (view1_sl (.inr rfl)) (viewL_cons (view1_sl (.inr rfl)) viewL_nil))))) (viewLs_cons (view_one (view1_bool rfl) (by simp)) viewLs_nil))))
      · replace h := ite_f hb h
        refine Ok_runB env [] rfl ?_
        obtain ⟨x1, hx, h⟩ := bind_some h
        refine Ok_ixT env hx rfl rfl rfl rfl (Node.cells_eq x1) ?_
        refine Ok_runB env [] rfl ?_
        exact Ok_again_to (by kernel_rfl) (less_at (by simp only [hw0]; simp [leFT, leV, leOs, leO, leC, rho, AV.ren, AV.ren1, AV.ren0, AV.un, AV.un1, AV.un0, AV.closed, wkS] <;> (repeat' apply And.intro) <;> first | rfl) (by simp [leFT, leV, leOs, leO, leC, rho, AV.ren, AV.ren1, AV.ren0, AV.un, AV.un1, AV.un0, AV.closed, wkS] <;> (repeat' apply And.intro) <;> first | rfl)) (H_F_path_get_l0 _ _ _ h l0 (j0 + 1) hd0 hk0 hm0)
    · replace h := ite_t hb h
      refine Ok_runB env [] rfl ?_
      cases h
      exact Ok_fin env rfl rfl (told_view (viewT_tup (viewLs_cons (view_agg (viewL_cons (view1_int rfl) (viewL_cons (view1_str rfl) (viewL_cons (view1_sl (.inr rfl)) (viewL_cons (view1_sl (.inr rfl)) viewL_nil))))) (viewLs_cons (view_one (view1_bool rfl) (by simp)) viewLs_nil))))
/-- treemerge/path.get -/
theorem H_F_path_get_l0 (rest0 : (List Int)) (o0 : Node) (r : Node × Bool) (h : F_path_get_l0 rest0 o0 = some r) : M_F_path_get_l0 rest0 o0 r :=
  F_path_get_l0.partial_correctness (fun rest0 o0 r => M_F_path_get_l0 rest0 o0 r) (fun F0 h0 => S_F_path_get_l0 F0 h0) rest0 o0 r h
def F_path_get (a0 : Node) (a1 : (List Int)) : Option (Node × Bool) :=
  F_path_get_l0 a1 a0
@[reducible] def M_F_path_get (a0 : Node) (a1 : (List Int)) (r : Node × Bool) : Prop :=
  Fn Tryd.prog G 54 [(.agg (cellsN a0)), (.sl 1 false (a1.map ic))] (.tup [(.agg (cellsN r.1)), (.bool r.2)])
theorem E_F_path_get (a0 : Node) (a1 : (List Int)) : F_path_get a0 a1 = (
    F_path_get_l0 a1 a0
    : Option (Node × Bool)) := F_path_get.eq_def a0 a1
set_option maxHeartbeats 4000000 in
theorem S_F_path_get  (a0 : Node) (a1 : (List Int)) (r : Node × Bool) (h : (
    F_path_get_l0 a1 a0
    : Option (Node × Bool)) = some r) : M_F_path_get a0 a1 r := by
  refine Fn_run (T := tt) (N := 31) (rs := [.cell 4 25, .tmp 5]) (fun vs w => by simp) Tryd.func54 rfl rfl rfl rfl (by kernel_rfl) (all_pure3 rfl) (closed3_pure _ rfl) ?_
  refine Ok_runB env [] rfl ?_
  refine Ok_lenG 8 rfl (fun hm => ?_)
  exact Ok_loop_to (by kernel_rfl) (less_at (by simp [leFT, leV, leOs, leO, leC, rho, AV.ren, AV.ren1, AV.ren0, AV.un, AV.un1, AV.un0, AV.closed, wkS] <;> (repeat' apply And.intro) <;> first | rfl) (by simp [leFT, leV, leOs, leO, leC, rho, AV.ren, AV.ren1, AV.ren0, AV.un, AV.un1, AV.un0, AV.closed, wkS] <;> (repeat' apply And.intro) <;> first | rfl)) (H_F_path_get_l0 _ _ _ h a1 0 rfl (Nat.zero_le _) (len_map_le hm))
/-- treemerge/path.get -/
theorem H_F_path_get (a0 : Node) (a1 : (List Int)) (r : Node × Bool) (h : F_path_get a0 a1 = some r) : M_F_path_get a0 a1 r :=
  S_F_path_get a0 a1 r (by rw [E_F_path_get] at h; exact h)
mutual
def F_path_copied (a0 : Node) : Option (Node) :=
  app 16 ([] : (List ByteArray)) a0.gaps >>= fun x1 =>
  F_path_copied_l0 a0.kids a0.kind a0.text (nofix x1) ([] : List Node)
  partial_fixpoint
def F_path_copied_l0 (rest0 : (List Node)) (o2_0 : Int) (o2_1 : ByteArray) (o2_2 : (List ByteArray)) (o2_3 : (List Node)) : Option (Node) :=
  match rest0 with
  | [] =>
    some (Node.mk o2_0 o2_1 o2_2 o2_3)
  | x_0 :: rest0 =>
    F_path_copied (nofix x_0) >>= fun x2 =>
    app 72 o2_3 ([x2]) >>= fun x3 =>
    F_path_copied_l0 (nofix rest0) (nofix o2_0) (nofix o2_1) (nofix o2_2) (nofix x3)
  partial_fixpoint
end
@[reducible] def M_F_path_copied (a0 : Node) (r : Node) : Prop :=
  Fn Tryd.prog G 55 [(.agg (cellsN a0))] (.agg (cellsN r))
@[reducible] def M_F_path_copied_l0 (rest0 : (List Node)) (o2_0 : Int) (o2_1 : ByteArray) (o2_2 : (List ByteArray)) (o2_3 : (List Node)) (r : Node) : Prop :=
  ∀ (l0 : List Node) (j0 : Nat), l0.drop j0 = rest0 → j0 ≤ l0.length → l0.length ≤ 9223372036854775807 → Ok Tryd.prog G tt 30 0 (Ret Tryd.prog [.cell 2 25] (fun y H => Told Tryd.prog G H y (.agg (cellsN r)))) (.again (loopOf [] Tryd.f55 0).1 (loopOf [] Tryd.f55 0).2 (.n .undef (.n .undef (.n (.ptr 2 2 0) (.n .undef (.n (.sl 4 false (l0.map Node.cells)) .z .z) .z) .z) (.n .undef (.n .undef (.n (.int .i64 ((j0 : Nat) : Int)) .z .z) .z) .z)) (.n (.ptr 1 1 0) (.n .undef (.n .undef (.n (.int .i64 ((l0.map Node.cells).length : Int)) .z .z) .z) .z) .z)) 4 [(0, .dead), (1, .var 25 [(.int .i64 0), (.str ⟨#[]⟩), (.sl 1 false (([] : (List ByteArray)).map sc)), (.sl 4 false (([] : (List Node)).map Node.cells))]), (2, .var 25 [(.int .i64 o2_0), (.str o2_1), (.sl 1 false (o2_2.map sc)), (.bs 4 3 3 0 o2_3.length)]), (3, .row 25 (o2_3.map Node.cells).flatten)])
theorem E_F_path_copied (a0 : Node) : F_path_copied a0 = (
    app 16 ([] : (List ByteArray)) a0.gaps >>= fun x1 =>
    F_path_copied_l0 a0.kids a0.kind a0.text x1 ([] : List Node)
    : Option (Node)) := F_path_copied.eq_def a0
theorem E_F_path_copied_l0 (rest0 : (List Node)) (o2_0 : Int) (o2_1 : ByteArray) (o2_2 : (List ByteArray)) (o2_3 : (List Node)) : F_path_copied_l0 rest0 o2_0 o2_1 o2_2 o2_3 = (
    match rest0 with
    | [] =>
      some (Node.mk o2_0 o2_1 o2_2 o2_3)
    | x_0 :: rest0 =>
      F_path_copied x_0 >>= fun x2 =>
      app 72 o2_3 ([x2]) >>= fun x3 =>
      F_path_copied_l0 rest0 o2_0 o2_1 o2_2 x3
    : Option (Node)) := F_path_copied_l0.eq_def rest0 o2_0 o2_1 o2_2 o2_3
set_option maxHeartbeats 4000000 in
theorem S_F_path_copied (F_path_copied_l0 : (List Node) → Int → ByteArray → (List ByteArray) → (List Node) → Option (Node)) (H_F_path_copied_l0 : ∀ (rest0 : (List Node)) (o2_0 : Int) (o2_1 : ByteArray) (o2_2 : (List ByteArray)) (o2_3 : (List Node)) (r : Node), F_path_copied_l0 rest0 o2_0 o2_1 o2_2 o2_3 = some r → M_F_path_copied_l0 rest0 o2_0 o2_1 o2_2 o2_3 r) (a0 : Node) (r : Node) (h : (
    app 16 ([] : (List ByteArray)) a0.gaps >>= fun x1 =>
    F_path_copied_l0 a0.kids a0.kind a0.text x1 ([] : List Node)
    : Option (Node)) = some r) : M_F_path_copied a0 r := by
  refine Fn_run (T := tt) (N := 30) (rs := [.cell 2 25]) (fun vs w => by simp) Tryd.func55 rfl rfl rfl rfl (by kernel_rfl) (all_pure3 rfl) (closed3_pure _ rfl) ?_
  refine Ok_runB env [] rfl ?_
  obtain ⟨x1, hx, h⟩ := bind_some h
  refine Ok_appC env hx rfl (.inr rfl) rfl (.inl rfl) rfl rfl rfl rfl rfl (by decide) rfl rfl ?_
  refine Ok_runB env [] rfl ?_
  refine Ok_ownF 2 3 4 25 rfl rfl rfl ?_
  refine Ok_lenG 15 rfl (fun hm => ?_)
  exact Ok_loop_to (by kernel_rfl) (less_at (by simp [leFT, leV, leOs, leO, leC, rho, AV.ren, AV.ren1, AV.ren0, AV.un, AV.un1, AV.un0, AV.closed, wkS] <;> (repeat' apply And.intro) <;> first | rfl | exact fun x a _ h => (Node_ok.all a x h).2) (by simp [leFT, leV, leOs, leO, leC, rho, AV.ren, AV.ren1, AV.ren0, AV.un, AV.un1, AV.un0, AV.closed, wkS] <;> (repeat' apply And.intro) <;> first | rfl | exact fun x a _ h => (Node_ok.all a x h).2)) (H_F_path_copied_l0 _ _ _ _ _ _ h a0.kids 0 rfl (Nat.zero_le _) (len_map_le hm))
set_option maxHeartbeats 4000000 in
theorem S_F_path_copied_l0 (F_path_copied : Node → Option (Node)) (F_path_copied_l0 : (List Node) → Int → ByteArray → (List ByteArray) → (List Node) → Option (Node)) (H_F_path_copied : ∀ (a0 : Node) (r : Node), F_path_copied a0 = some r → M_F_path_copied a0 r) (H_F_path_copied_l0 : ∀ (rest0 : (List Node)) (o2_0 : Int) (o2_1 : ByteArray) (o2_2 : (List ByteArray)) (o2_3 : (List Node)) (r : Node), F_path_copied_l0 rest0 o2_0 o2_1 o2_2 o2_3 = some r → M_F_path_copied_l0 rest0 o2_0 o2_1 o2_2 o2_3 r) (rest0 : (List Node)) (o2_0 : Int) (o2_1 : ByteArray) (o2_2 : (List ByteArray)) (o2_3 : (List Node)) (r : Node) (h : (
    match rest0 with
    | [] =>
      some (Node.mk o2_0 o2_1 o2_2 o2_3)
    | x_0 :: rest0 =>
      F_path_copied x_0 >>= fun x2 =>
      app 72 o2_3 ([x2]) >>= fun x3 =>
      F_path_copied_l0 rest0 o2_0 o2_1 o2_2 x3
    : Option (Node)) = some r) : M_F_path_copied_l0 rest0 o2_0 o2_1 o2_2 o2_3 r := by
  intro l0 j0 hl0 hj0 hm0
  refine Ok_unroll ?_
  cases rest0 with
  | nil =>
    have hb := range_nil (C := Node.cells) hl0 hj0
    refine Ok_runB env [] rfl ?_
    refine Ok_cond_f hb ?_
    refine Ok_runB env [] rfl ?_
    cases h
    exact Ok_fin env rfl rfl (told_view (viewT_one (view_agg (viewL_cons (view1_int rfl) (viewL_cons (view1_str rfl) (viewL_cons (view1_sl (.inl rfl)) (viewL_cons (view_own Node_ok rfl) viewL_nil))))) (by simp)))
  | cons x_0 rest0 =>
    obtain ⟨hb, hx0, hd0, hk0, hw0⟩ := range_cons (C := Node.cells) hl0 hm0
    refine Ok_runB env [] rfl ?_
    refine Ok_cond_t hb ?_
    refine Ok_runB env [] rfl ?_
    refine Ok_ix env rfl rfl rfl rfl (m := j0) rfl (range_at hx0 (Node.cells_eq x_0)) ?_
    refine Ok_runB env [] rfl ?_
    obtain ⟨x2, hx, h⟩ := bind_some h
    refine Ok_call (H_F_path_copied _ _ hx) ?_
    refine Ok_runB env [] rfl ?_
    obtain ⟨x3, hx, h⟩ := bind_some h
    have hp_x3 := app_pos hx (by simp)
    refine Ok_appO env hx rfl (show _ = AV.sl _ _ (List.map Node.cells [x2]) from (by simp only [List.map_cons, List.map_nil, Node.cells_eq]; rfl)) (by simp) Node.cells_len rfl rfl rfl rfl rfl (by decide) rfl rfl rfl ?_
    refine Ok_runB env [] rfl ?_
    exact Ok_again_to (by kernel_rfl) (less_at (by simp only [hw0]; simp [leFT, leV, leOs, leO, leC, rho, AV.ren, AV.ren1, AV.ren0, AV.un, AV.un1, AV.un0, AV.closed, wkS] <;> (repeat' apply And.intro) <;> first | rfl | exact fun x a _ h => (Node_ok.all a x h).2) (by simp [leFT, leV, leOs, leO, leC, rho, AV.ren, AV.ren1, AV.ren0, AV.un, AV.un1, AV.un0, AV.closed, wkS] <;> (repeat' apply And.intro) <;> first | rfl | exact fun x a _ h => (Node_ok.all a x h).2)) (H_F_path_copied_l0 _ _ _ _ _ _ h l0 (j0 + 1) hd0 hk0 hm0)
/-- treemerge/path.copied -/
theorem H_F_path_copied (a0 : Node) (r : Node) (h : F_path_copied a0 = some r) : M_F_path_copied a0 r :=
  (F_path_copied.mutual_partial_correctness (fun a0 r => M_F_path_copied a0 r) (fun rest0 o2_0 o2_1 o2_2 o2_3 r => M_F_path_copied_l0 rest0 o2_0 o2_1 o2_2 o2_3 r) (fun F0 h0 => S_F_path_copied F0 h0) (fun F0 F1 h0 h1 => S_F_path_copied_l0 F0 F1 h0 h1)).1 a0 r h
/-- treemerge/path.copied -/
theorem H_F_path_copied_l0 (rest0 : (List Node)) (o2_0 : Int) (o2_1 : ByteArray) (o2_2 : (List ByteArray)) (o2_3 : (List Node)) (r : Node) (h : F_path_copied_l0 rest0 o2_0 o2_1 o2_2 o2_3 = some r) : M_F_path_copied_l0 rest0 o2_0 o2_1 o2_2 o2_3 r :=
  (F_path_copied.mutual_partial_correctness (fun a0 r => M_F_path_copied a0 r) (fun rest0 o2_0 o2_1 o2_2 o2_3 r => M_F_path_copied_l0 rest0 o2_0 o2_1 o2_2 o2_3 r) (fun F0 h0 => S_F_path_copied F0 h0) (fun F0 F1 h0 h1 => S_F_path_copied_l0 F0 F1 h0 h1)).2 rest0 o2_0 o2_1 o2_2 o2_3 r h
def F_path_Get (a0 : Node) (a1 : (List Int)) : Option (Node × Int) :=
  F_path_get a0 a1 >>= fun x1 =>
  if (!x1.2) = true then
    some ((Node.mk 0 (⟨#[]⟩) ([] : (List ByteArray)) ([] : (List Node))), (5 : Int))
  else
    F_path_copied x1.1 >>= fun x2 =>
    some (x2, (0 : Int))
@[reducible] def M_F_path_Get (a0 : Node) (a1 : (List Int)) (r : Node × Int) : Prop :=
  Fn Tryd.prog G 22 [(.agg (cellsN a0)), (.sl 1 false (a1.map ic))] (.tup [(.agg (cellsN r.1)), (.int .i64 r.2)])
theorem E_F_path_Get (a0 : Node) (a1 : (List Int)) : F_path_Get a0 a1 = (
    F_path_get a0 a1 >>= fun x1 =>
    if (!x1.2) = true then
      some ((Node.mk 0 (⟨#[]⟩) ([] : (List ByteArray)) ([] : (List Node))), (5 : Int))
    else
      F_path_copied x1.1 >>= fun x2 =>
      some (x2, (0 : Int))
    : Option (Node × Int)) := F_path_Get.eq_def a0 a1
set_option maxHeartbeats 4000000 in
theorem S_F_path_Get  (a0 : Node) (a1 : (List Int)) (r : Node × Int) (h : (
    F_path_get a0 a1 >>= fun x1 =>
    if (!x1.2) = true then
      some ((Node.mk 0 (⟨#[]⟩) ([] : (List ByteArray)) ([] : (List Node))), (5 : Int))
    else
      F_path_copied x1.1 >>= fun x2 =>
      some (x2, (0 : Int))
    : Option (Node × Int)) = some r) : M_F_path_Get a0 a1 r := by
  refine Fn_run (T := tt) (N := 18) (rs := [.cell 4 25, .tmp 5]) (fun vs w => by simp) Tryd.func22 rfl rfl rfl rfl (by kernel_rfl) (all_pure3 rfl) (closed3_pure _ rfl) ?_
  refine Ok_runB env [] rfl ?_
  obtain ⟨x1, hx, h⟩ := bind_some h
  refine Ok_call (H_F_path_get _ _ _ hx) ?_
  refine Ok_runB env [] rfl ?_
  refine Ok_cond (fun hb => ?_) (fun hb => ?_)
  · replace h := ite_t hb h
    refine Ok_runB env [] rfl ?_
    cases h
    exact Ok_fin env rfl rfl (told_view (viewT_tup (viewLs_cons (view_agg (viewL_cons (view1_int rfl) (viewL_cons (view1_str rfl) (viewL_cons (view1_sl (.inr rfl)) (viewL_cons (view1_sl (.inr rfl)) viewL_nil))))) (viewLs_cons (view_one (view1_int rfl) (by simp)) viewLs_nil))))
  · replace h := ite_f hb h
    refine Ok_runB env [] rfl ?_
    obtain ⟨x2, hx, h⟩ := bind_some h
    refine Ok_call (H_F_path_copied _ _ hx) ?_
    refine Ok_runB env [] rfl ?_
    cases h
    exact Ok_fin env rfl rfl (told_eq rfl)
/-- treemerge/path.Get -/
theorem H_F_path_Get (a0 : Node) (a1 : (List Int)) (r : Node × Int) (h : F_path_Get a0 a1 = some r) : M_F_path_Get a0 a1 r :=
  S_F_path_Get a0 a1 r (by rw [E_F_path_Get] at h; exact h)
def F_path_checked (a0 : Node) : Option (Node × Int) :=
  F_grammar_Check a0 >>= fun x1 =>
  if (!decide (x1 = (0 : Int))) = true then
    some ((Node.mk 0 (⟨#[]⟩) ([] : (List ByteArray)) ([] : (List Node))), (7 : Int))
  else
    F_path_copied a0 >>= fun x2 =>
    some (x2, (0 : Int))
@[reducible] def M_F_path_checked (a0 : Node) (r : Node × Int) : Prop :=
  Fn Tryd.prog G 57 [(.agg (cellsN a0))] (.tup [(.agg (cellsN r.1)), (.int .i64 r.2)])
theorem E_F_path_checked (a0 : Node) : F_path_checked a0 = (
    F_grammar_Check a0 >>= fun x1 =>
    if (!decide (x1 = (0 : Int))) = true then
      some ((Node.mk 0 (⟨#[]⟩) ([] : (List ByteArray)) ([] : (List Node))), (7 : Int))
    else
      F_path_copied a0 >>= fun x2 =>
      some (x2, (0 : Int))
    : Option (Node × Int)) := F_path_checked.eq_def a0
set_option maxHeartbeats 4000000 in
theorem S_F_path_checked  (a0 : Node) (r : Node × Int) (h : (
    F_grammar_Check a0 >>= fun x1 =>
    if (!decide (x1 = (0 : Int))) = true then
      some ((Node.mk 0 (⟨#[]⟩) ([] : (List ByteArray)) ([] : (List Node))), (7 : Int))
    else
      F_path_copied a0 >>= fun x2 =>
      some (x2, (0 : Int))
    : Option (Node × Int)) = some r) : M_F_path_checked a0 r := by
  refine Fn_run (T := tt) (N := 10) (rs := [.cell 2 25, .tmp 3]) (fun vs w => by simp) Tryd.func57 rfl rfl rfl rfl (by kernel_rfl) (all_pure3 rfl) (closed3_pure _ rfl) ?_
  refine Ok_runB env [] rfl ?_
  obtain ⟨x1, hx, h⟩ := bind_some h
  refine Ok_call (H_F_grammar_Check _ _ hx) ?_
  refine Ok_runB env [] rfl ?_
  refine Ok_cond (fun hb => ?_) (fun hb => ?_)
  · replace h := ite_t hb h
    refine Ok_runB env [] rfl ?_
    cases h
    exact Ok_fin env rfl rfl (told_view (viewT_tup (viewLs_cons (view_agg (viewL_cons (view1_int rfl) (viewL_cons (view1_str rfl) (viewL_cons (view1_sl (.inr rfl)) (viewL_cons (view1_sl (.inr rfl)) viewL_nil))))) (viewLs_cons (view_one (view1_int rfl) (by simp)) viewLs_nil))))
  · replace h := ite_f hb h
    refine Ok_runB env [] rfl ?_
    obtain ⟨x2, hx, h⟩ := bind_some h
    refine Ok_call (H_F_path_copied _ _ hx) ?_
    refine Ok_runB env [] rfl ?_
    cases h
    exact Ok_fin env rfl rfl (told_eq rfl)
/-- treemerge/path.checked -/
theorem H_F_path_checked (a0 : Node) (r : Node × Int) (h : F_path_checked a0 = some r) : M_F_path_checked a0 r :=
  S_F_path_checked a0 r (by rw [E_F_path_checked] at h; exact h)
def F_path_Replace_1 (a0 : (List Node)) (c0 : Int) (c1 : Node) : Option ((List Node)) :=
  lsub a0 (0 : Int) c0 >>= fun x1 =>
  app 72 x1 ([c1]) >>= fun x2 =>
  lsub a0 (IntKind.i64.wrap (c0 + (1 : Int))) ((a0.map Node.cells).length : Int) >>= fun x3 =>
  app 72 x2 x3 >>= fun x4 =>
  some x4
@[reducible] def M_F_path_Replace_1 (a0 : (List Node)) (c0 : Int) (c1 : Node) (r : (List Node)) : Prop :=
  Fn Tryd.prog G 60 [(.sl 4 false (a0.map Node.cells)), (.rptr (ic c0)), (.rptr (cellsN c1))] (.sl 4 false (r.map Node.cells))
theorem E_F_path_Replace_1 (a0 : (List Node)) (c0 : Int) (c1 : Node) : F_path_Replace_1 a0 c0 c1 = (
    lsub a0 (0 : Int) c0 >>= fun x1 =>
    app 72 x1 ([c1]) >>= fun x2 =>
    lsub a0 (IntKind.i64.wrap (c0 + (1 : Int))) ((a0.map Node.cells).length : Int) >>= fun x3 =>
    app 72 x2 x3 >>= fun x4 =>
    some x4
    : Option ((List Node))) := F_path_Replace_1.eq_def a0 c0 c1
set_option maxHeartbeats 4000000 in
theorem S_F_path_Replace_1  (a0 : (List Node)) (c0 : Int) (c1 : Node) (r : (List Node)) (h : (
    lsub a0 (0 : Int) c0 >>= fun x1 =>
    app 72 x1 ([c1]) >>= fun x2 =>
    lsub a0 (IntKind.i64.wrap (c0 + (1 : Int))) ((a0.map Node.cells).length : Int) >>= fun x3 =>
    app 72 x2 x3 >>= fun x4 =>
    some x4
    : Option ((List Node))) = some r) : M_F_path_Replace_1 a0 c0 c1 r := by
  refine Fn_run (T := tt) (N := 17) (rs := [.tmp 4]) (fun vs w => by simp) Tryd.func60 rfl rfl rfl rfl (by kernel_rfl) (all_pure3 rfl) (closed3_pure _ rfl) ?_
  refine Ok_runB env [] rfl ?_
  obtain ⟨x1, hx, h⟩ := bind_some h
  refine Ok_lsub3T env hx rfl rfl rfl rfl rfl rfl ?_
  refine Ok_runB env [] rfl ?_
  obtain ⟨x2, hx, h⟩ := bind_some h
  have hp_x2 := app_pos hx (by simp)
  refine Ok_appN env hx rfl (.inl rfl) (show _ = AV.sl _ _ (List.map Node.cells [c1]) from (by simp only [List.map_cons, List.map_nil, Node.cells_eq]; rfl)) (by simp) rfl rfl rfl rfl rfl (by decide) rfl rfl ?_
  refine Ok_runB env [] rfl ?_
  obtain ⟨x3, hx, h⟩ := bind_some h
  refine Ok_lsubT env hx rfl rfl rfl rfl rfl ?_
  refine Ok_runB env [] rfl ?_
  obtain ⟨x4, hx, h⟩ := bind_some h
  refine Ok_appL env hx rfl hp_x2 rfl (.inl rfl) Node.cells_len rfl rfl rfl rfl rfl (by decide) rfl rfl rfl ?_
  refine Ok_runB env [] rfl ?_
  cases h
  exact Ok_fin env rfl rfl (told_view (viewT_one (view_one (view_own Node_ok rfl) (by simp)) (by simp)))
/-- treemerge/path.Replace$1 -/
theorem H_F_path_Replace_1 (a0 : (List Node)) (c0 : Int) (c1 : Node) (r : (List Node)) (h : F_path_Replace_1 a0 c0 c1 = some r) : M_F_path_Replace_1 a0 c0 c1 r :=
  S_F_path_Replace_1 a0 c0 c1 r (by rw [E_F_path_Replace_1] at h; exact h)
def F_path_changed_path_Replace_1_t51 (o0 : Node) : Option (Node) :=
  some o0
@[reducible] def M_F_path_changed_path_Replace_1_t51 (o0 : Node) (r : Node) : Prop :=
  Ok Tryd.prog G tt 54 0 (Ret Tryd.prog [.cell 6 25] (fun y H => Told Tryd.prog G H y (.agg (cellsN r)))) (.go [] (testOf [51] Tryd.f59 51) [] (.n .undef (.n .undef (.n (.ptr 0 0 0) .z .z) .z) (.n .undef .z (.n (.ptr 1 1 0) .z .z))) 2 [(0, .var 25 (cellsN o0)), (1, .var 25 [(.int .i64 0), (.str ⟨#[]⟩), (.sl 1 false (([] : (List ByteArray)).map sc)), (.sl 4 false (([] : (List Node)).map Node.cells))])])
theorem E_F_path_changed_path_Replace_1_t51 (o0 : Node) : F_path_changed_path_Replace_1_t51 o0 = (
    some o0
    : Option (Node)) := F_path_changed_path_Replace_1_t51.eq_def o0
set_option maxHeartbeats 4000000 in
theorem S_F_path_changed_path_Replace_1_t51  (o0 : Node) (r : Node) (h : (
    some o0
    : Option (Node)) = some r) : M_F_path_changed_path_Replace_1_t51 o0 r := by
  refine Ok_runB env [51] rfl ?_
  cases h
  exact Ok_fin env rfl rfl (told_eq rfl)
/-- treemerge/path.changed_path_Replace_1 -/
theorem H_F_path_changed_path_Replace_1_t51 (o0 : Node) (r : Node) (h : F_path_changed_path_Replace_1_t51 o0 = some r) : M_F_path_changed_path_Replace_1_t51 o0 r :=
  S_F_path_changed_path_Replace_1_t51 o0 r (by rw [E_F_path_changed_path_Replace_1_t51] at h; exact h)
def F_path_changed_path_Replace_1 (a0 : Node) (a1 : (List Int)) (a2_0 : Int) (a2_1 : Node) : Option (Node) :=
  if (decide ((0 : Int) < ((a1.map ic).length : Int))) = true then
    ix a1 (0 : Int) >>= fun x1 =>
    lsub a0.kids (0 : Int) x1 >>= fun x2 =>
    ix a0.kids x1 >>= fun x3 =>
    lsub a1 (1 : Int) ((a1.map ic).length : Int) >>= fun x4 =>
    F_path_changed_path_Replace_1 (nofix x3) (nofix x4) (nofix a2_0) (nofix a2_1) >>= fun x5 =>
    app 72 x2 ([x5]) >>= fun x6 =>
    lsub a0.kids (IntKind.i64.wrap (x1 + (1 : Int))) ((a0.kids.map Node.cells).length : Int) >>= fun x7 =>
    app 72 x6 x7 >>= fun x8 =>
    some (Node.mk a0.kind a0.text a0.gaps x8)
  else
    F_grammar_Own (nofix a0) >>= fun x9 =>
    F_path_Replace_1 a0.kids (nofix a2_0) (nofix a2_1) >>= fun x10 =>
    F_grammar_Own (Node.mk a0.kind a0.text a0.gaps x10) >>= fun x11 =>
    if (!decide (x11 = x9)) = true then
      F_path_changed_path_Replace_1_t51 (Node.mk a0.kind a0.text ([] : (List ByteArray)) x10)
    else
      F_path_changed_path_Replace_1_t51 (Node.mk a0.kind a0.text a0.gaps x10)
  partial_fixpoint
@[reducible] def M_F_path_changed_path_Replace_1 (a0 : Node) (a1 : (List Int)) (a2_0 : Int) (a2_1 : Node) (r : Node) : Prop :=
  Fn Tryd.prog G 59 [(.agg (cellsN a0)), (.sl 1 false (a1.map ic)), (.fn 60 [(.rptr (ic a2_0)), (.rptr (cellsN a2_1))])] (.agg (cellsN r))
theorem E_F_path_changed_path_Replace_1 (a0 : Node) (a1 : (List Int)) (a2_0 : Int) (a2_1 : Node) : F_path_changed_path_Replace_1 a0 a1 a2_0 a2_1 = (
    if (decide ((0 : Int) < ((a1.map ic).length : Int))) = true then
      ix a1 (0 : Int) >>= fun x1 =>
      lsub a0.kids (0 : Int) x1 >>= fun x2 =>
      ix a0.kids x1 >>= fun x3 =>
      lsub a1 (1 : Int) ((a1.map ic).length : Int) >>= fun x4 =>
      F_path_changed_path_Replace_1 x3 x4 a2_0 a2_1 >>= fun x5 =>
      app 72 x2 ([x5]) >>= fun x6 =>
      lsub a0.kids (IntKind.i64.wrap (x1 + (1 : Int))) ((a0.kids.map Node.cells).length : Int) >>= fun x7 =>
      app 72 x6 x7 >>= fun x8 =>
      some (Node.mk a0.kind a0.text a0.gaps x8)
    else
      F_grammar_Own a0 >>= fun x9 =>
      F_path_Replace_1 a0.kids a2_0 a2_1 >>= fun x10 =>
      F_grammar_Own (Node.mk a0.kind a0.text a0.gaps x10) >>= fun x11 =>
      if (!decide (x11 = x9)) = true then
        F_path_changed_path_Replace_1_t51 (Node.mk a0.kind a0.text ([] : (List ByteArray)) x10)
      else
        F_path_changed_path_Replace_1_t51 (Node.mk a0.kind a0.text a0.gaps x10)
    : Option (Node)) := F_path_changed_path_Replace_1.eq_def a0 a1 a2_0 a2_1
set_option maxHeartbeats 4000000 in
theorem S_F_path_changed_path_Replace_1 (F_path_changed_path_Replace_1 : Node → (List Int) → Int → Node → Option (Node)) (H_F_path_changed_path_Replace_1 : ∀ (a0 : Node) (a1 : (List Int)) (a2_0 : Int) (a2_1 : Node) (r : Node), F_path_changed_path_Replace_1 a0 a1 a2_0 a2_1 = some r → M_F_path_changed_path_Replace_1 a0 a1 a2_0 a2_1 r) (a0 : Node) (a1 : (List Int)) (a2_0 : Int) (a2_1 : Node) (r : Node) (h : (
    if (decide ((0 : Int) < ((a1.map ic).length : Int))) = true then
      ix a1 (0 : Int) >>= fun x1 =>
      lsub a0.kids (0 : Int) x1 >>= fun x2 =>
      ix a0.kids x1 >>= fun x3 =>
      lsub a1 (1 : Int) ((a1.map ic).length : Int) >>= fun x4 =>
      F_path_changed_path_Replace_1 x3 x4 a2_0 a2_1 >>= fun x5 =>
      app 72 x2 ([x5]) >>= fun x6 =>
      lsub a0.kids (IntKind.i64.wrap (x1 + (1 : Int))) ((a0.kids.map Node.cells).length : Int) >>= fun x7 =>
      app 72 x6 x7 >>= fun x8 =>
      some (Node.mk a0.kind a0.text a0.gaps x8)
    else
      F_grammar_Own a0 >>= fun x9 =>
      F_path_Replace_1 a0.kids a2_0 a2_1 >>= fun x10 =>
      F_grammar_Own (Node.mk a0.kind a0.text a0.gaps x10) >>= fun x11 =>
      if (!decide (x11 = x9)) = true then
        F_path_changed_path_Replace_1_t51 (Node.mk a0.kind a0.text ([] : (List ByteArray)) x10)
      else
        F_path_changed_path_Replace_1_t51 (Node.mk a0.kind a0.text a0.gaps x10)
    : Option (Node)) = some r) : M_F_path_changed_path_Replace_1 a0 a1 a2_0 a2_1 r := by
  refine Fn_run (T := tt) (N := 54) (rs := [.cell 6 25]) (fun vs w => by simp) Tryd.func59 rfl rfl rfl rfl (by kernel_rfl) (all_pure3 rfl) (closed3_pure _ rfl) ?_
  refine Ok_runB env [51] rfl ?_
  refine Ok_cond (fun hb => ?_) (fun hb => ?_)
  · replace h := ite_t hb h
    refine Ok_runB env [51] rfl ?_
    obtain ⟨x1, hx, h⟩ := bind_some h
    refine Ok_ixT env hx rfl rfl rfl rfl rfl ?_
    refine Ok_runB env [51] rfl ?_
    obtain ⟨x2, hx, h⟩ := bind_some h
    refine Ok_lsub3T env hx rfl rfl rfl rfl rfl rfl ?_
    refine Ok_runB env [51] rfl ?_
    obtain ⟨x3, hx, h⟩ := bind_some h
    refine Ok_ixT env hx rfl rfl rfl rfl (Node.cells_eq x3) ?_
    refine Ok_runB env [51] rfl ?_
    obtain ⟨x4, hx, h⟩ := bind_some h
    refine Ok_lsubT env hx rfl rfl rfl rfl rfl ?_
    refine Ok_runB env [51] rfl ?_
    obtain ⟨x5, hx, h⟩ := bind_some h
    refine Ok_call (H_F_path_changed_path_Replace_1 _ _ _ _ _ hx) ?_
    refine Ok_runB env [51] rfl ?_
    obtain ⟨x6, hx, h⟩ := bind_some h
    have hp_x6 := app_pos hx (by simp)
    refine Ok_appN env hx rfl (.inl rfl) (show _ = AV.sl _ _ (List.map Node.cells [x5]) from (by simp only [List.map_cons, List.map_nil, Node.cells_eq]; rfl)) (by simp) rfl rfl rfl rfl rfl (by decide) rfl rfl ?_
    refine Ok_runB env [51] rfl ?_
    obtain ⟨x7, hx, h⟩ := bind_some h
    refine Ok_lsubT env hx rfl rfl rfl rfl rfl ?_
    refine Ok_runB env [51] rfl ?_
    obtain ⟨x8, hx, h⟩ := bind_some h
    refine Ok_appL env hx rfl hp_x6 rfl (.inl rfl) Node.cells_len rfl rfl rfl rfl rfl (by decide) rfl rfl rfl ?_
    refine Ok_runB env [51] rfl ?_
    cases h
    exact Ok_fin env rfl rfl (told_view (viewT_one (view_agg (viewL_cons (view1_int rfl) (viewL_cons (view1_str rfl) (viewL_cons (view1_sl (.inl rfl)) (viewL_cons (view_own Node_ok rfl) viewL_nil))))) (by simp)))
  · replace h := ite_f hb h
    refine Ok_runB env [51] rfl ?_
    obtain ⟨x9, hx, h⟩ := bind_some h
    refine Ok_call (H_F_grammar_Own _ _ hx) ?_
    refine Ok_runB env [51] rfl ?_
    obtain ⟨x10, hx, h⟩ := bind_some h
    refine Ok_call (H_F_path_Replace_1 _ _ _ _ hx) ?_
    refine Ok_runB env [51] rfl ?_
    obtain ⟨x11, hx, h⟩ := bind_some h
    refine Ok_call (H_F_grammar_Own _ _ hx) ?_
    refine Ok_runB env [51] rfl ?_
    refine Ok_cond (fun hb => ?_) (fun hb => ?_)
    · replace h := ite_t hb h
      refine Ok_runB env [51] rfl ?_
      exact Ok_bar_to (by kernel_rfl) rfl (less_at (by simp [leFT, leV, leOs, leO, leC, rho, AV.ren, AV.ren1, AV.ren0, AV.un, AV.un1, AV.un0, AV.closed, wkS] <;> (repeat' apply And.intro) <;> first | rfl) (by simp [leFT, leV, leOs, leO, leC, rho, AV.ren, AV.ren1, AV.ren0, AV.un, AV.un1, AV.un0, AV.closed, wkS] <;> (repeat' apply And.intro) <;> first | rfl)) (H_F_path_changed_path_Replace_1_t51 _ _ h)
    · replace h := ite_f hb h
      refine Ok_runB env [51] rfl ?_
      exact Ok_bar_to (by kernel_rfl) rfl (less_at (by simp [leFT, leV, leOs, leO, leC, rho, AV.ren, AV.ren1, AV.ren0, AV.un, AV.un1, AV.un0, AV.closed, wkS] <;> (repeat' apply And.intro) <;> first | rfl) (by simp [leFT, leV, leOs, leO, leC, rho, AV.ren, AV.ren1, AV.ren0, AV.un, AV.un1, AV.un0, AV.closed, wkS] <;> (repeat' apply And.intro) <;> first | rfl)) (H_F_path_changed_path_Replace_1_t51 _ _ h)
/-- treemerge/path.changed_path_Replace_1 -/
theorem H_F_path_changed_path_Replace_1 (a0 : Node) (a1 : (List Int)) (a2_0 : Int) (a2_1 : Node) (r : Node) (h : F_path_changed_path_Replace_1 a0 a1 a2_0 a2_1 = some r) : M_F_path_changed_path_Replace_1 a0 a1 a2_0 a2_1 r :=
  F_path_changed_path_Replace_1.partial_correctness (fun a0 a1 a2_0 a2_1 r => M_F_path_changed_path_Replace_1 a0 a1 a2_0 a2_1 r) (fun F0 h0 => S_F_path_changed_path_Replace_1 F0 h0) a0 a1 a2_0 a2_1 r h
def F_path_Replace (a0 : Node) (a1 : (List Int)) (a2 : Node) : Option (Node × Int) :=
  F_path_get a0 a1 >>= fun x1 =>
  if (!x1.2) = true then
    some ((Node.mk 0 (⟨#[]⟩) ([] : (List ByteArray)) ([] : (List Node))), (5 : Int))
  else
    if (decide (((a1.map ic).length : Int) = (0 : Int))) = true then
      F_path_checked a2 >>= fun x2 =>
      some (x2.1, x2.2)
    else
      ix a1 (IntKind.i64.wrap (((a1.map ic).length : Int) - (1 : Int))) >>= fun x3 =>
      lsub a1 (0 : Int) (IntKind.i64.wrap (((a1.map ic).length : Int) - (1 : Int))) >>= fun x4 =>
      F_path_get a0 x4 >>= fun x5 =>
      F_grammar_Fits x5.1.kind x3 a2.kind >>= fun x6 =>
      if (!x6) = true then
        some ((Node.mk 0 (⟨#[]⟩) ([] : (List ByteArray)) ([] : (List Node))), (7 : Int))
      else
        lsub a1 (0 : Int) (IntKind.i64.wrap (((a1.map ic).length : Int) - (1 : Int))) >>= fun x7 =>
        F_path_changed_path_Replace_1 a0 x7 x3 a2 >>= fun x8 =>
        F_path_checked x8 >>= fun x9 =>
        some (x9.1, x9.2)
@[reducible] def M_F_path_Replace (a0 : Node) (a1 : (List Int)) (a2 : Node) (r : Node × Int) : Prop :=
  Fn Tryd.prog G 26 [(.agg (cellsN a0)), (.sl 1 false (a1.map ic)), (.agg (cellsN a2))] (.tup [(.agg (cellsN r.1)), (.int .i64 r.2)])
theorem E_F_path_Replace (a0 : Node) (a1 : (List Int)) (a2 : Node) : F_path_Replace a0 a1 a2 = (
    F_path_get a0 a1 >>= fun x1 =>
    if (!x1.2) = true then
      some ((Node.mk 0 (⟨#[]⟩) ([] : (List ByteArray)) ([] : (List Node))), (5 : Int))
    else
      if (decide (((a1.map ic).length : Int) = (0 : Int))) = true then
        F_path_checked a2 >>= fun x2 =>
        some (x2.1, x2.2)
      else
        ix a1 (IntKind.i64.wrap (((a1.map ic).length : Int) - (1 : Int))) >>= fun x3 =>
        lsub a1 (0 : Int) (IntKind.i64.wrap (((a1.map ic).length : Int) - (1 : Int))) >>= fun x4 =>
        F_path_get a0 x4 >>= fun x5 =>
        F_grammar_Fits x5.1.kind x3 a2.kind >>= fun x6 =>
        if (!x6) = true then
          some ((Node.mk 0 (⟨#[]⟩) ([] : (List ByteArray)) ([] : (List Node))), (7 : Int))
        else
          lsub a1 (0 : Int) (IntKind.i64.wrap (((a1.map ic).length : Int) - (1 : Int))) >>= fun x7 =>
          F_path_changed_path_Replace_1 a0 x7 x3 a2 >>= fun x8 =>
          F_path_checked x8 >>= fun x9 =>
          some (x9.1, x9.2)
    : Option (Node × Int)) := F_path_Replace.eq_def a0 a1 a2
set_option maxHeartbeats 4000000 in
theorem S_F_path_Replace  (a0 : Node) (a1 : (List Int)) (a2 : Node) (r : Node × Int) (h : (
    F_path_get a0 a1 >>= fun x1 =>
    if (!x1.2) = true then
      some ((Node.mk 0 (⟨#[]⟩) ([] : (List ByteArray)) ([] : (List Node))), (5 : Int))
    else
      if (decide (((a1.map ic).length : Int) = (0 : Int))) = true then
        F_path_checked a2 >>= fun x2 =>
        some (x2.1, x2.2)
      else
        ix a1 (IntKind.i64.wrap (((a1.map ic).length : Int) - (1 : Int))) >>= fun x3 =>
        lsub a1 (0 : Int) (IntKind.i64.wrap (((a1.map ic).length : Int) - (1 : Int))) >>= fun x4 =>
        F_path_get a0 x4 >>= fun x5 =>
        F_grammar_Fits x5.1.kind x3 a2.kind >>= fun x6 =>
        if (!x6) = true then
          some ((Node.mk 0 (⟨#[]⟩) ([] : (List ByteArray)) ([] : (List Node))), (7 : Int))
        else
          lsub a1 (0 : Int) (IntKind.i64.wrap (((a1.map ic).length : Int) - (1 : Int))) >>= fun x7 =>
          F_path_changed_path_Replace_1 a0 x7 x3 a2 >>= fun x8 =>
          F_path_checked x8 >>= fun x9 =>
          some (x9.1, x9.2)
    : Option (Node × Int)) = some r) : M_F_path_Replace a0 a1 a2 r := by
  refine Fn_run (T := tt) (N := 62) (rs := [.cell 6 25, .tmp 7]) (fun vs w => by simp) Tryd.func26 rfl rfl rfl rfl (by kernel_rfl) (all_pure3 rfl) (closed3_pure _ rfl) ?_
  refine Ok_runB env [2000009] rfl ?_
  obtain ⟨x1, hx, h⟩ := bind_some h
  refine Ok_call (H_F_path_get _ _ _ hx) ?_
  refine Ok_runB env [2000009] rfl ?_
  refine Ok_cond (fun hb => ?_) (fun hb => ?_)
  · replace h := ite_t hb h
    refine Ok_runB env [2000009] rfl ?_
    cases h
    exact Ok_fin env rfl rfl (told_view (viewT_tup (viewLs_cons (view_agg (viewL_cons (view1_int rfl) (viewL_cons (view1_str rfl) (viewL_cons (view1_sl (.inr rfl)) (viewL_cons (view1_sl (.inr rfl)) viewL_nil))))) (viewLs_cons (view_one (view1_int rfl) (by simp)) viewLs_nil))))
  · replace h := ite_f hb h
    refine Ok_runB env [2000009] rfl ?_
    refine Ok_cond (fun hb => ?_) (fun hb => ?_)
    · replace h := ite_t hb h
      refine Ok_runB env [2000009] rfl ?_
      obtain ⟨x2, hx, h⟩ := bind_some h
      refine Ok_call (H_F_path_checked _ _ hx) ?_
      refine Ok_runB env [2000009] rfl ?_
      cases h
      exact Ok_fin env rfl rfl (told_eq rfl)
    · replace h := ite_f hb h
      refine Ok_runB env [2000009] rfl ?_
      obtain ⟨x3, hx, h⟩ := bind_some h
      refine Ok_ixT env hx rfl rfl rfl rfl rfl ?_
      refine Ok_runB env [2000009] rfl ?_
      obtain ⟨x4, hx, h⟩ := bind_some h
      refine Ok_lsubT env hx rfl rfl rfl rfl rfl ?_
      refine Ok_runB env [2000009] rfl ?_
      obtain ⟨x5, hx, h⟩ := bind_some h
      refine Ok_call (H_F_path_get _ _ _ hx) ?_
      refine Ok_runB env [2000009] rfl ?_
      obtain ⟨x6, hx, h⟩ := bind_some h
      refine Ok_call (H_F_grammar_Fits _ _ _ _ hx) ?_
      refine Ok_runB env [2000009] rfl ?_
      refine Ok_freezeB [(11, (.rptr [(.int .i64 x3)])), (5, (.rptr (cellsN a2)))] [4, 1] rfl (frzL_cons rfl rfl rfl rfl (frzL_cons rfl rfl rfl rfl frzL_nil)) rfl rfl ?_
      refine Ok_bar_on ?_
      refine Ok_runB env [2000009] rfl ?_
      refine Ok_cond (fun hb => ?_) (fun hb => ?_)
      · replace h := ite_t hb h
        refine Ok_runB env [2000009] rfl ?_
        cases h
        exact Ok_fin env rfl rfl (told_view (viewT_tup (viewLs_cons (view_agg (viewL_cons (view1_int rfl) (viewL_cons (view1_str rfl) (viewL_cons (view1_sl (.inr rfl)) (viewL_cons (view1_sl (.inr rfl)) viewL_nil))))) (viewLs_cons (view_one (view1_int rfl) (by simp)) viewLs_nil))))
      · replace h := ite_f hb h
        refine Ok_runB env [2000009] rfl ?_
        obtain ⟨x7, hx, h⟩ := bind_some h
        refine Ok_lsubT env hx rfl rfl rfl rfl rfl ?_
        refine Ok_runB env [2000009] rfl ?_
        obtain ⟨x8, hx, h⟩ := bind_some h
        refine Ok_call (H_F_path_changed_path_Replace_1 _ _ _ _ _ hx) ?_
        refine Ok_runB env [2000009] rfl ?_
        obtain ⟨x9, hx, h⟩ := bind_some h
        refine Ok_call (H_F_path_checked _ _ hx) ?_
        refine Ok_runB env [2000009] rfl ?_
        cases h
        exact Ok_fin env rfl rfl (told_eq rfl)
/-- treemerge/path.Replace -/
theorem H_F_path_Replace (a0 : Node) (a1 : (List Int)) (a2 : Node) (r : Node × Int) (h : F_path_Replace a0 a1 a2 = some r) : M_F_path_Replace a0 a1 a2 r :=
  S_F_path_Replace a0 a1 a2 r (by rw [E_F_path_Replace] at h; exact h)
def F_path_Insert_1 (a0 : (List Node)) (c0 : Int) (c1 : Node) : Option ((List Node)) :=
  lsub a0 (0 : Int) c0 >>= fun x1 =>
  app 72 x1 ([c1]) >>= fun x2 =>
  lsub a0 c0 ((a0.map Node.cells).length : Int) >>= fun x3 =>
  app 72 x2 x3 >>= fun x4 =>
  some x4
@[reducible] def M_F_path_Insert_1 (a0 : (List Node)) (c0 : Int) (c1 : Node) (r : (List Node)) : Prop :=
  Fn Tryd.prog G 64 [(.sl 4 false (a0.map Node.cells)), (.rptr (ic c0)), (.rptr (cellsN c1))] (.sl 4 false (r.map Node.cells))
theorem E_F_path_Insert_1 (a0 : (List Node)) (c0 : Int) (c1 : Node) : F_path_Insert_1 a0 c0 c1 = (
    lsub a0 (0 : Int) c0 >>= fun x1 =>
    app 72 x1 ([c1]) >>= fun x2 =>
    lsub a0 c0 ((a0.map Node.cells).length : Int) >>= fun x3 =>
    app 72 x2 x3 >>= fun x4 =>
    some x4
    : Option ((List Node))) := F_path_Insert_1.eq_def a0 c0 c1
set_option maxHeartbeats 4000000 in
theorem S_F_path_Insert_1  (a0 : (List Node)) (c0 : Int) (c1 : Node) (r : (List Node)) (h : (
    lsub a0 (0 : Int) c0 >>= fun x1 =>
    app 72 x1 ([c1]) >>= fun x2 =>
    lsub a0 c0 ((a0.map Node.cells).length : Int) >>= fun x3 =>
    app 72 x2 x3 >>= fun x4 =>
    some x4
    : Option ((List Node))) = some r) : M_F_path_Insert_1 a0 c0 c1 r := by
  refine Fn_run (T := tt) (N := 16) (rs := [.tmp 4]) (fun vs w => by simp) Tryd.func64 rfl rfl rfl rfl (by kernel_rfl) (all_pure3 rfl) (closed3_pure _ rfl) ?_
  refine Ok_runB env [] rfl ?_
  obtain ⟨x1, hx, h⟩ := bind_some h
  refine Ok_lsub3T env hx rfl rfl rfl rfl rfl rfl ?_
  refine Ok_runB env [] rfl ?_
  obtain ⟨x2, hx, h⟩ := bind_some h
  have hp_x2 := app_pos hx (by simp)
  refine Ok_appN env hx rfl (.inl rfl) (show _ = AV.sl _ _ (List.map Node.cells [c1]) from (by simp only [List.map_cons, List.map_nil, Node.cells_eq]; rfl)) (by simp) rfl rfl rfl rfl rfl (by decide) rfl rfl ?_
  refine Ok_runB env [] rfl ?_
  obtain ⟨x3, hx, h⟩ := bind_some h
  refine Ok_lsubT env hx rfl rfl rfl rfl rfl ?_
  refine Ok_runB env [] rfl ?_
  obtain ⟨x4, hx, h⟩ := bind_some h
  refine Ok_appL env hx rfl hp_x2 rfl (.inl rfl) Node.cells_len rfl rfl rfl rfl rfl (by decide) rfl rfl rfl ?_
  refine Ok_runB env [] rfl ?_
  cases h
  exact Ok_fin env rfl rfl (told_view (viewT_one (view_one (view_own Node_ok rfl) (by simp)) (by simp)))
/-- treemerge/path.Insert$1 -/
theorem H_F_path_Insert_1 (a0 : (List Node)) (c0 : Int) (c1 : Node) (r : (List Node)) (h : F_path_Insert_1 a0 c0 c1 = some r) : M_F_path_Insert_1 a0 c0 c1 r :=
  S_F_path_Insert_1 a0 c0 c1 r (by rw [E_F_path_Insert_1] at h; exact h)
end Go.Proofs.YtimdjillcaichaaDoorW.Ex.Gr
