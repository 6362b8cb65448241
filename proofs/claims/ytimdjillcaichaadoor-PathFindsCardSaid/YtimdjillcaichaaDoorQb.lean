/- The program's functions, printed as functions on numbers, strings, lists and trees, with the proofs that they are what the code computes. Conditions: those in each theorem. -/
import Derived.Test.YtimdjillcaichaaDoorQa
namespace Go.Proofs.YtimdjillcaichaaDoorW.Ex.Gr
open Go Go.Proofs.YtimdjillcaichaaDoorW.Ex
set_option linter.all false
set_option maxRecDepth 100000
def F_path_changed_path_Insert_1_t51 (o0 : Node) : Option (Node) :=
  some o0
@[reducible] def M_F_path_changed_path_Insert_1_t51 (o0 : Node) (r : Node) : Prop :=
  Ok Tryd.prog G tt 54 0 (Ret Tryd.prog [.cell 6 25] (fun y H => Told Tryd.prog G H y (.agg (cellsN r)))) (.go [] (testOf [51] Tryd.f59 51) [] (.n .undef (.n .undef (.n (.ptr 0 0 0) .z .z) .z) (.n .undef .z (.n (.ptr 1 1 0) .z .z))) 2 [(0, .var 25 (cellsN o0)), (1, .var 25 [(.int .i64 0), (.str ⟨#[]⟩), (.sl 1 false (([] : (List ByteArray)).map sc)), (.sl 4 false (([] : (List Node)).map Node.cells))])])
theorem E_F_path_changed_path_Insert_1_t51 (o0 : Node) : F_path_changed_path_Insert_1_t51 o0 = (
    some o0
    : Option (Node)) := F_path_changed_path_Insert_1_t51.eq_def o0
set_option maxHeartbeats 4000000 in
theorem S_F_path_changed_path_Insert_1_t51  (o0 : Node) (r : Node) (h : (
    some o0
    : Option (Node)) = some r) : M_F_path_changed_path_Insert_1_t51 o0 r := by
  refine Ok_runB env [51] rfl ?_
  cases h
  exact Ok_fin env rfl rfl (told_eq rfl)
/-- treemerge/path.changed_path_Insert_1 -/
theorem H_F_path_changed_path_Insert_1_t51 (o0 : Node) (r : Node) (h : F_path_changed_path_Insert_1_t51 o0 = some r) : M_F_path_changed_path_Insert_1_t51 o0 r :=
  S_F_path_changed_path_Insert_1_t51 o0 r (by rw [E_F_path_changed_path_Insert_1_t51] at h; exact h)
def F_path_changed_path_Insert_1 (a0 : Node) (a1 : (List Int)) (a2_0 : Int) (a2_1 : Node) : Option (Node) :=
  if (decide ((0 : Int) < ((a1.map ic).length : Int))) = true then
    ix a1 (0 : Int) >>= fun x1 =>
    lsub a0.kids (0 : Int) x1 >>= fun x2 =>
    ix a0.kids x1 >>= fun x3 =>
    lsub a1 (1 : Int) ((a1.map ic).length : Int) >>= fun x4 =>
    F_path_changed_path_Insert_1 (nofix x3) (nofix x4) (nofix a2_0) (nofix a2_1) >>= fun x5 =>
    app 72 x2 ([x5]) >>= fun x6 =>
    lsub a0.kids (IntKind.i64.wrap (x1 + (1 : Int))) ((a0.kids.map Node.cells).length : Int) >>= fun x7 =>
    app 72 x6 x7 >>= fun x8 =>
    some (Node.mk a0.kind a0.text a0.gaps x8)
  else
    F_grammar_Own (nofix a0) >>= fun x9 =>
    F_path_Insert_1 a0.kids (nofix a2_0) (nofix a2_1) >>= fun x10 =>
    F_grammar_Own (Node.mk a0.kind a0.text a0.gaps x10) >>= fun x11 =>
    if (!decide (x11 = x9)) = true then
      F_path_changed_path_Insert_1_t51 (Node.mk a0.kind a0.text ([] : (List ByteArray)) x10)
    else
      F_path_changed_path_Insert_1_t51 (Node.mk a0.kind a0.text a0.gaps x10)
  partial_fixpoint
@[reducible] def M_F_path_changed_path_Insert_1 (a0 : Node) (a1 : (List Int)) (a2_0 : Int) (a2_1 : Node) (r : Node) : Prop :=
  Fn Tryd.prog G 59 [(.agg (cellsN a0)), (.sl 1 false (a1.map ic)), (.fn 64 [(.rptr (ic a2_0)), (.rptr (cellsN a2_1))])] (.agg (cellsN r))
theorem E_F_path_changed_path_Insert_1 (a0 : Node) (a1 : (List Int)) (a2_0 : Int) (a2_1 : Node) : F_path_changed_path_Insert_1 a0 a1 a2_0 a2_1 = (
    if (decide ((0 : Int) < ((a1.map ic).length : Int))) = true then
      ix a1 (0 : Int) >>= fun x1 =>
      lsub a0.kids (0 : Int) x1 >>= fun x2 =>
      ix a0.kids x1 >>= fun x3 =>
      lsub a1 (1 : Int) ((a1.map ic).length : Int) >>= fun x4 =>
      F_path_changed_path_Insert_1 x3 x4 a2_0 a2_1 >>= fun x5 =>
      app 72 x2 ([x5]) >>= fun x6 =>
      lsub a0.kids (IntKind.i64.wrap (x1 + (1 : Int))) ((a0.kids.map Node.cells).length : Int) >>= fun x7 =>
      app 72 x6 x7 >>= fun x8 =>
      some (Node.mk a0.kind a0.text a0.gaps x8)
    else
      F_grammar_Own a0 >>= fun x9 =>
      F_path_Insert_1 a0.kids a2_0 a2_1 >>= fun x10 =>
      F_grammar_Own (Node.mk a0.kind a0.text a0.gaps x10) >>= fun x11 =>
      if (!decide (x11 = x9)) = true then
        F_path_changed_path_Insert_1_t51 (Node.mk a0.kind a0.text ([] : (List ByteArray)) x10)
      else
        F_path_changed_path_Insert_1_t51 (Node.mk a0.kind a0.text a0.gaps x10)
    : Option (Node)) := F_path_changed_path_Insert_1.eq_def a0 a1 a2_0 a2_1
set_option maxHeartbeats 4000000 in
theorem S_F_path_changed_path_Insert_1 (F_path_changed_path_Insert_1 : Node → (List Int) → Int → Node → Option (Node)) (H_F_path_changed_path_Insert_1 : ∀ (a0 : Node) (a1 : (List Int)) (a2_0 : Int) (a2_1 : Node) (r : Node), F_path_changed_path_Insert_1 a0 a1 a2_0 a2_1 = some r → M_F_path_changed_path_Insert_1 a0 a1 a2_0 a2_1 r) (a0 : Node) (a1 : (List Int)) (a2_0 : Int) (a2_1 : Node) (r : Node) (h : (
    if (decide ((0 : Int) < ((a1.map ic).length : Int))) = true then
      ix a1 (0 : Int) >>= fun x1 =>
      lsub a0.kids (0 : Int) x1 >>= fun x2 =>
      ix a0.kids x1 >>= fun x3 =>
      lsub a1 (1 : Int) ((a1.map ic).length : Int) >>= fun x4 =>
      F_path_changed_path_Insert_1 x3 x4 a2_0 a2_1 >>= fun x5 =>
      app 72 x2 ([x5]) >>= fun x6 =>
      lsub a0.kids (IntKind.i64.wrap (x1 + (1 : Int))) ((a0.kids.map Node.cells).length : Int) >>= fun x7 =>
      app 72 x6 x7 >>= fun x8 =>
      some (Node.mk a0.kind a0.text a0.gaps x8)
    else
      F_grammar_Own a0 >>= fun x9 =>
      F_path_Insert_1 a0.kids a2_0 a2_1 >>= fun x10 =>
      F_grammar_Own (Node.mk a0.kind a0.text a0.gaps x10) >>= fun x11 =>
      if (!decide (x11 = x9)) = true then
        F_path_changed_path_Insert_1_t51 (Node.mk a0.kind a0.text ([] : (List ByteArray)) x10)
      else
        F_path_changed_path_Insert_1_t51 (Node.mk a0.kind a0.text a0.gaps x10)
    : Option (Node)) = some r) : M_F_path_changed_path_Insert_1 a0 a1 a2_0 a2_1 r := by
  refine Fn_run (T := tt) (N := 54) (rs := [.cell 6 25]) (fun vs w => by simp) Tryd.func59 rfl rfl rfl rfl (by kernel_rfl) (all_pure3 rfl) (closed3_pure _ rfl) ?_
  refine Ok_runB env [51] rfl ?_
  refine Ok_cond (fun hb => ?_) (fun hb => ?_)
  · replace h := ite_t hb h
    refine Ok_runB env [51] rfl ?_
    obtain ⟨x1, hx, h⟩ := bind_some h
    refine Ok_ixT env hx rfl rfl rfl rfl rfl ?_
    refine Ok_runB env [51] rfl ?_
    obtain ⟨x2, hx, h⟩ := bind_some h
    refine Ok_lsub3T env hx rfl rfl rfl rfl rfl rfl ?_
    refine Ok_runB env [51] rfl ?_
    obtain ⟨x3, hx, h⟩ := bind_some h
    refine Ok_ixT env hx rfl rfl rfl rfl (Node.cells_eq x3) ?_
    refine Ok_runB env [51] rfl ?_
    obtain ⟨x4, hx, h⟩ := bind_some h
    refine Ok_lsubT env hx rfl rfl rfl rfl rfl ?_
    refine Ok_runB env [51] rfl ?_
    obtain ⟨x5, hx, h⟩ := bind_some h
    refine Ok_call (H_F_path_changed_path_Insert_1 _ _ _ _ _ hx) ?_
    refine Ok_runB env [51] rfl ?_
    obtain ⟨x6, hx, h⟩ := bind_some h
    have hp_x6 := app_pos hx (by simp)
    refine Ok_appN env hx rfl (.inl rfl) (show _ = AV.sl _ _ (List.map Node.cells [x5]) from (by simp only [List.map_cons, List.map_nil, Node.cells_eq]; rfl)) (by simp) rfl rfl rfl rfl rfl (by decide) rfl rfl ?_
    refine Ok_runB env [51] rfl ?_
    obtain ⟨x7, hx, h⟩ := bind_some h
    refine Ok_lsubT env hx rfl rfl rfl rfl rfl ?_
    refine Ok_runB env [51] rfl ?_
    obtain ⟨x8, hx, h⟩ := bind_some h
    refine Ok_appL env hx rfl hp_x6 rfl (.inl rfl) Node.cells_len rfl rfl rfl rfl rfl (by decide) rfl rfl rfl ?_
    refine Ok_runB env [51] rfl ?_
    cases h
    exact Ok_fin env rfl rfl (told_view (viewT_one (view_agg (viewL_cons (view1_int rfl) (viewL_cons (view1_str rfl) (viewL_cons (view1_sl (.inl rfl)) (viewL_cons (view_own Node_ok rfl) viewL_nil))))) (by simp)))
  · replace h := ite_f hb h
    refine Ok_runB env [51] rfl ?_
    obtain ⟨x9, hx, h⟩ := bind_some h
    refine Ok_call (H_F_grammar_Own _ _ hx) ?_
    refine Ok_runB env [51] rfl ?_
    obtain ⟨x10, hx, h⟩ := bind_some h
    refine Ok_call (H_F_path_Insert_1 _ _ _ _ hx) ?_
    refine Ok_runB env [51] rfl ?_
    obtain ⟨x11, hx, h⟩ := bind_some h
    refine Ok_call (H_F_grammar_Own _ _ hx) ?_
    refine Ok_runB env [51] rfl ?_
    refine Ok_cond (fun hb => ?_) (fun hb => ?_)
    · replace h := ite_t hb h
      refine Ok_runB env [51] rfl ?_
      exact Ok_bar_to (by kernel_rfl) rfl (less_at (by simp [leFT, leV, leOs, leO, leC, rho, AV.ren, AV.ren1, AV.ren0, AV.un, AV.un1, AV.un0, AV.closed, wkS] <;> (repeat' apply And.intro) <;> first | rfl) (by simp [leFT, leV, leOs, leO, leC, rho, AV.ren, AV.ren1, AV.ren0, AV.un, AV.un1, AV.un0, AV.closed, wkS] <;> (repeat' apply And.intro) <;> first | rfl)) (H_F_path_changed_path_Insert_1_t51 _ _ h)
    · replace h := ite_f hb h
      refine Ok_runB env [51] rfl ?_
      exact Ok_bar_to (by kernel_rfl) rfl (less_at (by simp [leFT, leV, leOs, leO, leC, rho, AV.ren, AV.ren1, AV.ren0, AV.un, AV.un1, AV.un0, AV.closed, wkS] <;> (repeat' apply And.intro) <;> first | rfl) (by simp [leFT, leV, leOs, leO, leC, rho, AV.ren, AV.ren1, AV.ren0, AV.un, AV.un1, AV.un0, AV.closed, wkS] <;> (repeat' apply And.intro) <;> first | rfl)) (H_F_path_changed_path_Insert_1_t51 _ _ h)
/-- treemerge/path.changed_path_Insert_1 -/
theorem H_F_path_changed_path_Insert_1 (a0 : Node) (a1 : (List Int)) (a2_0 : Int) (a2_1 : Node) (r : Node) (h : F_path_changed_path_Insert_1 a0 a1 a2_0 a2_1 = some r) : M_F_path_changed_path_Insert_1 a0 a1 a2_0 a2_1 r :=
  F_path_changed_path_Insert_1.partial_correctness (fun a0 a1 a2_0 a2_1 r => M_F_path_changed_path_Insert_1 a0 a1 a2_0 a2_1 r) (fun F0 h0 => S_F_path_changed_path_Insert_1 F0 h0) a0 a1 a2_0 a2_1 r h
def F_path_Insert (a0 : Node) (a1 : (List Int)) (a2 : Node) : Option (Node × Int) :=
  if (decide (((a1.map ic).length : Int) = (0 : Int))) = true then
    some ((Node.mk 0 (⟨#[]⟩) ([] : (List ByteArray)) ([] : (List Node))), (5 : Int))
  else
    ix a1 (IntKind.i64.wrap (((a1.map ic).length : Int) - (1 : Int))) >>= fun x1 =>
    lsub a1 (0 : Int) (IntKind.i64.wrap (((a1.map ic).length : Int) - (1 : Int))) >>= fun x2 =>
    F_path_get a0 x2 >>= fun x3 =>
    if (!x3.2) = true then
      some ((Node.mk 0 (⟨#[]⟩) ([] : (List ByteArray)) ([] : (List Node))), (5 : Int))
    else
      if (decide (x1 < (0 : Int))) = true then
        some ((Node.mk 0 (⟨#[]⟩) ([] : (List ByteArray)) ([] : (List Node))), (5 : Int))
      else
        if (decide (((x3.1.kids.map Node.cells).length : Int) < x1)) = true then
          some ((Node.mk 0 (⟨#[]⟩) ([] : (List ByteArray)) ([] : (List Node))), (5 : Int))
        else
          F_grammar_Fits x3.1.kind x1 a2.kind >>= fun x4 =>
          if (!x4) = true then
            some ((Node.mk 0 (⟨#[]⟩) ([] : (List ByteArray)) ([] : (List Node))), (7 : Int))
          else
            lsub a1 (0 : Int) (IntKind.i64.wrap (((a1.map ic).length : Int) - (1 : Int))) >>= fun x5 =>
            F_path_changed_path_Insert_1 a0 x5 x1 a2 >>= fun x6 =>
            F_path_checked x6 >>= fun x7 =>
            some (x7.1, x7.2)
@[reducible] def M_F_path_Insert (a0 : Node) (a1 : (List Int)) (a2 : Node) (r : Node × Int) : Prop :=
  Fn Tryd.prog G 28 [(.agg (cellsN a0)), (.sl 1 false (a1.map ic)), (.agg (cellsN a2))] (.tup [(.agg (cellsN r.1)), (.int .i64 r.2)])
theorem E_F_path_Insert (a0 : Node) (a1 : (List Int)) (a2 : Node) : F_path_Insert a0 a1 a2 = (
    if (decide (((a1.map ic).length : Int) = (0 : Int))) = true then
      some ((Node.mk 0 (⟨#[]⟩) ([] : (List ByteArray)) ([] : (List Node))), (5 : Int))
    else
      ix a1 (IntKind.i64.wrap (((a1.map ic).length : Int) - (1 : Int))) >>= fun x1 =>
      lsub a1 (0 : Int) (IntKind.i64.wrap (((a1.map ic).length : Int) - (1 : Int))) >>= fun x2 =>
      F_path_get a0 x2 >>= fun x3 =>
      if (!x3.2) = true then
        some ((Node.mk 0 (⟨#[]⟩) ([] : (List ByteArray)) ([] : (List Node))), (5 : Int))
      else
        if (decide (x1 < (0 : Int))) = true then
          some ((Node.mk 0 (⟨#[]⟩) ([] : (List ByteArray)) ([] : (List Node))), (5 : Int))
        else
          if (decide (((x3.1.kids.map Node.cells).length : Int) < x1)) = true then
            some ((Node.mk 0 (⟨#[]⟩) ([] : (List ByteArray)) ([] : (List Node))), (5 : Int))
          else
            F_grammar_Fits x3.1.kind x1 a2.kind >>= fun x4 =>
            if (!x4) = true then
              some ((Node.mk 0 (⟨#[]⟩) ([] : (List ByteArray)) ([] : (List Node))), (7 : Int))
            else
              lsub a1 (0 : Int) (IntKind.i64.wrap (((a1.map ic).length : Int) - (1 : Int))) >>= fun x5 =>
              F_path_changed_path_Insert_1 a0 x5 x1 a2 >>= fun x6 =>
              F_path_checked x6 >>= fun x7 =>
              some (x7.1, x7.2)
    : Option (Node × Int)) := F_path_Insert.eq_def a0 a1 a2
set_option maxHeartbeats 4000000 in
theorem S_F_path_Insert  (a0 : Node) (a1 : (List Int)) (a2 : Node) (r : Node × Int) (h : (
    if (decide (((a1.map ic).length : Int) = (0 : Int))) = true then
      some ((Node.mk 0 (⟨#[]⟩) ([] : (List ByteArray)) ([] : (List Node))), (5 : Int))
    else
      ix a1 (IntKind.i64.wrap (((a1.map ic).length : Int) - (1 : Int))) >>= fun x1 =>
      lsub a1 (0 : Int) (IntKind.i64.wrap (((a1.map ic).length : Int) - (1 : Int))) >>= fun x2 =>
      F_path_get a0 x2 >>= fun x3 =>
      if (!x3.2) = true then
        some ((Node.mk 0 (⟨#[]⟩) ([] : (List ByteArray)) ([] : (List Node))), (5 : Int))
      else
        if (decide (x1 < (0 : Int))) = true then
          some ((Node.mk 0 (⟨#[]⟩) ([] : (List ByteArray)) ([] : (List Node))), (5 : Int))
        else
          if (decide (((x3.1.kids.map Node.cells).length : Int) < x1)) = true then
            some ((Node.mk 0 (⟨#[]⟩) ([] : (List ByteArray)) ([] : (List Node))), (5 : Int))
          else
            F_grammar_Fits x3.1.kind x1 a2.kind >>= fun x4 =>
            if (!x4) = true then
              some ((Node.mk 0 (⟨#[]⟩) ([] : (List ByteArray)) ([] : (List Node))), (7 : Int))
            else
              lsub a1 (0 : Int) (IntKind.i64.wrap (((a1.map ic).length : Int) - (1 : Int))) >>= fun x5 =>
              F_path_changed_path_Insert_1 a0 x5 x1 a2 >>= fun x6 =>
              F_path_checked x6 >>= fun x7 =>
              some (x7.1, x7.2)
    : Option (Node × Int)) = some r) : M_F_path_Insert a0 a1 a2 r := by
  refine Fn_run (T := tt) (N := 62) (rs := [.cell 6 25, .tmp 7]) (fun vs w => by simp) Tryd.func28 rfl rfl rfl rfl (by kernel_rfl) (all_pure3 rfl) (closed3_pure _ rfl) ?_
  refine Ok_runB env [2000008] rfl ?_
  refine Ok_cond (fun hb => ?_) (fun hb => ?_)
  · replace h := ite_t hb h
    refine Ok_runB env [2000008] rfl ?_
    cases h
    exact Ok_fin env rfl rfl (told_view (viewT_tup (viewLs_cons (view_agg (viewL_cons (view1_int rfl) (viewL_cons (view1_str rfl) (viewL_cons (view1_sl (.inr rfl)) (viewL_cons (view1_sl (.inr rfl)) viewL_nil))))) (viewLs_cons (view_one (view1_int rfl) (by simp)) viewLs_nil))))
  · replace h := ite_f hb h
    refine Ok_runB env [2000008] rfl ?_
    obtain ⟨x1, hx, h⟩ := bind_some h
    refine Ok_ixT env hx rfl rfl rfl rfl rfl ?_
    refine Ok_runB env [2000008] rfl ?_
    obtain ⟨x2, hx, h⟩ := bind_some h
    refine Ok_lsubT env hx rfl rfl rfl rfl rfl ?_
    refine Ok_runB env [2000008] rfl ?_
    obtain ⟨x3, hx, h⟩ := bind_some h
    refine Ok_call (H_F_path_get _ _ _ hx) ?_
    refine Ok_runB env [2000008] rfl ?_
    refine Ok_guard_f (fun hb => ?_) (fun hb => ?_)
    · replace h := ite_f hb h
      refine Ok_runB env [2000008] rfl ?_
      refine Ok_guard_f (fun hb => ?_) (fun hb => ?_)
      · replace h := ite_f hb h
        refine Ok_runB env [2000008] rfl ?_
        refine Ok_cond (fun hb => ?_) (fun hb => ?_)
        · replace h := ite_t hb h
          refine Ok_runB env [2000008] rfl ?_
          cases h
          exact Ok_fin env rfl rfl (told_view (viewT_tup (viewLs_cons (view_agg (viewL_cons (view1_int rfl) (viewL_cons (view1_str rfl) (viewL_cons (view1_sl (.inr rfl)) (viewL_cons (view1_sl (.inr rfl)) viewL_nil))))) (viewLs_cons (view_one (view1_int rfl) (by simp)) viewLs_nil))))
        · replace h := ite_f hb h
          refine Ok_runB env [2000008] rfl ?_
          obtain ⟨x4, hx, h⟩ := bind_some h
          refine Ok_call (H_F_grammar_Fits _ _ _ _ hx) ?_
          refine Ok_runB env [2000008] rfl ?_
          refine Ok_freezeB [(5, (.rptr (cellsN a2))), (9, (.rptr [(.int .i64 x1)]))] [1, 3] rfl (frzL_cons rfl rfl rfl rfl (frzL_cons rfl rfl rfl rfl frzL_nil)) rfl rfl ?_
          refine Ok_bar_on ?_
          refine Ok_runB env [2000008] rfl ?_
          refine Ok_cond (fun hb => ?_) (fun hb => ?_)
          · replace h := ite_t hb h
            refine Ok_runB env [2000008] rfl ?_
            cases h
            exact Ok_fin env rfl rfl (told_view (viewT_tup (viewLs_cons (view_agg (viewL_cons (view1_int rfl) (viewL_cons (view1_str rfl) (viewL_cons (view1_sl (.inr rfl)) (viewL_cons (view1_sl (.inr rfl)) viewL_nil))))) (viewLs_cons (view_one (view1_int rfl) (by simp)) viewLs_nil))))
          · replace h := ite_f hb h
            refine Ok_runB env [2000008] rfl ?_
            obtain ⟨x5, hx, h⟩ := bind_some h
            refine Ok_lsubT env hx rfl rfl rfl rfl rfl ?_
            refine Ok_runB env [2000008] rfl ?_
            obtain ⟨x6, hx, h⟩ := bind_some h
            refine Ok_call (H_F_path_changed_path_Insert_1 _ _ _ _ _ hx) ?_
            refine Ok_runB env [2000008] rfl ?_
            obtain ⟨x7, hx, h⟩ := bind_some h
            refine Ok_call (H_F_path_checked _ _ hx) ?_
            refine Ok_runB env [2000008] rfl ?_
            cases h
            exact Ok_fin env rfl rfl (told_eq rfl)
      · replace h := ite_t hb h
        refine Ok_runB env [2000008] rfl ?_
        cases h
        exact Ok_fin env rfl rfl (told_view (viewT_tup (viewLs_cons (view_agg (viewL_cons (view1_int rfl) (viewL_cons (view1_str rfl) (viewL_cons (view1_sl (.inr rfl)) (viewL_cons (view1_sl (.inr rfl)) viewL_nil))))) (viewLs_cons (view_one (view1_int rfl) (by simp)) viewLs_nil))))
    · replace h := ite_t hb h
      refine Ok_runB env [2000008] rfl ?_
      cases h
      exact Ok_fin env rfl rfl (told_view (viewT_tup (viewLs_cons (view_agg (viewL_cons (view1_int rfl) (viewL_cons (view1_str rfl) (viewL_cons (view1_sl (.inr rfl)) (viewL_cons (view1_sl (.inr rfl)) viewL_nil))))) (viewLs_cons (view_one (view1_int rfl) (by simp)) viewLs_nil))))
/-- treemerge/path.Insert -/
theorem H_F_path_Insert (a0 : Node) (a1 : (List Int)) (a2 : Node) (r : Node × Int) (h : F_path_Insert a0 a1 a2 = some r) : M_F_path_Insert a0 a1 a2 r :=
  S_F_path_Insert a0 a1 a2 r (by rw [E_F_path_Insert] at h; exact h)
def F_path_Remove_1 (a0 : (List Node)) (c0 : Int) : Option ((List Node)) :=
  lsub a0 (0 : Int) c0 >>= fun x1 =>
  lsub a0 (IntKind.i64.wrap (c0 + (1 : Int))) ((a0.map Node.cells).length : Int) >>= fun x2 =>
  app 72 x1 x2 >>= fun x3 =>
  some x3
@[reducible] def M_F_path_Remove_1 (a0 : (List Node)) (c0 : Int) (r : (List Node)) : Prop :=
  Fn Tryd.prog G 66 [(.sl 4 false (a0.map Node.cells)), (.rptr (ic c0))] (.sl 4 false (r.map Node.cells))
theorem E_F_path_Remove_1 (a0 : (List Node)) (c0 : Int) : F_path_Remove_1 a0 c0 = (
    lsub a0 (0 : Int) c0 >>= fun x1 =>
    lsub a0 (IntKind.i64.wrap (c0 + (1 : Int))) ((a0.map Node.cells).length : Int) >>= fun x2 =>
    app 72 x1 x2 >>= fun x3 =>
    some x3
    : Option ((List Node))) := F_path_Remove_1.eq_def a0 c0
set_option maxHeartbeats 4000000 in
theorem S_F_path_Remove_1  (a0 : (List Node)) (c0 : Int) (r : (List Node)) (h : (
    lsub a0 (0 : Int) c0 >>= fun x1 =>
    lsub a0 (IntKind.i64.wrap (c0 + (1 : Int))) ((a0.map Node.cells).length : Int) >>= fun x2 =>
    app 72 x1 x2 >>= fun x3 =>
    some x3
    : Option ((List Node))) = some r) : M_F_path_Remove_1 a0 c0 r := by
  refine Fn_run (T := tt) (N := 13) (rs := [.tmp 3]) (fun vs w => by simp) Tryd.func66 rfl rfl rfl rfl (by kernel_rfl) (all_pure3 rfl) (closed3_pure _ rfl) ?_
  refine Ok_runB env [] rfl ?_
  obtain ⟨x1, hx, h⟩ := bind_some h
  refine Ok_lsub3T env hx rfl rfl rfl rfl rfl rfl ?_
  refine Ok_runB env [] rfl ?_
  obtain ⟨x2, hx, h⟩ := bind_some h
  refine Ok_lsubT env hx rfl rfl rfl rfl rfl ?_
  refine Ok_runB env [] rfl ?_
  obtain ⟨x3, hx, h⟩ := bind_some h
  refine Ok_appC env hx rfl (.inl rfl) rfl (.inl rfl) rfl rfl rfl rfl rfl (by decide) rfl rfl ?_
  refine Ok_runB env [] rfl ?_
  cases h
  exact Ok_fin env rfl rfl (told_eq rfl)
/-- treemerge/path.Remove$1 -/
theorem H_F_path_Remove_1 (a0 : (List Node)) (c0 : Int) (r : (List Node)) (h : F_path_Remove_1 a0 c0 = some r) : M_F_path_Remove_1 a0 c0 r :=
  S_F_path_Remove_1 a0 c0 r (by rw [E_F_path_Remove_1] at h; exact h)
def F_path_changed_path_Remove_1_t51 (o0 : Node) : Option (Node) :=
  some o0
@[reducible] def M_F_path_changed_path_Remove_1_t51 (o0 : Node) (r : Node) : Prop :=
  Ok Tryd.prog G tt 54 0 (Ret Tryd.prog [.cell 6 25] (fun y H => Told Tryd.prog G H y (.agg (cellsN r)))) (.go [] (testOf [51] Tryd.f59 51) [] (.n .undef (.n .undef (.n (.ptr 0 0 0) .z .z) .z) (.n .undef .z (.n (.ptr 1 1 0) .z .z))) 2 [(0, .var 25 (cellsN o0)), (1, .var 25 [(.int .i64 0), (.str ⟨#[]⟩), (.sl 1 false (([] : (List ByteArray)).map sc)), (.sl 4 false (([] : (List Node)).map Node.cells))])])
theorem E_F_path_changed_path_Remove_1_t51 (o0 : Node) : F_path_changed_path_Remove_1_t51 o0 = (
    some o0
    : Option (Node)) := F_path_changed_path_Remove_1_t51.eq_def o0
set_option maxHeartbeats 4000000 in
theorem S_F_path_changed_path_Remove_1_t51  (o0 : Node) (r : Node) (h : (
    some o0
    : Option (Node)) = some r) : M_F_path_changed_path_Remove_1_t51 o0 r := by
  refine Ok_runB env [51] rfl ?_
  cases h
  exact Ok_fin env rfl rfl (told_eq rfl)
/-- treemerge/path.changed_path_Remove_1 -/
theorem H_F_path_changed_path_Remove_1_t51 (o0 : Node) (r : Node) (h : F_path_changed_path_Remove_1_t51 o0 = some r) : M_F_path_changed_path_Remove_1_t51 o0 r :=
  S_F_path_changed_path_Remove_1_t51 o0 r (by rw [E_F_path_changed_path_Remove_1_t51] at h; exact h)
def F_path_changed_path_Remove_1 (a0 : Node) (a1 : (List Int)) (a2_0 : Int) : Option (Node) :=
  if (decide ((0 : Int) < ((a1.map ic).length : Int))) = true then
    ix a1 (0 : Int) >>= fun x1 =>
    lsub a0.kids (0 : Int) x1 >>= fun x2 =>
    ix a0.kids x1 >>= fun x3 =>
    lsub a1 (1 : Int) ((a1.map ic).length : Int) >>= fun x4 =>
    F_path_changed_path_Remove_1 (nofix x3) (nofix x4) (nofix a2_0) >>= fun x5 =>
    app 72 x2 ([x5]) >>= fun x6 =>
    lsub a0.kids (IntKind.i64.wrap (x1 + (1 : Int))) ((a0.kids.map Node.cells).length : Int) >>= fun x7 =>
    app 72 x6 x7 >>= fun x8 =>
    some (Node.mk a0.kind a0.text a0.gaps x8)
  else
    F_grammar_Own (nofix a0) >>= fun x9 =>
    F_path_Remove_1 a0.kids (nofix a2_0) >>= fun x10 =>
    F_grammar_Own (Node.mk a0.kind a0.text a0.gaps x10) >>= fun x11 =>
    if (!decide (x11 = x9)) = true then
      F_path_changed_path_Remove_1_t51 (Node.mk a0.kind a0.text ([] : (List ByteArray)) x10)
    else
      F_path_changed_path_Remove_1_t51 (Node.mk a0.kind a0.text a0.gaps x10)
  partial_fixpoint
@[reducible] def M_F_path_changed_path_Remove_1 (a0 : Node) (a1 : (List Int)) (a2_0 : Int) (r : Node) : Prop :=
  Fn Tryd.prog G 59 [(.agg (cellsN a0)), (.sl 1 false (a1.map ic)), (.fn 66 [(.rptr (ic a2_0))])] (.agg (cellsN r))
theorem E_F_path_changed_path_Remove_1 (a0 : Node) (a1 : (List Int)) (a2_0 : Int) : F_path_changed_path_Remove_1 a0 a1 a2_0 = (
    if (decide ((0 : Int) < ((a1.map ic).length : Int))) = true then
      ix a1 (0 : Int) >>= fun x1 =>
      lsub a0.kids (0 : Int) x1 >>= fun x2 =>
      ix a0.kids x1 >>= fun x3 =>
      lsub a1 (1 : Int) ((a1.map ic).length : Int) >>= fun x4 =>
      F_path_changed_path_Remove_1 x3 x4 a2_0 >>= fun x5 =>
      app 72 x2 ([x5]) >>= fun x6 =>
      lsub a0.kids (IntKind.i64.wrap (x1 + (1 : Int))) ((a0.kids.map Node.cells).length : Int) >>= fun x7 =>
      app 72 x6 x7 >>= fun x8 =>
      some (Node.mk a0.kind a0.text a0.gaps x8)
    else
      F_grammar_Own a0 >>= fun x9 =>
      F_path_Remove_1 a0.kids a2_0 >>= fun x10 =>
      F_grammar_Own (Node.mk a0.kind a0.text a0.gaps x10) >>= fun x11 =>
      if (!decide (x11 = x9)) = true then
        F_path_changed_path_Remove_1_t51 (Node.mk a0.kind a0.text ([] : (List ByteArray)) x10)
      else
        F_path_changed_path_Remove_1_t51 (Node.mk a0.kind a0.text a0.gaps x10)
    : Option (Node)) := F_path_changed_path_Remove_1.eq_def a0 a1 a2_0
set_option maxHeartbeats 4000000 in
theorem S_F_path_changed_path_Remove_1 (F_path_changed_path_Remove_1 : Node → (List Int) → Int → Option (Node)) (H_F_path_changed_path_Remove_1 : ∀ (a0 : Node) (a1 : (List Int)) (a2_0 : Int) (r : Node), F_path_changed_path_Remove_1 a0 a1 a2_0 = some r → M_F_path_changed_path_Remove_1 a0 a1 a2_0 r) (a0 : Node) (a1 : (List Int)) (a2_0 : Int) (r : Node) (h : (
    if (decide ((0 : Int) < ((a1.map ic).length : Int))) = true then
      ix a1 (0 : Int) >>= fun x1 =>
      lsub a0.kids (0 : Int) x1 >>= fun x2 =>
      ix a0.kids x1 >>= fun x3 =>
      lsub a1 (1 : Int) ((a1.map ic).length : Int) >>= fun x4 =>
      F_path_changed_path_Remove_1 x3 x4 a2_0 >>= fun x5 =>
      app 72 x2 ([x5]) >>= fun x6 =>
      lsub a0.kids (IntKind.i64.wrap (x1 + (1 : Int))) ((a0.kids.map Node.cells).length : Int) >>= fun x7 =>
      app 72 x6 x7 >>= fun x8 =>
      some (Node.mk a0.kind a0.text a0.gaps x8)
    else
      F_grammar_Own a0 >>= fun x9 =>
      F_path_Remove_1 a0.kids a2_0 >>= fun x10 =>
      F_grammar_Own (Node.mk a0.kind a0.text a0.gaps x10) >>= fun x11 =>
      if (!decide (x11 = x9)) = true then
        F_path_changed_path_Remove_1_t51 (Node.mk a0.kind a0.text ([] : (List ByteArray)) x10)
      else
        F_path_changed_path_Remove_1_t51 (Node.mk a0.kind a0.text a0.gaps x10)
    : Option (Node)) = some r) : M_F_path_changed_path_Remove_1 a0 a1 a2_0 r := by
  refine Fn_run (T := tt) (N := 54) (rs := [.cell 6 25]) (fun vs w => by simp) Tryd.func59 rfl rfl rfl rfl (by kernel_rfl) (all_pure3 rfl) (closed3_pure _ rfl) ?_
  refine Ok_runB env [51] rfl ?_
  refine Ok_cond (fun hb => ?_) (fun hb => ?_)
  · replace h := ite_t hb h
    refine Ok_runB env [51] rfl ?_
    obtain ⟨x1, hx, h⟩ := bind_some h
    refine Ok_ixT env hx rfl rfl rfl rfl rfl ?_
    refine Ok_runB env [51] rfl ?_
    obtain ⟨x2, hx, h⟩ := bind_some h
    refine Ok_lsub3T env hx rfl rfl rfl rfl rfl rfl ?_
    refine Ok_runB env [51] rfl ?_
    obtain ⟨x3, hx, h⟩ := bind_some h
    refine Ok_ixT env hx rfl rfl rfl rfl (Node.cells_eq x3) ?_
    refine Ok_runB env [51] rfl ?_
    obtain ⟨x4, hx, h⟩ := bind_some h
    refine Ok_lsubT env hx rfl rfl rfl rfl rfl ?_
    refine Ok_runB env [51] rfl ?_
    obtain ⟨x5, hx, h⟩ := bind_some h
    refine Ok_call (H_F_path_changed_path_Remove_1 _ _ _ _ hx) ?_
    refine Ok_runB env [51] rfl ?_
    obtain ⟨x6, hx, h⟩ := bind_some h
    have hp_x6 := app_pos hx (by simp)
    refine Ok_appN env hx rfl (.inl rfl) (show _ = AV.sl _ _ (List.map Node.cells [x5]) from (by simp only [List.map_cons, List.map_nil, Node.cells_eq]; rfl)) (by simp) rfl rfl rfl rfl rfl (by decide) rfl rfl ?_
    refine Ok_runB env [51] rfl ?_
    obtain ⟨x7, hx, h⟩ := bind_some h
    refine Ok_lsubT env hx rfl rfl rfl rfl rfl ?_
    refine Ok_runB env [51] rfl ?_
    obtain ⟨x8, hx, h⟩ := bind_some h
    refine Ok_appL env hx rfl hp_x6 rfl (.inl rfl) Node.cells_len rfl rfl rfl rfl rfl (by decide) rfl rfl rfl ?_
    refine Ok_runB env [51] rfl ?_
    cases h
    exact Ok_fin env rfl rfl (told_view (viewT_one (view_agg (viewL_cons (view1_int rfl) (viewL_cons (view1_str rfl) (viewL_cons (view1_sl (.inl rfl)) (viewL_cons (view_own Node_ok rfl) viewL_nil))))) (by simp)))
  · replace h := ite_f hb h
    refine Ok_runB env [51] rfl ?_
    obtain ⟨x9, hx, h⟩ := bind_some h
    refine Ok_call (H_F_grammar_Own _ _ hx) ?_
    refine Ok_runB env [51] rfl ?_
    obtain ⟨x10, hx, h⟩ := bind_some h
    refine Ok_call (H_F_path_Remove_1 _ _ _ hx) ?_
    refine Ok_runB env [51] rfl ?_
    obtain ⟨x11, hx, h⟩ := bind_some h
    refine Ok_call (H_F_grammar_Own _ _ hx) ?_
    refine Ok_runB env [51] rfl ?_
    refine Ok_cond (fun hb => ?_) (fun hb => ?_)
    · replace h := ite_t hb h
      refine Ok_runB env [51] rfl ?_
      exact Ok_bar_to (by kernel_rfl) rfl (less_at (by simp [leFT, leV, leOs, leO, leC, rho, AV.ren, AV.ren1, AV.ren0, AV.un, AV.un1, AV.un0, AV.closed, wkS] <;> (repeat' apply And.intro) <;> first | rfl) (by simp [leFT, leV, leOs, leO, leC, rho, AV.ren, AV.ren1, AV.ren0, AV.un, AV.un1, AV.un0, AV.closed, wkS] <;> (repeat' apply And.intro) <;> first | rfl)) (H_F_path_changed_path_Remove_1_t51 _ _ h)
    · replace h := ite_f hb h
      refine Ok_runB env [51] rfl ?_
      exact Ok_bar_to (by kernel_rfl) rfl (less_at (by simp [leFT, leV, leOs, leO, leC, rho, AV.ren, AV.ren1, AV.ren0, AV.un, AV.un1, AV.un0, AV.closed, wkS] <;> (repeat' apply And.intro) <;> first | rfl) (by simp [leFT, leV, leOs, leO, leC, rho, AV.ren, AV.ren1, AV.ren0, AV.un, AV.un1, AV.un0, AV.closed, wkS] <;> (repeat' apply And.intro) <;> first | rfl)) (H_F_path_changed_path_Remove_1_t51 _ _ h)
/-- treemerge/path.changed_path_Remove_1 -/
theorem H_F_path_changed_path_Remove_1 (a0 : Node) (a1 : (List Int)) (a2_0 : Int) (r : Node) (h : F_path_changed_path_Remove_1 a0 a1 a2_0 = some r) : M_F_path_changed_path_Remove_1 a0 a1 a2_0 r :=
  F_path_changed_path_Remove_1.partial_correctness (fun a0 a1 a2_0 r => M_F_path_changed_path_Remove_1 a0 a1 a2_0 r) (fun F0 h0 => S_F_path_changed_path_Remove_1 F0 h0) a0 a1 a2_0 r h
def F_path_Remove (a0 : Node) (a1 : (List Int)) : Option (Node × Int) :=
  F_path_get a0 a1 >>= fun x1 =>
  if (!x1.2) = true then
    some ((Node.mk 0 (⟨#[]⟩) ([] : (List ByteArray)) ([] : (List Node))), (5 : Int))
  else
    if (decide (((a1.map ic).length : Int) = (0 : Int))) = true then
      some ((Node.mk 0 (⟨#[]⟩) ([] : (List ByteArray)) ([] : (List Node))), (5 : Int))
    else
      ix a1 (IntKind.i64.wrap (((a1.map ic).length : Int) - (1 : Int))) >>= fun x2 =>
      lsub a1 (0 : Int) (IntKind.i64.wrap (((a1.map ic).length : Int) - (1 : Int))) >>= fun x3 =>
      F_path_changed_path_Remove_1 a0 x3 x2 >>= fun x4 =>
      F_path_checked x4 >>= fun x5 =>
      some (x5.1, x5.2)
@[reducible] def M_F_path_Remove (a0 : Node) (a1 : (List Int)) (r : Node × Int) : Prop :=
  Fn Tryd.prog G 30 [(.agg (cellsN a0)), (.sl 1 false (a1.map ic))] (.tup [(.agg (cellsN r.1)), (.int .i64 r.2)])
theorem E_F_path_Remove (a0 : Node) (a1 : (List Int)) : F_path_Remove a0 a1 = (
    F_path_get a0 a1 >>= fun x1 =>
    if (!x1.2) = true then
      some ((Node.mk 0 (⟨#[]⟩) ([] : (List ByteArray)) ([] : (List Node))), (5 : Int))
    else
      if (decide (((a1.map ic).length : Int) = (0 : Int))) = true then
        some ((Node.mk 0 (⟨#[]⟩) ([] : (List ByteArray)) ([] : (List Node))), (5 : Int))
      else
        ix a1 (IntKind.i64.wrap (((a1.map ic).length : Int) - (1 : Int))) >>= fun x2 =>
        lsub a1 (0 : Int) (IntKind.i64.wrap (((a1.map ic).length : Int) - (1 : Int))) >>= fun x3 =>
        F_path_changed_path_Remove_1 a0 x3 x2 >>= fun x4 =>
        F_path_checked x4 >>= fun x5 =>
        some (x5.1, x5.2)
    : Option (Node × Int)) := F_path_Remove.eq_def a0 a1
set_option maxHeartbeats 4000000 in
theorem S_F_path_Remove  (a0 : Node) (a1 : (List Int)) (r : Node × Int) (h : (
    F_path_get a0 a1 >>= fun x1 =>
    if (!x1.2) = true then
      some ((Node.mk 0 (⟨#[]⟩) ([] : (List ByteArray)) ([] : (List Node))), (5 : Int))
    else
      if (decide (((a1.map ic).length : Int) = (0 : Int))) = true then
        some ((Node.mk 0 (⟨#[]⟩) ([] : (List ByteArray)) ([] : (List Node))), (5 : Int))
      else
        ix a1 (IntKind.i64.wrap (((a1.map ic).length : Int) - (1 : Int))) >>= fun x2 =>
        lsub a1 (0 : Int) (IntKind.i64.wrap (((a1.map ic).length : Int) - (1 : Int))) >>= fun x3 =>
        F_path_changed_path_Remove_1 a0 x3 x2 >>= fun x4 =>
        F_path_checked x4 >>= fun x5 =>
        some (x5.1, x5.2)
    : Option (Node × Int)) = some r) : M_F_path_Remove a0 a1 r := by
  refine Fn_run (T := tt) (N := 40) (rs := [.cell 4 25, .tmp 5]) (fun vs w => by simp) Tryd.func30 rfl rfl rfl rfl (by kernel_rfl) (all_pure3 rfl) (closed3_pure _ rfl) ?_
  refine Ok_runB env [2000005] rfl ?_
  obtain ⟨x1, hx, h⟩ := bind_some h
  refine Ok_call (H_F_path_get _ _ _ hx) ?_
  refine Ok_runB env [2000005] rfl ?_
  refine Ok_guard_f (fun hb => ?_) (fun hb => ?_)
  · replace h := ite_f hb h
    refine Ok_runB env [2000005] rfl ?_
    refine Ok_cond (fun hb => ?_) (fun hb => ?_)
    · replace h := ite_t hb h
      refine Ok_runB env [2000005] rfl ?_
      cases h
      exact Ok_fin env rfl rfl (told_view (viewT_tup (viewLs_cons (view_agg (viewL_cons (view1_int rfl) (viewL_cons (view1_str rfl) (viewL_cons (view1_sl (.inr rfl)) (viewL_cons (view1_sl (.inr rfl)) viewL_nil))))) (viewLs_cons (view_one (view1_int rfl) (by simp)) viewLs_nil))))
    · replace h := ite_f hb h
      refine Ok_runB env [2000005] rfl ?_
      obtain ⟨x2, hx, h⟩ := bind_some h
      refine Ok_ixT env hx rfl rfl rfl rfl rfl ?_
      refine Ok_runB env [2000005] rfl ?_
      refine Ok_freezeB [(9, (.rptr [(.int .i64 x2)]))] [3] rfl (frzL_cons rfl rfl rfl rfl frzL_nil) rfl rfl ?_
      refine Ok_bar_on ?_
      refine Ok_runB env [2000005] rfl ?_
      obtain ⟨x3, hx, h⟩ := bind_some h
      refine Ok_lsubT env hx rfl rfl rfl rfl rfl ?_
      refine Ok_runB env [2000005] rfl ?_
      obtain ⟨x4, hx, h⟩ := bind_some h
      refine Ok_call (H_F_path_changed_path_Remove_1 _ _ _ _ hx) ?_
      refine Ok_runB env [2000005] rfl ?_
      obtain ⟨x5, hx, h⟩ := bind_some h
      refine Ok_call (H_F_path_checked _ _ hx) ?_
      refine Ok_runB env [2000005] rfl ?_
      cases h
      exact Ok_fin env rfl rfl (told_eq rfl)
  · replace h := ite_t hb h
    refine Ok_runB env [2000005] rfl ?_
    cases h
    exact Ok_fin env rfl rfl (told_view (viewT_tup (viewLs_cons (view_agg (viewL_cons (view1_int rfl) (viewL_cons (view1_str rfl) (viewL_cons (view1_sl (.inr rfl)) (viewL_cons (view1_sl (.inr rfl)) viewL_nil))))) (viewLs_cons (view_one (view1_int rfl) (by simp)) viewLs_nil))))
/-- treemerge/path.Remove -/
theorem H_F_path_Remove (a0 : Node) (a1 : (List Int)) (r : Node × Int) (h : F_path_Remove a0 a1 = some r) : M_F_path_Remove a0 a1 r :=
  S_F_path_Remove a0 a1 r (by rw [E_F_path_Remove] at h; exact h)
def F_L10_binary (a0 : ByteArray) (a1 : Node) (a2 : Node) : Option (Node) :=
  some (Node.mk (24 : Int) a0 ([] : (List ByteArray)) ([a1, a2]))
@[reducible] def M_F_L10_binary (a0 : ByteArray) (a1 : Node) (a2 : Node) (r : Node) : Prop :=
  Fn Tryd.prog G 50 [(.str a0), (.agg (cellsN a1)), (.agg (cellsN a2))] (.agg (cellsN r))
theorem E_F_L10_binary (a0 : ByteArray) (a1 : Node) (a2 : Node) : F_L10_binary a0 a1 a2 = (
    some (Node.mk (24 : Int) a0 ([] : (List ByteArray)) ([a1, a2]))
    : Option (Node)) := F_L10_binary.eq_def a0 a1 a2
set_option maxHeartbeats 4000000 in
theorem S_F_L10_binary  (a0 : ByteArray) (a1 : Node) (a2 : Node) (r : Node) (h : (
    some (Node.mk (24 : Int) a0 ([] : (List ByteArray)) ([a1, a2]))
    : Option (Node)) = some r) : M_F_L10_binary a0 a1 a2 r := by
  refine Fn_run (T := tt) (N := 12) (rs := [.cell 6 25]) (fun vs w => by simp) Tryd.func50 rfl rfl rfl rfl (by kernel_rfl) (all_pure3 rfl) (closed3_pure _ rfl) ?_
  refine Ok_runB env [] rfl ?_
  cases h
  exact Ok_fin env rfl rfl (told_view (viewT_one (view_agg (viewL_cons (view1_int rfl) (viewL_cons (view1_str rfl) (viewL_cons (view1_sl (.inr rfl)) (viewL_cons (view1_slE (.inl rfl) (show _ = List.map Node.cells [a1, a2] from (by first | (simp only [List.map_cons, List.map_nil, Node.cells_eq]; done) | (simp only [List.map_cons, List.map_nil, Node.cells_eq]; rfl)))) viewL_nil))))) (by simp)))
/-- treemerge/treemergelaw10.binary -/
theorem H_F_L10_binary (a0 : ByteArray) (a1 : Node) (a2 : Node) (r : Node) (h : F_L10_binary a0 a1 a2 = some r) : M_F_L10_binary a0 a1 a2 r :=
  S_F_L10_binary a0 a1 a2 r (by rw [E_F_L10_binary] at h; exact h)
def F_L10_number (a0 : ByteArray) : Option (Node) :=
  some (Node.mk (17 : Int) a0 ([] : (List ByteArray)) ([] : (List Node)))
@[reducible] def M_F_L10_number (a0 : ByteArray) (r : Node) : Prop :=
  Fn Tryd.prog G 51 [(.str a0)] (.agg (cellsN r))
theorem E_F_L10_number (a0 : ByteArray) : F_L10_number a0 = (
    some (Node.mk (17 : Int) a0 ([] : (List ByteArray)) ([] : (List Node)))
    : Option (Node)) := F_L10_number.eq_def a0
set_option maxHeartbeats 4000000 in
theorem S_F_L10_number  (a0 : ByteArray) (r : Node) (h : (
    some (Node.mk (17 : Int) a0 ([] : (List ByteArray)) ([] : (List Node)))
    : Option (Node)) = some r) : M_F_L10_number a0 r := by
  refine Fn_run (T := tt) (N := 5) (rs := [.cell 2 25]) (fun vs w => by simp) Tryd.func51 rfl rfl rfl rfl (by kernel_rfl) (all_pure3 rfl) (closed3_pure _ rfl) ?_
  refine Ok_runB env [] rfl ?_
  cases h
  exact Ok_fin env rfl rfl (told_view (viewT_one (view_agg (viewL_cons (view1_int rfl) (viewL_cons (view1_str rfl) (viewL_cons (view1_sl (.inr rfl)) (viewL_cons (view1_sl (.inr rfl)) viewL_nil))))) (by simp)))
/-- treemerge/treemergelaw10.number -/
theorem H_F_L10_number (a0 : ByteArray) (r : Node) (h : F_L10_number a0 = some r) : M_F_L10_number a0 r :=
  S_F_L10_number a0 r (by rw [E_F_L10_number] at h; exact h)
def F_L10_awake  : Option (Bool) :=
  F_L10_number (⟨#[49]⟩ : ByteArray) >>= fun x1 =>
  F_L10_number (⟨#[50]⟩ : ByteArray) >>= fun x2 =>
  F_L10_binary (⟨#[43]⟩ : ByteArray) x1 x2 >>= fun x3 =>
  F_L10_number (⟨#[51]⟩ : ByteArray) >>= fun x4 =>
  F_L10_number (⟨#[52]⟩ : ByteArray) >>= fun x5 =>
  F_L10_binary (⟨#[42]⟩ : ByteArray) x4 x5 >>= fun x6 =>
  F_path_Of x3 (2 : Int) >>= fun x7 =>
  F_path_Index x3 ([(1 : Int)]) >>= fun x8 =>
  F_path_Get x3 ([(1 : Int)]) >>= fun x9 =>
  F_path_Replace x3 ([(0 : Int)]) x6 >>= fun x10 =>
  F_path_Replace x6 ([(0 : Int)]) x3 >>= fun x11 =>
  F_path_Insert (Node.mk (20 : Int) (⟨#[102]⟩ : ByteArray) ([] : (List ByteArray)) ([x3])) ([(1 : Int)]) x6 >>= fun x12 =>
  F_path_Remove x12.1 ([(0 : Int)]) >>= fun x13 =>
  if x7.2 = true then
    if (decide (((x7.1.map ic).length : Int) = (1 : Int))) = true then
      ix x7.1 (0 : Int) >>= fun x14 =>
      if (decide (x14 = (1 : Int))) = true then
        if x8.2 = true then
          if (decide (x8.1 = (2 : Int))) = true then
            if (decide (x9.2 = (0 : Int))) = true then
              if (decide (x9.1.text = (⟨#[50]⟩ : ByteArray))) = true then
                if (decide (x10.2 = (0 : Int))) = true then
                  if (decide (((x10.1.kids.map Node.cells).length : Int) = (2 : Int))) = true then
                    ix x10.1.kids (0 : Int) >>= fun x15 =>
                    if (decide (x15.text = (⟨#[42]⟩ : ByteArray))) = true then
                      if (decide (x11.2 = (7 : Int))) = true then
                        if (decide (x12.2 = (0 : Int))) = true then
                          if (decide (((x12.1.kids.map Node.cells).length : Int) = (2 : Int))) = true then
                            if (decide (x13.2 = (0 : Int))) = true then
                              if (decide (((x13.1.kids.map Node.cells).length : Int) = (1 : Int))) = true then
                                ix x13.1.kids (0 : Int) >>= fun x16 =>
                                some (decide (x16.text = (⟨#[42]⟩ : ByteArray)))
                              else
                                some false
                            else
                              some false
                          else
                            some false
                        else
                          some false
                      else
                        some false
                    else
                      some false
                  else
                    some false
                else
                  some false
              else
                some false
            else
              some false
          else
            some false
        else
          some false
      else
        some false
    else
      some false
  else
    some false
@[reducible] def M_F_L10_awake  (r : Bool) : Prop :=
  Fn Tryd.prog G 17 [] (.bool r)
theorem E_F_L10_awake  : F_L10_awake  = (
    F_L10_number (⟨#[49]⟩ : ByteArray) >>= fun x1 =>
    F_L10_number (⟨#[50]⟩ : ByteArray) >>= fun x2 =>
    F_L10_binary (⟨#[43]⟩ : ByteArray) x1 x2 >>= fun x3 =>
    F_L10_number (⟨#[51]⟩ : ByteArray) >>= fun x4 =>
    F_L10_number (⟨#[52]⟩ : ByteArray) >>= fun x5 =>
    F_L10_binary (⟨#[42]⟩ : ByteArray) x4 x5 >>= fun x6 =>
    F_path_Of x3 (2 : Int) >>= fun x7 =>
    F_path_Index x3 ([(1 : Int)]) >>= fun x8 =>
    F_path_Get x3 ([(1 : Int)]) >>= fun x9 =>
    F_path_Replace x3 ([(0 : Int)]) x6 >>= fun x10 =>
    F_path_Replace x6 ([(0 : Int)]) x3 >>= fun x11 =>
    F_path_Insert (Node.mk (20 : Int) (⟨#[102]⟩ : ByteArray) ([] : (List ByteArray)) ([x3])) ([(1 : Int)]) x6 >>= fun x12 =>
    F_path_Remove x12.1 ([(0 : Int)]) >>= fun x13 =>
    if x7.2 = true then
      if (decide (((x7.1.map ic).length : Int) = (1 : Int))) = true then
        ix x7.1 (0 : Int) >>= fun x14 =>
        if (decide (x14 = (1 : Int))) = true then
          if x8.2 = true then
            if (decide (x8.1 = (2 : Int))) = true then
              if (decide (x9.2 = (0 : Int))) = true then
                if (decide (x9.1.text = (⟨#[50]⟩ : ByteArray))) = true then
                  if (decide (x10.2 = (0 : Int))) = true then
                    if (decide (((x10.1.kids.map Node.cells).length : Int) = (2 : Int))) = true then
                      ix x10.1.kids (0 : Int) >>= fun x15 =>
                      if (decide (x15.text = (⟨#[42]⟩ : ByteArray))) = true then
                        if (decide (x11.2 = (7 : Int))) = true then
                          if (decide (x12.2 = (0 : Int))) = true then
                            if (decide (((x12.1.kids.map Node.cells).length : Int) = (2 : Int))) = true then
                              if (decide (x13.2 = (0 : Int))) = true then
                                if (decide (((x13.1.kids.map Node.cells).length : Int) = (1 : Int))) = true then
                                  ix x13.1.kids (0 : Int) >>= fun x16 =>
                                  some (decide (x16.text = (⟨#[42]⟩ : ByteArray)))
                                else
                                  some false
                              else
                                some false
                            else
                              some false
                          else
                            some false
                        else
                          some false
                      else
                        some false
                    else
                      some false
                  else
                    some false
                else
                  some false
              else
                some false
            else
              some false
          else
            some false
        else
          some false
      else
        some false
    else
      some false
    : Option (Bool)) := F_L10_awake.eq_def 
set_option maxHeartbeats 4000000 in
theorem S_F_L10_awake   (r : Bool) (h : (
    F_L10_number (⟨#[49]⟩ : ByteArray) >>= fun x1 =>
    F_L10_number (⟨#[50]⟩ : ByteArray) >>= fun x2 =>
    F_L10_binary (⟨#[43]⟩ : ByteArray) x1 x2 >>= fun x3 =>
    F_L10_number (⟨#[51]⟩ : ByteArray) >>= fun x4 =>
    F_L10_number (⟨#[52]⟩ : ByteArray) >>= fun x5 =>
    F_L10_binary (⟨#[42]⟩ : ByteArray) x4 x5 >>= fun x6 =>
    F_path_Of x3 (2 : Int) >>= fun x7 =>
    F_path_Index x3 ([(1 : Int)]) >>= fun x8 =>
    F_path_Get x3 ([(1 : Int)]) >>= fun x9 =>
    F_path_Replace x3 ([(0 : Int)]) x6 >>= fun x10 =>
    F_path_Replace x6 ([(0 : Int)]) x3 >>= fun x11 =>
    F_path_Insert (Node.mk (20 : Int) (⟨#[102]⟩ : ByteArray) ([] : (List ByteArray)) ([x3])) ([(1 : Int)]) x6 >>= fun x12 =>
    F_path_Remove x12.1 ([(0 : Int)]) >>= fun x13 =>
    if x7.2 = true then
      if (decide (((x7.1.map ic).length : Int) = (1 : Int))) = true then
        ix x7.1 (0 : Int) >>= fun x14 =>
        if (decide (x14 = (1 : Int))) = true then
          if x8.2 = true then
            if (decide (x8.1 = (2 : Int))) = true then
              if (decide (x9.2 = (0 : Int))) = true then
                if (decide (x9.1.text = (⟨#[50]⟩ : ByteArray))) = true then
                  if (decide (x10.2 = (0 : Int))) = true then
                    if (decide (((x10.1.kids.map Node.cells).length : Int) = (2 : Int))) = true then
                      ix x10.1.kids (0 : Int) >>= fun x15 =>
                      if (decide (x15.text = (⟨#[42]⟩ : ByteArray))) = true then
                        if (decide (x11.2 = (7 : Int))) = true then
                          if (decide (x12.2 = (0 : Int))) = true then
                            if (decide (((x12.1.kids.map Node.cells).length : Int) = (2 : Int))) = true then
                              if (decide (x13.2 = (0 : Int))) = true then
                                if (decide (((x13.1.kids.map Node.cells).length : Int) = (1 : Int))) = true then
                                  ix x13.1.kids (0 : Int) >>= fun x16 =>
                                  some (decide (x16.text = (⟨#[42]⟩ : ByteArray)))
                                else
                                  some false
                              else
                                some false
                            else
                              some false
                          else
                            some false
                        else
                          some false
                      else
                        some false
                    else
                      some false
                  else
                    some false
                else
                  some false
              else
                some false
            else
              some false
          else
            some false
        else
          some false
      else
        some false
    else
      some false
    : Option (Bool)) = some r) : M_F_L10_awake  r := by
  refine Fn_run (T := tt) (N := 149) (rs := [.tmp 0]) (fun vs w => by simp) Tryd.func17 rfl rfl rfl rfl (by kernel_rfl) (all_pure3 rfl) (closed3_pure _ rfl) ?_
  refine Ok_runB env [] rfl ?_
  obtain ⟨x1, hx, h⟩ := bind_some h
  refine Ok_call (H_F_L10_number _ _ hx) ?_
  refine Ok_runB env [] rfl ?_
  obtain ⟨x2, hx, h⟩ := bind_some h
  refine Ok_call (H_F_L10_number _ _ hx) ?_
  refine Ok_runB env [] rfl ?_
  obtain ⟨x3, hx, h⟩ := bind_some h
  refine Ok_call (H_F_L10_binary _ _ _ _ hx) ?_
  refine Ok_runB env [] rfl ?_
  obtain ⟨x4, hx, h⟩ := bind_some h
  refine Ok_call (H_F_L10_number _ _ hx) ?_
  refine Ok_runB env [] rfl ?_
  obtain ⟨x5, hx, h⟩ := bind_some h
  refine Ok_call (H_F_L10_number _ _ hx) ?_
  refine Ok_runB env [] rfl ?_
  obtain ⟨x6, hx, h⟩ := bind_some h
  refine Ok_call (H_F_L10_binary _ _ _ _ hx) ?_
  refine Ok_runB env [] rfl ?_
  obtain ⟨x7, hx, h⟩ := bind_some h
  refine Ok_call (H_F_path_Of _ _ _ hx) ?_
  refine Ok_runB env [] rfl ?_
  obtain ⟨x8, hx, h⟩ := bind_some h
  refine Ok_call (Fn.wk (H_F_path_Index _ _ _ hx) (wkLs_cons (wk_refl _) (wkLs_cons (wk_sl (.inl rfl)) wkLs_nil))) ?_
  refine Ok_runB env [] rfl ?_
  obtain ⟨x9, hx, h⟩ := bind_some h
  refine Ok_call (Fn.wk (H_F_path_Get _ _ _ hx) (wkLs_cons (wk_refl _) (wkLs_cons (wk_sl (.inl rfl)) wkLs_nil))) ?_
  refine Ok_runB env [] rfl ?_
  obtain ⟨x10, hx, h⟩ := bind_some h
  refine Ok_call (Fn.wk (H_F_path_Replace _ _ _ _ hx) (wkLs_cons (wk_refl _) (wkLs_cons (wk_sl (.inl rfl)) (wkLs_cons (wk_refl _) wkLs_nil)))) ?_
  refine Ok_runB env [] rfl ?_
  obtain ⟨x11, hx, h⟩ := bind_some h
  refine Ok_call (Fn.wk (H_F_path_Replace _ _ _ _ hx) (wkLs_cons (wk_refl _) (wkLs_cons (wk_sl (.inl rfl)) (wkLs_cons (wk_refl _) wkLs_nil)))) ?_
  refine Ok_runB env [] rfl ?_
  obtain ⟨x12, hx, h⟩ := bind_some h
  refine Ok_call (Fn.wk (H_F_path_Insert _ _ _ _ hx) (wkLs_cons (wk_agg (wkL_cons (wk1_refl _) (wkL_cons (wk1_refl _) (wkL_cons (wk1_sl (.inr rfl)) (wkL_cons (wk1_slE (.inl rfl) (show _ = List.map Node.cells [x3] from (by first | (simp only [List.map_cons, List.map_nil, Node.cells_eq]; done) | (simp only [List.map_cons, List.map_nil, Node.cells_eq]; rfl)))) wkL_nil))))) (wkLs_cons (wk_sl (.inl rfl)) (wkLs_cons (wk_refl _) wkLs_nil)))) ?_
  refine Ok_runB env [] rfl ?_
  obtain ⟨x13, hx, h⟩ := bind_some h
  refine Ok_call (Fn.wk (H_F_path_Remove _ _ _ hx) (wkLs_cons (wk_refl _) (wkLs_cons (wk_sl (.inl rfl)) wkLs_nil))) ?_
  refine Ok_runB env [] rfl ?_
  refine Ok_guard_t (fun hb => ?_) (fun hb => ?_)
  · replace h := ite_t hb h
    refine Ok_runB env [] rfl ?_
    refine Ok_guard_t (fun hb => ?_) (fun hb => ?_)
    · replace h := ite_t hb h
      refine Ok_runB env [] rfl ?_
      obtain ⟨x14, hx, h⟩ := bind_some h
      refine Ok_ixT env hx rfl rfl rfl rfl rfl ?_
      refine Ok_runB env [] rfl ?_
      refine Ok_guard_t (fun hb => ?_) (fun hb => ?_)
      · replace h := ite_t hb h
        refine Ok_runB env [] rfl ?_
        refine Ok_guard_t (fun hb => ?_) (fun hb => ?_)
        · replace h := ite_t hb h
          refine Ok_runB env [] rfl ?_
          refine Ok_guard_t (fun hb => ?_) (fun hb => ?_)
          · replace h := ite_t hb h
            refine Ok_runB env [] rfl ?_
            refine Ok_guard_t (fun hb => ?_) (fun hb => ?_)
            · replace h := ite_t hb h
              refine Ok_runB env [] rfl ?_
              refine Ok_guard_t (fun hb => ?_) (fun hb => ?_)
              · replace h := ite_t hb h
                refine Ok_runB env [] rfl ?_
                refine Ok_guard_t (fun hb => ?_) (fun hb => ?_)
                · replace h := ite_t hb h
                  refine Ok_runB env [] rfl ?_
                  refine Ok_guard_t (fun hb => ?_) (fun hb => ?_)
                  · replace h := ite_t hb h
                    refine Ok_runB env [] rfl ?_
                    obtain ⟨x15, hx, h⟩ := bind_some h
                    refine Ok_ixT env hx rfl rfl rfl rfl (Node.cells_eq x15) ?_
                    refine Ok_runB env [] rfl ?_
                    refine Ok_guard_t (fun hb => ?_) (fun hb => ?_)
                    · replace h := ite_t hb h
                      refine Ok_runB env [] rfl ?_
                      refine Ok_guard_t (fun hb => ?_) (fun hb => ?_)
                      · replace h := ite_t hb h
                        refine Ok_runB env [] rfl ?_
                        refine Ok_guard_t (fun hb => ?_) (fun hb => ?_)
                        · replace h := ite_t hb h
                          refine Ok_runB env [] rfl ?_
                          refine Ok_guard_t (fun hb => ?_) (fun hb => ?_)
                          · replace h := ite_t hb h
                            refine Ok_runB env [] rfl ?_
                            refine Ok_guard_t (fun hb => ?_) (fun hb => ?_)
                            · replace h := ite_t hb h
                              refine Ok_runB env [] rfl ?_
                              refine Ok_guard_t (fun hb => ?_) (fun hb => ?_)
                              · replace h := ite_t hb h
                                refine Ok_runB env [] rfl ?_
                                obtain ⟨x16, hx, h⟩ := bind_some h
                                refine Ok_ixT env hx rfl rfl rfl rfl (Node.cells_eq x16) ?_
                                refine Ok_runB env [] rfl ?_
                                cases h
                                exact Ok_fin env rfl rfl (told_eq rfl)
                              · replace h := ite_f hb h
                                refine Ok_runB env [] rfl ?_
                                cases h
                                exact Ok_fin env rfl rfl (told_eq rfl)
                            · replace h := ite_f hb h
                              refine Ok_runB env [] rfl ?_
                              cases h
                              exact Ok_fin env rfl rfl (told_eq rfl)
                          · replace h := ite_f hb h
                            refine Ok_runB env [] rfl ?_
                            cases h
                            exact Ok_fin env rfl rfl (told_eq rfl)
                        · replace h := ite_f hb h
                          refine Ok_runB env [] rfl ?_
                          cases h
                          exact Ok_fin env rfl rfl (told_eq rfl)
                      · replace h := ite_f hb h
                        refine Ok_runB env [] rfl ?_
                        cases h
                        exact Ok_fin env rfl rfl (told_eq rfl)
                    · replace h := ite_f hb h
                      refine Ok_runB env [] rfl ?_
                      cases h
                      exact Ok_fin env rfl rfl (told_eq rfl)
                  · replace h := ite_f hb h
                    refine Ok_runB env [] rfl ?_
                    cases h
                    exact Ok_fin env rfl rfl (told_eq rfl)
                · replace h := ite_f hb h
                  refine Ok_runB env [] rfl ?_
                  cases h
                  exact Ok_fin env rfl rfl (told_eq rfl)
              · replace h := ite_f hb h
                refine Ok_runB env [] rfl ?_
                cases h
                exact Ok_fin env rfl rfl (told_eq rfl)
            · replace h := ite_f hb h
              refine Ok_runB env [] rfl ?_
              cases h
              exact Ok_fin env rfl rfl (told_eq rfl)
          · replace h := ite_f hb h
            refine Ok_runB env [] rfl ?_
            cases h
            exact Ok_fin env rfl rfl (told_eq rfl)
        · replace h := ite_f hb h
          refine Ok_runB env [] rfl ?_
          cases h
          exact Ok_fin env rfl rfl (told_eq rfl)
      · replace h := ite_f hb h
        refine Ok_runB env [] rfl ?_
        cases h
        exact Ok_fin env rfl rfl (told_eq rfl)
    · replace h := ite_f hb h
      refine Ok_runB env [] rfl ?_
      cases h
      exact Ok_fin env rfl rfl (told_eq rfl)
  · replace h := ite_f hb h
    refine Ok_runB env [] rfl ?_
    cases h
    exact Ok_fin env rfl rfl (told_eq rfl)
/-- treemerge/treemergelaw10.awake -/
theorem H_F_L10_awake  (r : Bool) (h : F_L10_awake  = some r) : M_F_L10_awake  r :=
  S_F_L10_awake  r (by rw [E_F_L10_awake] at h; exact h)
mutual
def F_R6_rows_s1 (a0 : (List Row)) (a1 : Node) (a2 : Int) : Option ((List Row)) :=
  app 80 a0 ([(Row.mk a2 a1.kind a1.text a1.gaps ([] : (List Int)))]) >>= fun x1 =>
  F_R6_rows_s1_l0 (nofix x1) (a0.length : Int) ([] : List Int) (0 : Int) (nofix a1)
  partial_fixpoint
def F_R6_rows_s1_l0 (t0 : (List Row)) (t7 : Int) (t8 : (List Int)) (t9 : Int) (o1 : Node) : Option ((List Row)) :=
  if (decide (t9 < ((o1.kids.map Node.cells).length : Int))) = true then
    app 8 t8 ([(t0.length : Int)]) >>= fun x2 =>
    ix o1.kids t9 >>= fun x3 =>
    F_R6_rows_s1 (nofix t0) (nofix x3) (nofix t7) >>= fun x4 =>
    F_R6_rows_s1_l0 (nofix x4) (nofix t7) (nofix x2) (IntKind.i64.wrap (t9 + (1 : Int))) (nofix o1)
  else
    ix t0 t7 >>= fun x5 =>
    some (t0.set t7.toNat (Row.mk x5.Parent x5.Kind x5.Text x5.Gaps t8))
  partial_fixpoint
end
@[reducible] def M_F_R6_rows_s1 (a0 : (List Row)) (a1 : Node) (a2 : Int) (r : (List Row)) : Prop :=
  ACalls Tryd.prog G 79 [(.bs 5 0 0 0 a0.length), (.agg (cellsN a1)), (.int .i64 a2)] ⟨1, [(0, .row 66 (a0.map Row.cells).flatten)]⟩ (.bs 5 0 1 0 r.length) ⟨2, [(1, .row 66 (r.map Row.cells).flatten)]⟩
@[reducible] def M_F_R6_rows_s1_l0 (t0 : (List Row)) (t7 : Int) (t8 : (List Int)) (t9 : Int) (o1 : Node) (r : (List Row)) : Prop :=
  Ok Tryd.prog G tt 49 1 (Ret Tryd.prog [.tmp 6] (fun y H => ToldO Tryd.prog G 1 H y (.bs 5 0 1 0 r.length) ⟨2, [(1, .row 66 (r.map Row.cells).flatten)]⟩)) (.again (loopOf [1000000, 2000002] Tryd.f79 0).1 (loopOf [1000000, 2000002] Tryd.f79 0).2 (.n (.bs 5 0 4 0 t0.length) (.n .undef (.n .undef (.n (.int .i64 t7) .z .z) .z) (.n .undef (.n (.int .i64 t9) .z .z) .z)) (.n .undef (.n (.ptr 1 1 0) (.n (.bs 1 2 3 0 t8.length) .z .z) .z) .z)) 5 [(4, .row 66 (t0.map Row.cells).flatten), (1, .var 25 (cellsN o1)), (3, .row 3 (t8.map ic).flatten)])
theorem E_F_R6_rows_s1 (a0 : (List Row)) (a1 : Node) (a2 : Int) : F_R6_rows_s1 a0 a1 a2 = (
    app 80 a0 ([(Row.mk a2 a1.kind a1.text a1.gaps ([] : (List Int)))]) >>= fun x1 =>
    F_R6_rows_s1_l0 x1 (a0.length : Int) ([] : List Int) (0 : Int) a1
    : Option ((List Row))) := F_R6_rows_s1.eq_def a0 a1 a2
theorem E_F_R6_rows_s1_l0 (t0 : (List Row)) (t7 : Int) (t8 : (List Int)) (t9 : Int) (o1 : Node) : F_R6_rows_s1_l0 t0 t7 t8 t9 o1 = (
    if (decide (t9 < ((o1.kids.map Node.cells).length : Int))) = true then
      app 8 t8 ([(t0.length : Int)]) >>= fun x2 =>
      ix o1.kids t9 >>= fun x3 =>
      F_R6_rows_s1 t0 x3 t7 >>= fun x4 =>
      F_R6_rows_s1_l0 x4 t7 x2 (IntKind.i64.wrap (t9 + (1 : Int))) o1
    else
      ix t0 t7 >>= fun x5 =>
      some (t0.set t7.toNat (Row.mk x5.Parent x5.Kind x5.Text x5.Gaps t8))
    : Option ((List Row))) := F_R6_rows_s1_l0.eq_def t0 t7 t8 t9 o1
set_option maxHeartbeats 4000000 in
theorem S_F_R6_rows_s1 (F_R6_rows_s1_l0 : (List Row) → Int → (List Int) → Int → Node → Option ((List Row))) (H_F_R6_rows_s1_l0 : ∀ (t0 : (List Row)) (t7 : Int) (t8 : (List Int)) (t9 : Int) (o1 : Node) (r : (List Row)), F_R6_rows_s1_l0 t0 t7 t8 t9 o1 = some r → M_F_R6_rows_s1_l0 t0 t7 t8 t9 o1 r) (a0 : (List Row)) (a1 : Node) (a2 : Int) (r : (List Row)) (h : (
    app 80 a0 ([(Row.mk a2 a1.kind a1.text a1.gaps ([] : (List Int)))]) >>= fun x1 =>
    F_R6_rows_s1_l0 x1 (a0.length : Int) ([] : List Int) (0 : Int) a1
    : Option ((List Row))) = some r) : M_F_R6_rows_s1 a0 a1 a2 r := by
  refine ACalls_run (T := tt) (N := 49) (rs := [.tmp 6]) (fun vs w => by simp) Tryd.func79 rfl rfl rfl (by kernel_rfl) (by kernel_rfl) ?_
  refine Ok_runB env [1000000, 2000002] rfl ?_
  obtain ⟨x1, hx, h⟩ := bind_some h
  have hp_x1 := app_pos hx (by simp)
  have hr_x1 := hx
  refine Ok_appOR env hx rfl rfl rfl (by simp) (fun _ => rfl) rfl rfl rfl rfl rfl (by decide) rfl rfl rfl ?_
  refine Ok_runB env [1000000, 2000002] rfl ?_
  refine Ok_rowW 0 2 66 (cs' := (x1.map Row.cells).flatten) rfl rfl (wkL_appR hr_x1 (wkL_cons (wk1_refl _) (wkL_cons (wk1_refl _) (wkL_cons (wk1_refl _) (wkL_cons (wk1_refl _) (wkL_cons (wk1_sl (.inr rfl)) wkL_nil)))))) ?_
  refine Ok_bar_on ?_
  refine Ok_runB env [1000000, 2000002] rfl ?_
  refine Ok_own 8 _ 1 3 rfl rfl ?_
  exact Ok_loop_to (by kernel_rfl) (less_atP (hid_of rfl) (Nat.le_of_ble_eq_true rfl) (by simp [leFT, leV, leOs, leO, leC, rho, AV.ren, AV.ren1, AV.ren0, AV.un, AV.un1, AV.un0, AV.closed, wkS] <;> (repeat' apply And.intro) <;> first | rfl | exact fun x a _ h => (Row_ok.all a x h).2 | exact fun x a _ h => (ic_ok.all a x h).2) (by simp [leFT, leV, leOs, leO, leC, rho, AV.ren, AV.ren1, AV.ren0, AV.un, AV.un1, AV.un0, AV.closed, wkS] <;> (repeat' apply And.intro) <;> first | rfl | exact fun x a _ h => (Row_ok.all a x h).2 | exact fun x a _ h => (ic_ok.all a x h).2)) (H_F_R6_rows_s1_l0 _ _ _ _ _ _ h)
set_option maxHeartbeats 4000000 in
theorem S_F_R6_rows_s1_l0 (F_R6_rows_s1 : (List Row) → Node → Int → Option ((List Row))) (F_R6_rows_s1_l0 : (List Row) → Int → (List Int) → Int → Node → Option ((List Row))) (H_F_R6_rows_s1 : ∀ (a0 : (List Row)) (a1 : Node) (a2 : Int) (r : (List Row)), F_R6_rows_s1 a0 a1 a2 = some r → M_F_R6_rows_s1 a0 a1 a2 r) (H_F_R6_rows_s1_l0 : ∀ (t0 : (List Row)) (t7 : Int) (t8 : (List Int)) (t9 : Int) (o1 : Node) (r : (List Row)), F_R6_rows_s1_l0 t0 t7 t8 t9 o1 = some r → M_F_R6_rows_s1_l0 t0 t7 t8 t9 o1 r) (t0 : (List Row)) (t7 : Int) (t8 : (List Int)) (t9 : Int) (o1 : Node) (r : (List Row)) (h : (
    if (decide (t9 < ((o1.kids.map Node.cells).length : Int))) = true then
      app 8 t8 ([(t0.length : Int)]) >>= fun x2 =>
      ix o1.kids t9 >>= fun x3 =>
      F_R6_rows_s1 t0 x3 t7 >>= fun x4 =>
      F_R6_rows_s1_l0 x4 t7 x2 (IntKind.i64.wrap (t9 + (1 : Int))) o1
    else
      ix t0 t7 >>= fun x5 =>
      some (t0.set t7.toNat (Row.mk x5.Parent x5.Kind x5.Text x5.Gaps t8))
    : Option ((List Row))) = some r) : M_F_R6_rows_s1_l0 t0 t7 t8 t9 o1 r := by
  refine Ok_unroll ?_
  refine Ok_runB env [1000000, 2000002] rfl ?_
  refine Ok_cond (fun hb => ?_) (fun hb => ?_)
  · replace h := ite_t hb h
    refine Ok_runB env [1000000, 2000002] rfl ?_
    obtain ⟨x2, hx, h⟩ := bind_some h
    have hp_x2 := app_pos hx (by simp)
    refine Ok_appO env hx rfl rfl (by simp) (fun _ => rfl) rfl rfl rfl rfl rfl (by decide) rfl rfl rfl ?_
    refine Ok_runB env [1000000, 2000002] rfl ?_
    obtain ⟨x3, hx, h⟩ := bind_some h
    refine Ok_ixT env hx rfl rfl rfl rfl (Node.cells_eq x3) ?_
    refine Ok_runB env [1000000, 2000002] rfl ?_
    obtain ⟨x4, hx, h⟩ := bind_some h
    refine Ok_acallM (acalls_in (n := 6) (n2 := 7) (objs2 := [(6, .row 66 (x4.map Row.cells).flatten), (1, .var 25 [(.int .i64 o1.kind), (.str o1.text), (.sl 1 false (o1.gaps.map sc)), (.sl 4 false (o1.kids.map Node.cells))]), (5, .row 3 (x2.map ic).flatten)]) (y := (.bs 5 0 6 0 x4.length)) [0] [4] (H_F_R6_rows_s1 _ _ _ _ hx) rfl rfl (nodup_of rfl) rfl rfl rfl ⟨.inl ⟨rfl, rfl⟩, ⟨.inr ⟨rfl, closed3_pure _ rfl⟩, ⟨.inr ⟨rfl, closed3_pure _ rfl⟩, trivial⟩⟩⟩ (frOs_row Row_ok rfl frOs_nil) (mvOs_row Row_ok rfl mvOs_nil) rfl (.inl ⟨rfl, rfl⟩) (unOs_row Row_ok unOs_nil) (mvOs_row Row_ok rfl mvOs_nil) rfl rfl) ?_
    refine Ok_runB env [1000000, 2000002] rfl ?_
    exact Ok_again_to (by kernel_rfl) (less_atP (hid_of rfl) (Nat.le_of_ble_eq_true rfl) (by simp [leFT, leV, leOs, leO, leC, rho, AV.ren, AV.ren1, AV.ren0, AV.un, AV.un1, AV.un0, AV.closed, wkS] <;> (repeat' apply And.intro) <;> first | rfl | exact fun x a _ h => (Row_ok.all a x h).2 | exact fun x a _ h => (ic_ok.all a x h).2) (by simp [leFT, leV, leOs, leO, leC, rho, AV.ren, AV.ren1, AV.ren0, AV.un, AV.un1, AV.un0, AV.closed, wkS] <;> (repeat' apply And.intro) <;> first | rfl | exact fun x a _ h => (Row_ok.all a x h).2 | exact fun x a _ h => (ic_ok.all a x h).2)) (H_F_R6_rows_s1_l0 _ _ _ _ _ _ h)
  · replace h := ite_f hb h
    refine Ok_runB env [1000000, 2000002] rfl ?_
    refine Ok_viewB [(8, (.sl 1 false (t8.map ic)))] [2] rfl (viwL_cons ic_ok rfl rfl rfl viwL_nil) rfl rfl ?_
    refine Ok_bar_on ?_
    refine Ok_runB env [1000000, 2000002] rfl ?_
    obtain ⟨x5, hx, h⟩ := bind_some h
    have he_x5 := hx
    refine Ok_ixB env rfl rfl rfl rfl (ix_nn hx) (ix_lt hx) ?_
    refine Ok_runB env [1000000, 2000002] rfl ?_
    refine Ok_storeBT (x' := (Row.mk x5.Parent x5.Kind x5.Text x5.Gaps t8)) (fo := 4) he_x5 Row_ok rfl rfl rfl rfl rfl rfl rfl ?_
    refine Ok_runB env [1000000, 2000002] rfl ?_
    cases h
    exact Ok_finK env rfl rfl (toldO_renR rfl rfl (leOs_row Row_ok rfl rfl leOs_nil) (by simp [AV.ren, AV.ren1, rho]) rfl)
/-- treemerge/treemergeref06.rows_s1 -/
theorem H_F_R6_rows_s1 (a0 : (List Row)) (a1 : Node) (a2 : Int) (r : (List Row)) (h : F_R6_rows_s1 a0 a1 a2 = some r) : M_F_R6_rows_s1 a0 a1 a2 r :=
  (F_R6_rows_s1.mutual_partial_correctness (fun a0 a1 a2 r => M_F_R6_rows_s1 a0 a1 a2 r) (fun t0 t7 t8 t9 o1 r => M_F_R6_rows_s1_l0 t0 t7 t8 t9 o1 r) (fun F0 h0 => S_F_R6_rows_s1 F0 h0) (fun F0 F1 h0 h1 => S_F_R6_rows_s1_l0 F0 F1 h0 h1)).1 a0 a1 a2 r h
/-- treemerge/treemergeref06.rows_s1 -/
theorem H_F_R6_rows_s1_l0 (t0 : (List Row)) (t7 : Int) (t8 : (List Int)) (t9 : Int) (o1 : Node) (r : (List Row)) (h : F_R6_rows_s1_l0 t0 t7 t8 t9 o1 = some r) : M_F_R6_rows_s1_l0 t0 t7 t8 t9 o1 r :=
  (F_R6_rows_s1.mutual_partial_correctness (fun a0 a1 a2 r => M_F_R6_rows_s1 a0 a1 a2 r) (fun t0 t7 t8 t9 o1 r => M_F_R6_rows_s1_l0 t0 t7 t8 t9 o1 r) (fun F0 h0 => S_F_R6_rows_s1 F0 h0) (fun F0 F1 h0 h1 => S_F_R6_rows_s1_l0 F0 F1 h0 h1)).2 t0 t7 t8 t9 o1 r h
def F_R6_Rows (a0 : Node) : Option ((List Row)) :=
  F_R6_rows_s1 ([] : List Row) a0 (-1 : Int) >>= fun x1 =>
  some x1
@[reducible] def M_F_R6_Rows (a0 : Node) (r : (List Row)) : Prop :=
  Fn Tryd.prog G 53 [(.agg (cellsN a0))] (.sl 5 false (r.map Row.cells))
theorem E_F_R6_Rows (a0 : Node) : F_R6_Rows a0 = (
    F_R6_rows_s1 ([] : List Row) a0 (-1 : Int) >>= fun x1 =>
    some x1
    : Option ((List Row))) := F_R6_Rows.eq_def a0
set_option maxHeartbeats 4000000 in
theorem S_F_R6_Rows  (a0 : Node) (r : (List Row)) (h : (
    F_R6_rows_s1 ([] : List Row) a0 (-1 : Int) >>= fun x1 =>
    some x1
    : Option ((List Row))) = some r) : M_F_R6_Rows a0 r := by
  refine Fn_run (T := tt) (N := 7) (rs := [.tmp 2]) (fun vs w => by simp) Tryd.func53 rfl rfl rfl rfl (by kernel_rfl) (all_pure3 rfl) (closed3_pure _ rfl) ?_
  refine Ok_runB env [2000001] rfl ?_
  refine Ok_ownB 3 _ 5 66 rfl rfl rfl ?_
  refine Ok_bar_on ?_
  refine Ok_runB env [2000001] rfl ?_
  obtain ⟨x1, hx, h⟩ := bind_some h
  refine Ok_acallM (acalls_in (n := 2) (n2 := 3) (objs2 := [(0, .var 25 [(.int .i64 a0.kind), (.str a0.text), (.sl 1 false (a0.gaps.map sc)), (.sl 4 false (a0.kids.map Node.cells))]), (2, .row 66 (x1.map Row.cells).flatten)]) (y := (.bs 5 1 2 0 x1.length)) [1] [1] (H_F_R6_rows_s1 _ _ _ _ hx) rfl rfl (nodup_of rfl) rfl rfl rfl ⟨.inl ⟨rfl, rfl⟩, ⟨.inr ⟨rfl, closed3_pure _ rfl⟩, ⟨.inr ⟨rfl, closed3_pure _ rfl⟩, trivial⟩⟩⟩ (frOs_row Row_ok rfl frOs_nil) (mvOs_row Row_ok rfl mvOs_nil) rfl (.inl ⟨rfl, rfl⟩) (unOs_row Row_ok unOs_nil) (mvOs_row Row_ok rfl mvOs_nil) rfl rfl) ?_
  refine Ok_runB env [2000001] rfl ?_
  cases h
  exact Ok_fin env rfl rfl (told_view (viewT_one (view_one (view_own Row_ok rfl) (by simp)) (by simp)))
/-- treemerge/treemergeref06.Rows -/
theorem H_F_R6_Rows (a0 : Node) (r : (List Row)) (h : F_R6_Rows a0 = some r) : M_F_R6_Rows a0 r :=
  S_F_R6_Rows a0 r (by rw [E_F_R6_Rows] at h; exact h)
def F_R10_Of_l2 (t7 : (List Int)) (t11 : (List Int)) (t12 : Int) : Option ((List Int) × Bool) :=
  if (decide ((0 : Int) ≤ t12)) = true then
    ix t7 t12 >>= fun x7 =>
    app 8 t11 ([x7]) >>= fun x8 =>
    F_R10_Of_l2 (nofix t7) (nofix x8) (IntKind.i64.wrap (t12 - (1 : Int)))
  else
    some (t11, true)
  partial_fixpoint
@[reducible] def M_F_R10_Of_l2 (t7 : (List Int)) (t11 : (List Int)) (t12 : Int) (r : (List Int) × Bool) : Prop :=
  Ok Tryd.prog G tt 67 0 (Ret Tryd.prog [.tmp 4, .tmp 5] (fun y H => Told Tryd.prog G H y (.tup [(.sl 1 false (r.1.map ic)), (.bool r.2)]))) (.again (loopOf [2000015] Tryd.f19 2).1 (loopOf [2000015] Tryd.f19 2).2 (.n .undef (.n .undef (.n .undef (.n (.sl 1 false (t7.map ic)) .z .z) (.n (.bs 1 2 2 0 t11.length) .z .z)) .z) (.n .undef (.n .undef .z (.n (.int .i64 t12) .z .z)) .z)) 3 [(0, .dead), (1, .dead), (2, .row 3 (t11.map ic).flatten)])
theorem E_F_R10_Of_l2 (t7 : (List Int)) (t11 : (List Int)) (t12 : Int) : F_R10_Of_l2 t7 t11 t12 = (
    if (decide ((0 : Int) ≤ t12)) = true then
      ix t7 t12 >>= fun x7 =>
      app 8 t11 ([x7]) >>= fun x8 =>
      F_R10_Of_l2 t7 x8 (IntKind.i64.wrap (t12 - (1 : Int)))
    else
      some (t11, true)
    : Option ((List Int) × Bool)) := F_R10_Of_l2.eq_def t7 t11 t12
set_option maxHeartbeats 4000000 in
theorem S_F_R10_Of_l2 (F_R10_Of_l2 : (List Int) → (List Int) → Int → Option ((List Int) × Bool)) (H_F_R10_Of_l2 : ∀ (t7 : (List Int)) (t11 : (List Int)) (t12 : Int) (r : (List Int) × Bool), F_R10_Of_l2 t7 t11 t12 = some r → M_F_R10_Of_l2 t7 t11 t12 r) (t7 : (List Int)) (t11 : (List Int)) (t12 : Int) (r : (List Int) × Bool) (h : (
    if (decide ((0 : Int) ≤ t12)) = true then
      ix t7 t12 >>= fun x7 =>
      app 8 t11 ([x7]) >>= fun x8 =>
      F_R10_Of_l2 t7 x8 (IntKind.i64.wrap (t12 - (1 : Int)))
    else
      some (t11, true)
    : Option ((List Int) × Bool)) = some r) : M_F_R10_Of_l2 t7 t11 t12 r := by
  refine Ok_unroll ?_
  refine Ok_runB env [2000015] rfl ?_
  refine Ok_bar_on ?_
  refine Ok_runB env [2000015] rfl ?_
  refine Ok_cond (fun hb => ?_) (fun hb => ?_)
  · replace h := ite_t hb h
    refine Ok_runB env [2000015] rfl ?_
    obtain ⟨x7, hx, h⟩ := bind_some h
    refine Ok_ixT env hx rfl rfl rfl rfl rfl ?_
    refine Ok_runB env [2000015] rfl ?_
    obtain ⟨x8, hx, h⟩ := bind_some h
    have hp_x8 := app_pos hx (by simp)
    refine Ok_appO env hx rfl rfl (by simp) (fun _ => rfl) rfl rfl rfl rfl rfl (by decide) rfl rfl rfl ?_
    refine Ok_runB env [2000015] rfl ?_
    exact Ok_again_to (by kernel_rfl) (less_at (by simp [leFT, leV, leOs, leO, leC, rho, AV.ren, AV.ren1, AV.ren0, AV.un, AV.un1, AV.un0, AV.closed, wkS] <;> (repeat' apply And.intro) <;> first | rfl | exact fun x a _ h => (ic_ok.all a x h).2) (by simp [leFT, leV, leOs, leO, leC, rho, AV.ren, AV.ren1, AV.ren0, AV.un, AV.un1, AV.un0, AV.closed, wkS] <;> (repeat' apply And.intro) <;> first | rfl | exact fun x a _ h => (ic_ok.all a x h).2)) (H_F_R10_Of_l2 _ _ _ _ h)
  · replace h := ite_f hb h
    refine Ok_runB env [2000015] rfl ?_
    cases h
    exact Ok_fin env rfl rfl (told_view (viewT_tup (viewLs_cons (view_one (view_own ic_ok rfl) (by simp)) (viewLs_cons (view_one (view1_bool rfl) (by simp)) viewLs_nil))))
/-- treemerge/treemergeref10.Of -/
theorem H_F_R10_Of_l2 (t7 : (List Int)) (t11 : (List Int)) (t12 : Int) (r : (List Int) × Bool) (h : F_R10_Of_l2 t7 t11 t12 = some r) : M_F_R10_Of_l2 t7 t11 t12 r :=
  F_R10_Of_l2.partial_correctness (fun t7 t11 t12 r => M_F_R10_Of_l2 t7 t11 t12 r) (fun F0 h0 => S_F_R10_Of_l2 F0 h0) t7 t11 t12 r h
mutual
def F_R10_Of_l0 (t6 : (List Row)) (t7 : (List Int)) (t8 : Int) : Option ((List Int) × Bool) :=
  if (decide ((0 : Int) < t8)) = true then
    ix t6 t8 >>= fun x2 =>
    ix t6 x2.Parent >>= fun x3 =>
    F_R10_Of_l1 (nofix t6) (nofix t7) (nofix t8) x3.Kids (0 : Int)
  else
    F_R10_Of_l2 (nofix t7) ([] : List Int) (IntKind.i64.wrap ((t7.length : Int) - (1 : Int)))
  partial_fixpoint
def F_R10_Of_l1 (t6 : (List Row)) (t7 : (List Int)) (t8 : Int) (t9 : (List Int)) (t10 : Int) : Option ((List Int) × Bool) :=
  ix t9 t10 >>= fun x4 =>
  if (!decide (x4 = t8)) = true then
    F_R10_Of_l1 (nofix t6) (nofix t7) (nofix t8) (nofix t9) (IntKind.i64.wrap (t10 + (1 : Int)))
  else
    app 8 t7 ([t10]) >>= fun x5 =>
    ix t6 t8 >>= fun x6 =>
    F_R10_Of_l0 (nofix t6) (nofix x5) x6.Parent
  partial_fixpoint
end
@[reducible] def M_F_R10_Of_l0 (t6 : (List Row)) (t7 : (List Int)) (t8 : Int) (r : (List Int) × Bool) : Prop :=
  Ok Tryd.prog G tt 67 0 (Ret Tryd.prog [.tmp 4, .tmp 5] (fun y H => Told Tryd.prog G H y (.tup [(.sl 1 false (r.1.map ic)), (.bool r.2)]))) (.again (loopOf [2000015] Tryd.f19 0).1 (loopOf [2000015] Tryd.f19 0).2 (.n .undef (.n .undef (.n .undef (.n (.bs 1 1 1 0 t7.length) .z .z) .z) .z) (.n .undef (.n .undef (.n (.int .i64 t8) .z .z) .z) (.n (.sl 5 false (t6.map Row.cells)) .z .z))) 2 [(0, .dead), (1, .row 3 (t7.map ic).flatten)])
@[reducible] def M_F_R10_Of_l1 (t6 : (List Row)) (t7 : (List Int)) (t8 : Int) (t9 : (List Int)) (t10 : Int) (r : (List Int) × Bool) : Prop :=
  Ok Tryd.prog G tt 67 0 (Ret Tryd.prog [.tmp 4, .tmp 5] (fun y H => Told Tryd.prog G H y (.tup [(.sl 1 false (r.1.map ic)), (.bool r.2)]))) (.again (loopOf [2000015] Tryd.f19 1).1 (loopOf [2000015] Tryd.f19 1).2 (.n .undef (.n .undef (.n .undef (.n (.bs 1 1 1 0 t7.length) .z .z) .z) (.n .undef (.n (.sl 1 false (t9.map ic)) .z .z) .z)) (.n .undef (.n .undef (.n (.int .i64 t8) .z .z) .z) (.n (.sl 5 false (t6.map Row.cells)) (.n (.int .i64 t10) .z .z) .z))) 2 [(0, .dead), (1, .row 3 (t7.map ic).flatten)])
theorem E_F_R10_Of_l0 (t6 : (List Row)) (t7 : (List Int)) (t8 : Int) : F_R10_Of_l0 t6 t7 t8 = (
    if (decide ((0 : Int) < t8)) = true then
      ix t6 t8 >>= fun x2 =>
      ix t6 x2.Parent >>= fun x3 =>
      F_R10_Of_l1 t6 t7 t8 x3.Kids (0 : Int)
    else
      F_R10_Of_l2 t7 ([] : List Int) (IntKind.i64.wrap ((t7.length : Int) - (1 : Int)))
    : Option ((List Int) × Bool)) := F_R10_Of_l0.eq_def t6 t7 t8
theorem E_F_R10_Of_l1 (t6 : (List Row)) (t7 : (List Int)) (t8 : Int) (t9 : (List Int)) (t10 : Int) : F_R10_Of_l1 t6 t7 t8 t9 t10 = (
    ix t9 t10 >>= fun x4 =>
    if (!decide (x4 = t8)) = true then
      F_R10_Of_l1 t6 t7 t8 t9 (IntKind.i64.wrap (t10 + (1 : Int)))
    else
      app 8 t7 ([t10]) >>= fun x5 =>
      ix t6 t8 >>= fun x6 =>
      F_R10_Of_l0 t6 x5 x6.Parent
    : Option ((List Int) × Bool)) := F_R10_Of_l1.eq_def t6 t7 t8 t9 t10
set_option maxHeartbeats 4000000 in
theorem S_F_R10_Of_l0 (F_R10_Of_l1 : (List Row) → (List Int) → Int → (List Int) → Int → Option ((List Int) × Bool)) (H_F_R10_Of_l1 : ∀ (t6 : (List Row)) (t7 : (List Int)) (t8 : Int) (t9 : (List Int)) (t10 : Int) (r : (List Int) × Bool), F_R10_Of_l1 t6 t7 t8 t9 t10 = some r → M_F_R10_Of_l1 t6 t7 t8 t9 t10 r) (t6 : (List Row)) (t7 : (List Int)) (t8 : Int) (r : (List Int) × Bool) (h : (
    if (decide ((0 : Int) < t8)) = true then
      ix t6 t8 >>= fun x2 =>
      ix t6 x2.Parent >>= fun x3 =>
      F_R10_Of_l1 t6 t7 t8 x3.Kids (0 : Int)
    else
      F_R10_Of_l2 t7 ([] : List Int) (IntKind.i64.wrap ((t7.length : Int) - (1 : Int)))
    : Option ((List Int) × Bool)) = some r) : M_F_R10_Of_l0 t6 t7 t8 r := by
  refine Ok_unroll ?_
  refine Ok_runB env [2000015] rfl ?_
  refine Ok_cond (fun hb => ?_) (fun hb => ?_)
  · replace h := ite_t hb h
    refine Ok_runB env [2000015] rfl ?_
    obtain ⟨x2, hx, h⟩ := bind_some h
    refine Ok_ixT env hx rfl rfl rfl rfl rfl ?_
    refine Ok_runB env [2000015] rfl ?_
    obtain ⟨x3, hx, h⟩ := bind_some h
    refine Ok_ixT env hx rfl rfl rfl rfl rfl ?_
    refine Ok_runB env [2000015] rfl ?_
    exact Ok_loop_to (by kernel_rfl) (less_at (by simp [leFT, leV, leOs, leO, leC, rho, AV.ren, AV.ren1, AV.ren0, AV.un, AV.un1, AV.un0, AV.closed, wkS] <;> (repeat' apply And.intro) <;> first | rfl | exact fun x a _ h => (ic_ok.all a x h).2) (by simp [leFT, leV, leOs, leO, leC, rho, AV.ren, AV.ren1, AV.ren0, AV.un, AV.un1, AV.un0, AV.closed, wkS] <;> (repeat' apply And.intro) <;> first | rfl | exact fun x a _ h => (ic_ok.all a x h).2)) (H_F_R10_Of_l1 _ _ _ _ _ _ h)
  · replace h := ite_f hb h
    refine Ok_runB env [2000015] rfl ?_
    refine Ok_own 11 _ 1 3 rfl rfl ?_
    refine Ok_view [(7, (.sl 1 false (t7.map ic))), (52, (.sl 1 false (t7.map ic)))] [1] (viwL_cons ic_ok rfl rfl rfl (viwL_cons ic_ok rfl rfl rfl viwL_nil)) rfl rfl ?_
    exact Ok_loop_to (by kernel_rfl) (less_at (by simp [leFT, leV, leOs, leO, leC, rho, AV.ren, AV.ren1, AV.ren0, AV.un, AV.un1, AV.un0, AV.closed, wkS] <;> (repeat' apply And.intro) <;> first | rfl | exact fun x a _ h => (ic_ok.all a x h).2) (by simp [leFT, leV, leOs, leO, leC, rho, AV.ren, AV.ren1, AV.ren0, AV.un, AV.un1, AV.un0, AV.closed, wkS] <;> (repeat' apply And.intro) <;> first | rfl | exact fun x a _ h => (ic_ok.all a x h).2)) (H_F_R10_Of_l2 _ _ _ _ h)
set_option maxHeartbeats 4000000 in
theorem S_F_R10_Of_l1 (F_R10_Of_l0 : (List Row) → (List Int) → Int → Option ((List Int) × Bool)) (F_R10_Of_l1 : (List Row) → (List Int) → Int → (List Int) → Int → Option ((List Int) × Bool)) (H_F_R10_Of_l0 : ∀ (t6 : (List Row)) (t7 : (List Int)) (t8 : Int) (r : (List Int) × Bool), F_R10_Of_l0 t6 t7 t8 = some r → M_F_R10_Of_l0 t6 t7 t8 r) (H_F_R10_Of_l1 : ∀ (t6 : (List Row)) (t7 : (List Int)) (t8 : Int) (t9 : (List Int)) (t10 : Int) (r : (List Int) × Bool), F_R10_Of_l1 t6 t7 t8 t9 t10 = some r → M_F_R10_Of_l1 t6 t7 t8 t9 t10 r) (t6 : (List Row)) (t7 : (List Int)) (t8 : Int) (t9 : (List Int)) (t10 : Int) (r : (List Int) × Bool) (h : (
    ix t9 t10 >>= fun x4 =>
    if (!decide (x4 = t8)) = true then
      F_R10_Of_l1 t6 t7 t8 t9 (IntKind.i64.wrap (t10 + (1 : Int)))
    else
      app 8 t7 ([t10]) >>= fun x5 =>
      ix t6 t8 >>= fun x6 =>
      F_R10_Of_l0 t6 x5 x6.Parent
    : Option ((List Int) × Bool)) = some r) : M_F_R10_Of_l1 t6 t7 t8 t9 t10 r := by
  refine Ok_unroll ?_
  refine Ok_runB env [2000015] rfl ?_
  obtain ⟨x4, hx, h⟩ := bind_some h
  refine Ok_ixT env hx rfl rfl rfl rfl rfl ?_
  refine Ok_runB env [2000015] rfl ?_
  refine Ok_cond (fun hb => ?_) (fun hb => ?_)
  · replace h := ite_t hb h
    refine Ok_runB env [2000015] rfl ?_
    exact Ok_again_to (by kernel_rfl) (less_at (by simp [leFT, leV, leOs, leO, leC, rho, AV.ren, AV.ren1, AV.ren0, AV.un, AV.un1, AV.un0, AV.closed, wkS] <;> (repeat' apply And.intro) <;> first | rfl | exact fun x a _ h => (ic_ok.all a x h).2) (by simp [leFT, leV, leOs, leO, leC, rho, AV.ren, AV.ren1, AV.ren0, AV.un, AV.un1, AV.un0, AV.closed, wkS] <;> (repeat' apply And.intro) <;> first | rfl | exact fun x a _ h => (ic_ok.all a x h).2)) (H_F_R10_Of_l1 _ _ _ _ _ _ h)
  · replace h := ite_f hb h
    refine Ok_runB env [2000015] rfl ?_
    obtain ⟨x5, hx, h⟩ := bind_some h
    have hp_x5 := app_pos hx (by simp)
    refine Ok_appO env hx rfl rfl (by simp) (fun _ => rfl) rfl rfl rfl rfl rfl (by decide) rfl rfl rfl ?_
    refine Ok_runB env [2000015] rfl ?_
    obtain ⟨x6, hx, h⟩ := bind_some h
    refine Ok_ixT env hx rfl rfl rfl rfl rfl ?_
    refine Ok_runB env [2000015] rfl ?_
    exact Ok_again_to (by kernel_rfl) (less_at (by simp [leFT, leV, leOs, leO, leC, rho, AV.ren, AV.ren1, AV.ren0, AV.un, AV.un1, AV.un0, AV.closed, wkS] <;> (repeat' apply And.intro) <;> first | rfl | exact fun x a _ h => (ic_ok.all a x h).2) (by simp [leFT, leV, leOs, leO, leC, rho, AV.ren, AV.ren1, AV.ren0, AV.un, AV.un1, AV.un0, AV.closed, wkS] <;> (repeat' apply And.intro) <;> first | rfl | exact fun x a _ h => (ic_ok.all a x h).2)) (H_F_R10_Of_l0 _ _ _ _ h)
/-- treemerge/treemergeref10.Of -/
theorem H_F_R10_Of_l0 (t6 : (List Row)) (t7 : (List Int)) (t8 : Int) (r : (List Int) × Bool) (h : F_R10_Of_l0 t6 t7 t8 = some r) : M_F_R10_Of_l0 t6 t7 t8 r :=
  (F_R10_Of_l0.mutual_partial_correctness (fun t6 t7 t8 r => M_F_R10_Of_l0 t6 t7 t8 r) (fun t6 t7 t8 t9 t10 r => M_F_R10_Of_l1 t6 t7 t8 t9 t10 r) (fun F0 h0 => S_F_R10_Of_l0 F0 h0) (fun F0 F1 h0 h1 => S_F_R10_Of_l1 F0 F1 h0 h1)).1 t6 t7 t8 r h
/-- treemerge/treemergeref10.Of -/
theorem H_F_R10_Of_l1 (t6 : (List Row)) (t7 : (List Int)) (t8 : Int) (t9 : (List Int)) (t10 : Int) (r : (List Int) × Bool) (h : F_R10_Of_l1 t6 t7 t8 t9 t10 = some r) : M_F_R10_Of_l1 t6 t7 t8 t9 t10 r :=
  (F_R10_Of_l0.mutual_partial_correctness (fun t6 t7 t8 r => M_F_R10_Of_l0 t6 t7 t8 r) (fun t6 t7 t8 t9 t10 r => M_F_R10_Of_l1 t6 t7 t8 t9 t10 r) (fun F0 h0 => S_F_R10_Of_l0 F0 h0) (fun F0 F1 h0 h1 => S_F_R10_Of_l1 F0 F1 h0 h1)).2 t6 t7 t8 t9 t10 r h
def F_R10_Of (a0 : Node) (a1 : Int) : Option ((List Int) × Bool) :=
  F_R6_Rows a0 >>= fun x1 =>
  if (decide (a1 < (0 : Int))) = true then
    some (([] : (List Int)), false)
  else
    if (decide (((x1.map Row.cells).length : Int) ≤ a1)) = true then
      some (([] : (List Int)), false)
    else
      F_R10_Of_l0 x1 ([] : List Int) a1
@[reducible] def M_F_R10_Of (a0 : Node) (a1 : Int) (r : (List Int) × Bool) : Prop :=
  Fn Tryd.prog G 19 [(.agg (cellsN a0)), (.int .i64 a1)] (.tup [(.sl 1 false (r.1.map ic)), (.bool r.2)])
theorem E_F_R10_Of (a0 : Node) (a1 : Int) : F_R10_Of a0 a1 = (
    F_R6_Rows a0 >>= fun x1 =>
    if (decide (a1 < (0 : Int))) = true then
      some (([] : (List Int)), false)
    else
      if (decide (((x1.map Row.cells).length : Int) ≤ a1)) = true then
        some (([] : (List Int)), false)
      else
        F_R10_Of_l0 x1 ([] : List Int) a1
    : Option ((List Int) × Bool)) := F_R10_Of.eq_def a0 a1
set_option maxHeartbeats 4000000 in
theorem S_F_R10_Of  (a0 : Node) (a1 : Int) (r : (List Int) × Bool) (h : (
    F_R6_Rows a0 >>= fun x1 =>
    if (decide (a1 < (0 : Int))) = true then
      some (([] : (List Int)), false)
    else
      if (decide (((x1.map Row.cells).length : Int) ≤ a1)) = true then
        some (([] : (List Int)), false)
      else
        F_R10_Of_l0 x1 ([] : List Int) a1
    : Option ((List Int) × Bool)) = some r) : M_F_R10_Of a0 a1 r := by
  refine Fn_run (T := tt) (N := 67) (rs := [.tmp 4, .tmp 5]) (fun vs w => by simp) Tryd.func19 rfl rfl rfl rfl (by kernel_rfl) (all_pure3 rfl) (closed3_pure _ rfl) ?_
  refine Ok_runB env [2000015] rfl ?_
  obtain ⟨x1, hx, h⟩ := bind_some h
  refine Ok_call (H_F_R6_Rows _ _ hx) ?_
  refine Ok_runB env [2000015] rfl ?_
  refine Ok_guard_f (fun hb => ?_) (fun hb => ?_)
  · replace h := ite_f hb h
    refine Ok_runB env [2000015] rfl ?_
    refine Ok_cond (fun hb => ?_) (fun hb => ?_)
    · replace h := ite_t hb h
      refine Ok_runB env [2000015] rfl ?_
      cases h
      exact Ok_fin env rfl rfl (told_view (viewT_tup (viewLs_cons (view_one (view1_sl (.inr rfl)) (by simp)) (viewLs_cons (view_one (view1_bool rfl) (by simp)) viewLs_nil))))
    · replace h := ite_f hb h
      refine Ok_runB env [2000015] rfl ?_
      refine Ok_own 7 _ 1 3 rfl rfl ?_
      exact Ok_loop_to (by kernel_rfl) (less_at (by simp [leFT, leV, leOs, leO, leC, rho, AV.ren, AV.ren1, AV.ren0, AV.un, AV.un1, AV.un0, AV.closed, wkS] <;> (repeat' apply And.intro) <;> first | rfl | exact fun x a _ h => (ic_ok.all a x h).2) (by simp [leFT, leV, leOs, leO, leC, rho, AV.ren, AV.ren1, AV.ren0, AV.un, AV.un1, AV.un0, AV.closed, wkS] <;> (repeat' apply And.intro) <;> first | rfl | exact fun x a _ h => (ic_ok.all a x h).2)) (H_F_R10_Of_l0 _ _ _ _ h)
  · replace h := ite_t hb h
    refine Ok_runB env [2000015] rfl ?_
    cases h
    exact Ok_fin env rfl rfl (told_view (viewT_tup (viewLs_cons (view_one (view1_sl (.inr rfl)) (by simp)) (viewLs_cons (view_one (view1_bool rfl) (by simp)) viewLs_nil))))
/-- treemerge/treemergeref10.Of -/
theorem H_F_R10_Of (a0 : Node) (a1 : Int) (r : (List Int) × Bool) (h : F_R10_Of a0 a1 = some r) : M_F_R10_Of a0 a1 r :=
  S_F_R10_Of a0 a1 r (by rw [E_F_R10_Of] at h; exact h)
def F_R10_Index_l0 (t1 : (List Int)) (t6 : (List Row)) (t7 : Int) (t8 : Int) : Option (Int × Bool) :=
  if (decide (t8 < ((t1.map ic).length : Int))) = true then
    ix t1 t8 >>= fun x2 =>
    if (decide (x2 < (0 : Int))) = true then
      some ((0 : Int), false)
    else
      ix t1 t8 >>= fun x3 =>
      ix t6 t7 >>= fun x4 =>
      if (decide (((x4.Kids.map ic).length : Int) ≤ x3)) = true then
        some ((0 : Int), false)
      else
        ix t6 t7 >>= fun x5 =>
        ix t1 t8 >>= fun x6 =>
        ix x5.Kids x6 >>= fun x7 =>
        F_R10_Index_l0 (nofix t1) (nofix t6) (nofix x7) (IntKind.i64.wrap (t8 + (1 : Int)))
  else
    some (t7, true)
  partial_fixpoint
@[reducible] def M_F_R10_Index_l0 (t1 : (List Int)) (t6 : (List Row)) (t7 : Int) (t8 : Int) (r : Int × Bool) : Prop :=
  Ok Tryd.prog G tt 47 0 (Ret Tryd.prog [.tmp 4, .tmp 5] (fun y H => Told Tryd.prog G H y (.tup [(.int .i64 r.1), (.bool r.2)]))) (.again (loopOf [] Tryd.f21 0).1 (loopOf [] Tryd.f21 0).2 (.n .undef (.n (.sl 1 false (t1.map ic)) (.n .undef (.n (.int .i64 t7) .z .z) .z) .z) (.n .undef (.n .undef (.n (.int .i64 t8) .z .z) .z) (.n (.sl 5 false (t6.map Row.cells)) .z .z))) 1 [])
theorem E_F_R10_Index_l0 (t1 : (List Int)) (t6 : (List Row)) (t7 : Int) (t8 : Int) : F_R10_Index_l0 t1 t6 t7 t8 = (
    if (decide (t8 < ((t1.map ic).length : Int))) = true then
      ix t1 t8 >>= fun x2 =>
      if (decide (x2 < (0 : Int))) = true then
        some ((0 : Int), false)
      else
        ix t1 t8 >>= fun x3 =>
        ix t6 t7 >>= fun x4 =>
        if (decide (((x4.Kids.map ic).length : Int) ≤ x3)) = true then
          some ((0 : Int), false)
        else
          ix t6 t7 >>= fun x5 =>
          ix t1 t8 >>= fun x6 =>
          ix x5.Kids x6 >>= fun x7 =>
          F_R10_Index_l0 t1 t6 x7 (IntKind.i64.wrap (t8 + (1 : Int)))
    else
      some (t7, true)
    : Option (Int × Bool)) := F_R10_Index_l0.eq_def t1 t6 t7 t8
set_option maxHeartbeats 4000000 in
theorem S_F_R10_Index_l0 (F_R10_Index_l0 : (List Int) → (List Row) → Int → Int → Option (Int × Bool)) (H_F_R10_Index_l0 : ∀ (t1 : (List Int)) (t6 : (List Row)) (t7 : Int) (t8 : Int) (r : Int × Bool), F_R10_Index_l0 t1 t6 t7 t8 = some r → M_F_R10_Index_l0 t1 t6 t7 t8 r) (t1 : (List Int)) (t6 : (List Row)) (t7 : Int) (t8 : Int) (r : Int × Bool) (h : (
    if (decide (t8 < ((t1.map ic).length : Int))) = true then
      ix t1 t8 >>= fun x2 =>
      if (decide (x2 < (0 : Int))) = true then
        some ((0 : Int), false)
      else
        ix t1 t8 >>= fun x3 =>
        ix t6 t7 >>= fun x4 =>
        if (decide (((x4.Kids.map ic).length : Int) ≤ x3)) = true then
          some ((0 : Int), false)
        else
          ix t6 t7 >>= fun x5 =>
          ix t1 t8 >>= fun x6 =>
          ix x5.Kids x6 >>= fun x7 =>
          F_R10_Index_l0 t1 t6 x7 (IntKind.i64.wrap (t8 + (1 : Int)))
    else
      some (t7, true)
    : Option (Int × Bool)) = some r) : M_F_R10_Index_l0 t1 t6 t7 t8 r := by
  refine Ok_unroll ?_
  refine Ok_runB env [] rfl ?_
  refine Ok_cond (fun hb => ?_) (fun hb => ?_)
  · replace h := ite_t hb h
    refine Ok_runB env [] rfl ?_
    obtain ⟨x2, hx, h⟩ := bind_some h
    refine Ok_ixT env hx rfl rfl rfl rfl rfl ?_
    refine Ok_runB env [] rfl ?_
    refine Ok_guard_f (fun hb => ?_) (fun hb => ?_)
    · replace h := ite_f hb h
      refine Ok_runB env [] rfl ?_
      obtain ⟨x3, hx, h⟩ := bind_some h
      refine Ok_ixT env hx rfl rfl rfl rfl rfl ?_
      refine Ok_runB env [] rfl ?_
      obtain ⟨x4, hx, h⟩ := bind_some h
      refine Ok_ixT env hx rfl rfl rfl rfl rfl ?_
      refine Ok_runB env [] rfl ?_
      refine Ok_cond (fun hb => ?_) (fun hb => ?_)
      · replace h := ite_t hb h
        refine Ok_runB env [] rfl ?_
        cases h
        exact Ok_fin env rfl rfl (told_eq rfl)
      · replace h := ite_f hb h
        refine Ok_runB env [] rfl ?_
        obtain ⟨x5, hx, h⟩ := bind_some h
        refine Ok_ixT env hx rfl rfl rfl rfl rfl ?_
        refine Ok_runB env [] rfl ?_
        obtain ⟨x6, hx, h⟩ := bind_some h
        refine Ok_ixT env hx rfl rfl rfl rfl rfl ?_
        refine Ok_runB env [] rfl ?_
        obtain ⟨x7, hx, h⟩ := bind_some h
        refine Ok_ixT env hx rfl rfl rfl rfl rfl ?_
        refine Ok_runB env [] rfl ?_
        exact Ok_again_to (by kernel_rfl) (less_at (by simp [leFT, leV, leOs, leO, leC, rho, AV.ren, AV.ren1, AV.ren0, AV.un, AV.un1, AV.un0, AV.closed, wkS] <;> (repeat' apply And.intro) <;> first | rfl) (by simp [leFT, leV, leOs, leO, leC, rho, AV.ren, AV.ren1, AV.ren0, AV.un, AV.un1, AV.un0, AV.closed, wkS] <;> (repeat' apply And.intro) <;> first | rfl)) (H_F_R10_Index_l0 _ _ _ _ _ h)
    · replace h := ite_t hb h
      refine Ok_runB env [] rfl ?_
      cases h
      exact Ok_fin env rfl rfl (told_eq rfl)
  · replace h := ite_f hb h
    refine Ok_runB env [] rfl ?_
    cases h
    exact Ok_fin env rfl rfl (told_eq rfl)
/-- treemerge/treemergeref10.Index -/
theorem H_F_R10_Index_l0 (t1 : (List Int)) (t6 : (List Row)) (t7 : Int) (t8 : Int) (r : Int × Bool) (h : F_R10_Index_l0 t1 t6 t7 t8 = some r) : M_F_R10_Index_l0 t1 t6 t7 t8 r :=
  F_R10_Index_l0.partial_correctness (fun t1 t6 t7 t8 r => M_F_R10_Index_l0 t1 t6 t7 t8 r) (fun F0 h0 => S_F_R10_Index_l0 F0 h0) t1 t6 t7 t8 r h
def F_R10_Index (a0 : Node) (a1 : (List Int)) : Option (Int × Bool) :=
  F_R6_Rows a0 >>= fun x1 =>
  F_R10_Index_l0 a1 x1 (0 : Int) (0 : Int)
@[reducible] def M_F_R10_Index (a0 : Node) (a1 : (List Int)) (r : Int × Bool) : Prop :=
  Fn Tryd.prog G 21 [(.agg (cellsN a0)), (.sl 1 false (a1.map ic))] (.tup [(.int .i64 r.1), (.bool r.2)])
theorem E_F_R10_Index (a0 : Node) (a1 : (List Int)) : F_R10_Index a0 a1 = (
    F_R6_Rows a0 >>= fun x1 =>
    F_R10_Index_l0 a1 x1 (0 : Int) (0 : Int)
    : Option (Int × Bool)) := F_R10_Index.eq_def a0 a1
set_option maxHeartbeats 4000000 in
theorem S_F_R10_Index  (a0 : Node) (a1 : (List Int)) (r : Int × Bool) (h : (
    F_R6_Rows a0 >>= fun x1 =>
    F_R10_Index_l0 a1 x1 (0 : Int) (0 : Int)
    : Option (Int × Bool)) = some r) : M_F_R10_Index a0 a1 r := by
  refine Fn_run (T := tt) (N := 47) (rs := [.tmp 4, .tmp 5]) (fun vs w => by simp) Tryd.func21 rfl rfl rfl rfl (by kernel_rfl) (all_pure3 rfl) (closed3_pure _ rfl) ?_
  refine Ok_runB env [] rfl ?_
  obtain ⟨x1, hx, h⟩ := bind_some h
  refine Ok_call (H_F_R6_Rows _ _ hx) ?_
  refine Ok_runB env [] rfl ?_
  exact Ok_loop_to (by kernel_rfl) (less_at (by simp [leFT, leV, leOs, leO, leC, rho, AV.ren, AV.ren1, AV.ren0, AV.un, AV.un1, AV.un0, AV.closed, wkS] <;> (repeat' apply And.intro) <;> first | rfl) (by simp [leFT, leV, leOs, leO, leC, rho, AV.ren, AV.ren1, AV.ren0, AV.un, AV.un1, AV.un0, AV.closed, wkS] <;> (repeat' apply And.intro) <;> first | rfl)) (H_F_R10_Index_l0 _ _ _ _ _ h)
/-- treemerge/treemergeref10.Index -/
theorem H_F_R10_Index (a0 : Node) (a1 : (List Int)) (r : Int × Bool) (h : F_R10_Index a0 a1 = some r) : M_F_R10_Index a0 a1 r :=
  S_F_R10_Index a0 a1 r (by rw [E_F_R10_Index] at h; exact h)
end Go.Proofs.YtimdjillcaichaaDoorW.Ex.Gr
