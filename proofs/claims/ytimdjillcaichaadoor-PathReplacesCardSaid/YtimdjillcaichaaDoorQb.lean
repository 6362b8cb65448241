/- The program's functions, printed as functions on numbers, strings, lists and trees, with the proofs that they are what the code computes. Conditions: those in each theorem. -/
import Derived.Test.YtimdjillcaichaaDoorQa
namespace Go.Proofs.YtimdjillcaichaaDoorW.Ex.Gr
open Go Go.Proofs.YtimdjillcaichaaDoorW.Ex
set_option linter.all false
set_option maxRecDepth 100000
def F_path_changed_path_Insert_1_t51 (o0 : Node) : Option (Node) :=
  some o0
@[reducible] def M_F_path_changed_path_Insert_1_t51 (o0 : Node) (r : Node) : Prop :=
  Ok Tryd.prog G tt 54 0 (Ret Tryd.prog [.cell 6 25] (fun y H => Told Tryd.prog G H y (.agg (cellsN r)))) (.go [] (testOf [51] Tryd.f59 51) [] (.n .undef (.n .undef (.n (.ptr 0 0 0) .z .z) .z) (.n .undef .z (.n (.ptr 1 1 0) .z .z))) 2 [(0, .var 25 (cellsN o0)), (1, .var 25 [(.int .i64 0), (.str ⟨#[]⟩), (.sl 1 false (([] : (List ByteArray)).map sc)), (.sl 4 false (([] : (List Node)).map Node.cells))])])
theorem E_F_path_changed_path_Insert_1_t51 (o0 : Node) : F_path_changed_path_Insert_1_t51 o0 = (
    some o0
    : Option (Node)) := F_path_changed_path_Insert_1_t51.eq_def o0
set_option maxHeartbeats 4000000 in
theorem S_F_path_changed_path_Insert_1_t51  (o0 : Node) (r : Node) (h : (
    some o0
    : Option (Node)) = some r) : M_F_path_changed_path_Insert_1_t51 o0 r := by
  refine Ok_runB env [51] rfl ?_
  cases h
  exact Ok_fin env rfl rfl (told_eq rfl)
/-- treemerge/path.changed_path_Insert_1 -/
theorem H_F_path_changed_path_Insert_1_t51 (o0 : Node) (r : Node) (h : F_path_changed_path_Insert_1_t51 o0 = some r) : M_F_path_changed_path_Insert_1_t51 o0 r :=
  S_F_path_changed_path_Insert_1_t51 o0 r (by rw [E_F_path_changed_path_Insert_1_t51] at h; exact h)
def F_path_changed_path_Insert_1 (a0 : Node) (a1 : (List Int)) (a2_0 : Int) (a2_1 : Node) : Option (Node) :=
  if (decide ((0 : Int) < ((a1.map ic).length : Int))) = true then
    ix a1 (0 : Int) >>= fun x1 =>
    lsub a0.kids (0 : Int) x1 >>= fun x2 =>
    ix a0.kids x1 >>= fun x3 =>
    lsub a1 (1 : Int) ((a1.map ic).length : Int) >>= fun x4 =>
    F_path_changed_path_Insert_1 (nofix x3) (nofix x4) (nofix a2_0) (nofix a2_1) >>= fun x5 =>
    app 72 x2 ([x5]) >>= fun x6 =>
    lsub a0.kids (IntKind.i64.wrap (x1 + (1 : Int))) ((a0.kids.map Node.cells).length : Int) >>= fun x7 =>
    app 72 x6 x7 >>= fun x8 =>
    some (Node.mk a0.kind a0.text a0.gaps x8)
  else
    F_grammar_Own (nofix a0) >>= fun x9 =>
    F_path_Insert_1 a0.kids (nofix a2_0) (nofix a2_1) >>= fun x10 =>
    F_grammar_Own (Node.mk a0.kind a0.text a0.gaps x10) >>= fun x11 =>
    if (!decide (x11 = x9)) = true then
      F_path_changed_path_Insert_1_t51 (Node.mk a0.kind a0.text ([] : (List ByteArray)) x10)
    else
      F_path_changed_path_Insert_1_t51 (Node.mk a0.kind a0.text a0.gaps x10)
  partial_fixpoint
@[reducible] def M_F_path_changed_path_Insert_1 (a0 : Node) (a1 : (List Int)) (a2_0 : Int) (a2_1 : Node) (r : Node) : Prop :=
  Fn Tryd.prog G 59 [(.agg (cellsN a0)), (.sl 1 false (a1.map ic)), (.fn 64 [(.rptr (ic a2_0)), (.rptr (cellsN a2_1))])] (.agg (cellsN r))
theorem E_F_path_changed_path_Insert_1 (a0 : Node) (a1 : (List Int)) (a2_0 : Int) (a2_1 : Node) : F_path_changed_path_Insert_1 a0 a1 a2_0 a2_1 = (
    if (decide ((0 : Int) < ((a1.map ic).length : Int))) = true then
      ix a1 (0 : Int) >>= fun x1 =>
      lsub a0.kids (0 : Int) x1 >>= fun x2 =>
      ix a0.kids x1 >>= fun x3 =>
      lsub a1 (1 : Int) ((a1.map ic).length : Int) >>= fun x4 =>
      F_path_changed_path_Insert_1 x3 x4 a2_0 a2_1 >>= fun x5 =>
      app 72 x2 ([x5]) >>= fun x6 =>
      lsub a0.kids (IntKind.i64.wrap (x1 + (1 : Int))) ((a0.kids.map Node.cells).length : Int) >>= fun x7 =>
      app 72 x6 x7 >>= fun x8 =>
      some (Node.mk a0.kind a0.text a0.gaps x8)
    else
      F_grammar_Own a0 >>= fun x9 =>
      F_path_Insert_1 a0.kids a2_0 a2_1 >>= fun x10 =>
      F_grammar_Own (Node.mk a0.kind a0.text a0.gaps x10) >>= fun x11 =>
      if (!decide (x11 = x9)) = true then
        F_path_changed_path_Insert_1_t51 (Node.mk a0.kind a0.text ([] : (List ByteArray)) x10)
      else
        F_path_changed_path_Insert_1_t51 (Node.mk a0.kind a0.text a0.gaps x10)
    : Option (Node)) := F_path_changed_path_Insert_1.eq_def a0 a1 a2_0 a2_1
set_option maxHeartbeats 4000000 in
theorem S_F_path_changed_path_Insert_1 (F_path_changed_path_Insert_1 : Node → (List Int) → Int → Node → Option (Node)) (H_F_path_changed_path_Insert_1 : ∀ (a0 : Node) (a1 : (List Int)) (a2_0 : Int) (a2_1 : Node) (r : Node), F_path_changed_path_Insert_1 a0 a1 a2_0 a2_1 = some r → M_F_path_changed_path_Insert_1 a0 a1 a2_0 a2_1 r) (a0 : Node) (a1 : (List Int)) (a2_0 : Int) (a2_1 : Node) (r : Node) (h : (
    if (decide ((0 : Int) < ((a1.map ic).length : Int))) = true then
      ix a1 (0 : Int) >>= fun x1 =>
      lsub a0.kids (0 : Int) x1 >>= fun x2 =>
      ix a0.kids x1 >>= fun x3 =>
      lsub a1 (1 : Int) ((a1.map ic).length : Int) >>= fun x4 =>
      F_path_changed_path_Insert_1 x3 x4 a2_0 a2_1 >>= fun x5 =>
      app 72 x2 ([x5]) >>= fun x6 =>
      lsub a0.kids (IntKind.i64.wrap (x1 + (1 : Int))) ((a0.kids.map Node.cells).length : Int) >>= fun x7 =>
      app 72 x6 x7 >>= fun x8 =>
      some (Node.mk a0.kind a0.text a0.gaps x8)
    else
      F_grammar_Own a0 >>= fun x9 =>
      F_path_Insert_1 a0.kids a2_0 a2_1 >>= fun x10 =>
      F_grammar_Own (Node.mk a0.kind a0.text a0.gaps x10) >>= fun x11 =>
      if (!decide (x11 = x9)) = true then
        F_path_changed_path_Insert_1_t51 (Node.mk a0.kind a0.text ([] : (List ByteArray)) x10)
      else
        F_path_changed_path_Insert_1_t51 (Node.mk a0.kind a0.text a0.gaps x10)
    : Option (Node)) = some r) : M_F_path_changed_path_Insert_1 a0 a1 a2_0 a2_1 r := by
  refine Fn_run (T := tt) (N := 54) (rs := [.cell 6 25]) (fun vs w => by simp) Tryd.func59 rfl rfl rfl rfl (by kernel_rfl) (all_pure3 rfl) (closed3_pure _ rfl) ?_
  refine Ok_runB env [51] rfl ?_
  refine Ok_cond (fun hb => ?_) (fun hb => ?_)
  · replace h := ite_t hb h
    refine Ok_runB env [51] rfl ?_
    obtain ⟨x1, hx, h⟩ := bind_some h
    refine Ok_ixT env hx rfl rfl rfl rfl rfl ?_
    refine Ok_runB env [51] rfl ?_
    obtain ⟨x2, hx, h⟩ := bind_some h
    refine Ok_lsub3T env hx rfl rfl rfl rfl rfl rfl ?_
    refine Ok_runB env [51] rfl ?_
    obtain ⟨x3, hx, h⟩ := bind_some h
    refine Ok_ixT env hx rfl rfl rfl rfl (Node.cells_eq x3) ?_
    refine Ok_runB env [51] rfl ?_
    obtain ⟨x4, hx, h⟩ := bind_some h
    refine Ok_lsubT env hx rfl rfl rfl rfl rfl ?_
    refine Ok_runB env [51] rfl ?_
    obtain ⟨x5, hx, h⟩ := bind_some h
    refine Ok_call (H_F_path_changed_path_Insert_1 _ _ _ _ _ hx) ?_
    refine Ok_runB env [51] rfl ?_
    obtain ⟨x6, hx, h⟩ := bind_some h
    have hp_x6 := app_pos hx (by simp)
    refine Ok_appN env hx rfl (.inl rfl) (show _ = AV.sl _ _ (List.map Node.cells [x5]) from (by simp only [List.map_cons, List.map_nil, Node.cells_eq]; rfl)) (by simp) rfl rfl rfl rfl rfl (by decide) rfl rfl ?_
    refine Ok_runB env [51] rfl ?_
    obtain ⟨x7, hx, h⟩ := bind_some h
    refine Ok_lsubT env hx rfl rfl rfl rfl rfl ?_
    refine Ok_runB env [51] rfl ?_
    obtain ⟨x8, hx, h⟩ := bind_some h
    refine Ok_appL env hx rfl hp_x6 rfl (.inl rfl) Node.cells_len rfl rfl rfl rfl rfl (by decide) rfl rfl rfl ?_
    refine Ok_runB env [51] rfl ?_
    cases h
    exact Ok_fin env rfl rfl (told_view (viewT_one (view_agg (viewL_cons (view1_int rfl) (viewL_cons (view1_str rfl) (viewL_cons (view1_sl (.inl rfl)) (viewL_cons (view_own Node_ok rfl) viewL_nil))))) (by simp)))
  · replace h := ite_f hb h
    refine Ok_runB env [51] rfl ?_
    obtain ⟨x9, hx, h⟩ := bind_some h
    refine Ok_call (H_F_grammar_Own _ _ hx) ?_
    refine Ok_runB env [51] rfl ?_
    obtain ⟨x10, hx, h⟩ := bind_some h
    refine Ok_call (H_F_path_Insert_1 _ _ _ _ hx) ?_
    refine Ok_runB env [51] rfl ?_
    obtain ⟨x11, hx, h⟩ := bind_some h
    refine Ok_call (H_F_grammar_Own _ _ hx) ?_
    refine Ok_runB env [51] rfl ?_
    refine Ok_cond (fun hb => ?_) (fun hb => ?_)
    · replace h := ite_t hb h
      refine Ok_runB env [51] rfl ?_
      exact Ok_bar_to (by kernel_rfl) rfl (less_at (by simp [leFT, leV, leOs, leO, leC, rho, AV.ren, AV.ren1, AV.un, AV.un1, AV.closed, wkS] <;> (repeat' apply And.intro) <;> first | rfl) (by simp [leFT, leV, leOs, leO, leC, rho, AV.ren, AV.ren1, AV.un, AV.un1, AV.closed, wkS] <;> (repeat' apply And.intro) <;> first | rfl)) (H_F_path_changed_path_Insert_1_t51 _ _ h)
    · replace h := ite_f hb h
      refine Ok_runB env [51] rfl ?_
      exact Ok_bar_to (by kernel_rfl) rfl (less_at (by simp [leFT, leV, leOs, leO, leC, rho, AV.ren, AV.ren1, AV.un, AV.un1, AV.closed, wkS] <;> (repeat' apply And.intro) <;> first | rfl) (by simp [leFT, leV, leOs, leO, leC, rho, AV.ren, AV.ren1, AV.un, AV.un1, AV.closed, wkS] <;> (repeat' apply And.intro) <;> first | rfl)) (H_F_path_changed_path_Insert_1_t51 _ _ h)
/-- treemerge/path.changed_path_Insert_1 -/
theorem H_F_path_changed_path_Insert_1 (a0 : Node) (a1 : (List Int)) (a2_0 : Int) (a2_1 : Node) (r : Node) (h : F_path_changed_path_Insert_1 a0 a1 a2_0 a2_1 = some r) : M_F_path_changed_path_Insert_1 a0 a1 a2_0 a2_1 r :=
  F_path_changed_path_Insert_1.partial_correctness (fun a0 a1 a2_0 a2_1 r => M_F_path_changed_path_Insert_1 a0 a1 a2_0 a2_1 r) (fun F0 h0 => S_F_path_changed_path_Insert_1 F0 h0) a0 a1 a2_0 a2_1 r h
def F_path_Insert (a0 : Node) (a1 : (List Int)) (a2 : Node) : Option (Node × Int) :=
  if (decide (((a1.map ic).length : Int) = (0 : Int))) = true then
    some ((Node.mk 0 (⟨#[]⟩) ([] : (List ByteArray)) ([] : (List Node))), (5 : Int))
  else
    ix a1 (IntKind.i64.wrap (((a1.map ic).length : Int) - (1 : Int))) >>= fun x1 =>
    lsub a1 (0 : Int) (IntKind.i64.wrap (((a1.map ic).length : Int) - (1 : Int))) >>= fun x2 =>
    F_path_get a0 x2 >>= fun x3 =>
    if (!x3.2) = true then
      some ((Node.mk 0 (⟨#[]⟩) ([] : (List ByteArray)) ([] : (List Node))), (5 : Int))
    else
      if (decide (x1 < (0 : Int))) = true then
        some ((Node.mk 0 (⟨#[]⟩) ([] : (List ByteArray)) ([] : (List Node))), (5 : Int))
      else
        if (decide (((x3.1.kids.map Node.cells).length : Int) < x1)) = true then
          some ((Node.mk 0 (⟨#[]⟩) ([] : (List ByteArray)) ([] : (List Node))), (5 : Int))
        else
          F_grammar_Fits x3.1.kind x1 a2.kind >>= fun x4 =>
          if (!x4) = true then
            some ((Node.mk 0 (⟨#[]⟩) ([] : (List ByteArray)) ([] : (List Node))), (7 : Int))
          else
            lsub a1 (0 : Int) (IntKind.i64.wrap (((a1.map ic).length : Int) - (1 : Int))) >>= fun x5 =>
            F_path_changed_path_Insert_1 a0 x5 x1 a2 >>= fun x6 =>
            F_path_checked x6 >>= fun x7 =>
            some (x7.1, x7.2)
@[reducible] def M_F_path_Insert (a0 : Node) (a1 : (List Int)) (a2 : Node) (r : Node × Int) : Prop :=
  Fn Tryd.prog G 28 [(.agg (cellsN a0)), (.sl 1 false (a1.map ic)), (.agg (cellsN a2))] (.tup [(.agg (cellsN r.1)), (.int .i64 r.2)])
theorem E_F_path_Insert (a0 : Node) (a1 : (List Int)) (a2 : Node) : F_path_Insert a0 a1 a2 = (
    if (decide (((a1.map ic).length : Int) = (0 : Int))) = true then
      some ((Node.mk 0 (⟨#[]⟩) ([] : (List ByteArray)) ([] : (List Node))), (5 : Int))
    else
      ix a1 (IntKind.i64.wrap (((a1.map ic).length : Int) - (1 : Int))) >>= fun x1 =>
      lsub a1 (0 : Int) (IntKind.i64.wrap (((a1.map ic).length : Int) - (1 : Int))) >>= fun x2 =>
      F_path_get a0 x2 >>= fun x3 =>
      if (!x3.2) = true then
        some ((Node.mk 0 (⟨#[]⟩) ([] : (List ByteArray)) ([] : (List Node))), (5 : Int))
      else
        if (decide (x1 < (0 : Int))) = true then
          some ((Node.mk 0 (⟨#[]⟩) ([] : (List ByteArray)) ([] : (List Node))), (5 : Int))
        else
          if (decide (((x3.1.kids.map Node.cells).length : Int) < x1)) = true then
            some ((Node.mk 0 (⟨#[]⟩) ([] : (List ByteArray)) ([] : (List Node))), (5 : Int))
          else
            F_grammar_Fits x3.1.kind x1 a2.kind >>= fun x4 =>
            if (!x4) = true then
              some ((Node.mk 0 (⟨#[]⟩) ([] : (List ByteArray)) ([] : (List Node))), (7 : Int))
            else
              lsub a1 (0 : Int) (IntKind.i64.wrap (((a1.map ic).length : Int) - (1 : Int))) >>= fun x5 =>
              F_path_changed_path_Insert_1 a0 x5 x1 a2 >>= fun x6 =>
              F_path_checked x6 >>= fun x7 =>
              some (x7.1, x7.2)
    : Option (Node × Int)) := F_path_Insert.eq_def a0 a1 a2
set_option maxHeartbeats 4000000 in
theorem S_F_path_Insert  (a0 : Node) (a1 : (List Int)) (a2 : Node) (r : Node × Int) (h : (
    if (decide (((a1.map ic).length : Int) = (0 : Int))) = true then
      some ((Node.mk 0 (⟨#[]⟩) ([] : (List ByteArray)) ([] : (List Node))), (5 : Int))
    else
      ix a1 (IntKind.i64.wrap (((a1.map ic).length : Int) - (1 : Int))) >>= fun x1 =>
      lsub a1 (0 : Int) (IntKind.i64.wrap (((a1.map ic).length : Int) - (1 : Int))) >>= fun x2 =>
      F_path_get a0 x2 >>= fun x3 =>
      if (!x3.2) = true then
        some ((Node.mk 0 (⟨#[]⟩) ([] : (List ByteArray)) ([] : (List Node))), (5 : Int))
      else
        if (decide (x1 < (0 : Int))) = true then
          some ((Node.mk 0 (⟨#[]⟩) ([] : (List ByteArray)) ([] : (List Node))), (5 : Int))
        else
          if (decide (((x3.1.kids.map Node.cells).length : Int) < x1)) = true then
            some ((Node.mk 0 (⟨#[]⟩) ([] : (List ByteArray)) ([] : (List Node))), (5 : Int))
          else
            F_grammar_Fits x3.1.kind x1 a2.kind >>= fun x4 =>
            if (!x4) = true then
              some ((Node.mk 0 (⟨#[]⟩) ([] : (List ByteArray)) ([] : (List Node))), (7 : Int))
            else
              lsub a1 (0 : Int) (IntKind.i64.wrap (((a1.map ic).length : Int) - (1 : Int))) >>= fun x5 =>
              F_path_changed_path_Insert_1 a0 x5 x1 a2 >>= fun x6 =>
              F_path_checked x6 >>= fun x7 =>
              some (x7.1, x7.2)
    : Option (Node × Int)) = some r) : M_F_path_Insert a0 a1 a2 r := by
  refine Fn_run (T := tt) (N := 62) (rs := [.cell 6 25, .tmp 7]) (fun vs w => by simp) Tryd.func28 rfl rfl rfl rfl (by kernel_rfl) (all_pure3 rfl) (closed3_pure _ rfl) ?_
  refine Ok_runB env [2000008] rfl ?_
  refine Ok_cond (fun hb => ?_) (fun hb => ?_)
  · replace h := ite_t hb h
    refine Ok_runB env [2000008] rfl ?_
    cases h
    exact Ok_fin env rfl rfl (told_view (viewT_tup (viewLs_cons (view_agg (viewL_cons (view1_int rfl) (viewL_cons (view1_str rfl) (viewL_cons (view1_sl (.inr rfl)) (viewL_cons (view1_sl (.inr rfl)) viewL_nil))))) (viewLs_cons (view_one (view1_int rfl) (by simp)) viewLs_nil))))
  · replace h := ite_f hb h
    refine Ok_runB env [2000008] rfl ?_
    obtain ⟨x1, hx, h⟩ := bind_some h
    refine Ok_ixT env hx rfl rfl rfl rfl rfl ?_
    refine Ok_runB env [2000008] rfl ?_
    obtain ⟨x2, hx, h⟩ := bind_some h
    refine Ok_lsubT env hx rfl rfl rfl rfl rfl ?_
    refine Ok_runB env [2000008] rfl ?_
    obtain ⟨x3, hx, h⟩ := bind_some h
    refine Ok_call (H_F_path_get _ _ _ hx) ?_
    refine Ok_runB env [2000008] rfl ?_
    refine Ok_guard_f (fun hb => ?_) (fun hb => ?_)
    · replace h := ite_f hb h
      refine Ok_runB env [2000008] rfl ?_
      refine Ok_guard_f (fun hb => ?_) (fun hb => ?_)
      · replace h := ite_f hb h
        refine Ok_runB env [2000008] rfl ?_
        refine Ok_cond (fun hb => ?_) (fun hb => ?_)
        · replace h := ite_t hb h
          refine Ok_runB env [2000008] rfl ?_
          cases h
          exact Ok_fin env rfl rfl (told_view (viewT_tup (viewLs_cons (view_agg (viewL_cons (view1_int rfl) (viewL_cons (view1_str rfl) (viewL_cons (view1_sl (.inr rfl)) (viewL_cons (view1_sl (.inr rfl)) viewL_nil))))) (viewLs_cons (view_one (view1_int rfl) (by simp)) viewLs_nil))))
        · replace h := ite_f hb h
          refine Ok_runB env [2000008] rfl ?_
          obtain ⟨x4, hx, h⟩ := bind_some h
          refine Ok_call (H_F_grammar_Fits _ _ _ _ hx) ?_
          refine Ok_runB env [2000008] rfl ?_
          refine Ok_freezeB [(5, (.rptr (cellsN a2))), (9, (.rptr [(.int .i64 x1)]))] [1, 3] rfl (frzL_cons rfl rfl rfl rfl (frzL_cons rfl rfl rfl rfl frzL_nil)) rfl rfl ?_
          refine Ok_bar_on ?_
          refine Ok_runB env [2000008] rfl ?_
          refine Ok_cond (fun hb => ?_) (fun hb => ?_)
          · replace h := ite_t hb h
            refine Ok_runB env [2000008] rfl ?_
            cases h
            exact Ok_fin env rfl rfl (told_view (viewT_tup (viewLs_cons (view_agg (viewL_cons (view1_int rfl) (viewL_cons (view1_str rfl) (viewL_cons (view1_sl (.inr rfl)) (viewL_cons (view1_sl (.inr rfl)) viewL_nil))))) (viewLs_cons (view_one (view1_int rfl) (by simp)) viewLs_nil))))
          · replace h := ite_f hb h
            refine Ok_runB env [2000008] rfl ?_
            obtain ⟨x5, hx, h⟩ := bind_some h
            refine Ok_lsubT env hx rfl rfl rfl rfl rfl ?_
            refine Ok_runB env [2000008] rfl ?_
            obtain ⟨x6, hx, h⟩ := bind_some h
            refine Ok_call (H_F_path_changed_path_Insert_1 _ _ _ _ _ hx) ?_
            refine Ok_runB env [2000008] rfl ?_
            obtain ⟨x7, hx, h⟩ := bind_some h
            refine Ok_call (H_F_path_checked _ _ hx) ?_
            refine Ok_runB env [2000008] rfl ?_
            cases h
            exact Ok_fin env rfl rfl (told_eq rfl)
      · replace h := ite_t hb h
        refine Ok_runB env [2000008] rfl ?_
        cases h
        exact Ok_fin env rfl rfl (told_view (viewT_tup (viewLs_cons (view_agg (viewL_cons (view1_int rfl) (viewL_cons (view1_str rfl) (viewL_cons (view1_sl (.inr rfl)) (viewL_cons (view1_sl (.inr rfl)) viewL_nil))))) (viewLs_cons (view_one (view1_int rfl) (by simp)) viewLs_nil))))
    · replace h := ite_t hb h
      refine Ok_runB env [2000008] rfl ?_
      cases h
      exact Ok_fin env rfl rfl (told_view (viewT_tup (viewLs_cons (view_agg (viewL_cons (view1_int rfl) (viewL_cons (view1_str rfl) (viewL_cons (view1_sl (.inr rfl)) (viewL_cons (view1_sl (.inr rfl)) viewL_nil))))) (viewLs_cons (view_one (view1_int rfl) (by simp)) viewLs_nil))))
/-- treemerge/path.Insert -/
theorem H_F_path_Insert (a0 : Node) (a1 : (List Int)) (a2 : Node) (r : Node × Int) (h : F_path_Insert a0 a1 a2 = some r) : M_F_path_Insert a0 a1 a2 r :=
  S_F_path_Insert a0 a1 a2 r (by rw [E_F_path_Insert] at h; exact h)
def F_path_Remove_1 (a0 : (List Node)) (c0 : Int) : Option ((List Node)) :=
  lsub a0 (0 : Int) c0 >>= fun x1 =>
  lsub a0 (IntKind.i64.wrap (c0 + (1 : Int))) ((a0.map Node.cells).length : Int) >>= fun x2 =>
  app 72 x1 x2 >>= fun x3 =>
  some x3
@[reducible] def M_F_path_Remove_1 (a0 : (List Node)) (c0 : Int) (r : (List Node)) : Prop :=
  Fn Tryd.prog G 66 [(.sl 4 false (a0.map Node.cells)), (.rptr (ic c0))] (.sl 4 false (r.map Node.cells))
theorem E_F_path_Remove_1 (a0 : (List Node)) (c0 : Int) : F_path_Remove_1 a0 c0 = (
    lsub a0 (0 : Int) c0 >>= fun x1 =>
    lsub a0 (IntKind.i64.wrap (c0 + (1 : Int))) ((a0.map Node.cells).length : Int) >>= fun x2 =>
    app 72 x1 x2 >>= fun x3 =>
    some x3
    : Option ((List Node))) := F_path_Remove_1.eq_def a0 c0
set_option maxHeartbeats 4000000 in
theorem S_F_path_Remove_1  (a0 : (List Node)) (c0 : Int) (r : (List Node)) (h : (
    lsub a0 (0 : Int) c0 >>= fun x1 =>
    lsub a0 (IntKind.i64.wrap (c0 + (1 : Int))) ((a0.map Node.cells).length : Int) >>= fun x2 =>
    app 72 x1 x2 >>= fun x3 =>
    some x3
    : Option ((List Node))) = some r) : M_F_path_Remove_1 a0 c0 r := by
  refine Fn_run (T := tt) (N := 13) (rs := [.tmp 3]) (fun vs w => by simp) Tryd.func66 rfl rfl rfl rfl (by kernel_rfl) (all_pure3 rfl) (closed3_pure _ rfl) ?_
  refine Ok_runB env [] rfl ?_
  obtain ⟨x1, hx, h⟩ := bind_some h
  refine Ok_lsub3T env hx rfl rfl rfl rfl rfl rfl ?_
  refine Ok_runB env [] rfl ?_
  obtain ⟨x2, hx, h⟩ := bind_some h
  refine Ok_lsubT env hx rfl rfl rfl rfl rfl ?_
  refine Ok_runB env [] rfl ?_
  obtain ⟨x3, hx, h⟩ := bind_some h
  refine Ok_appC env hx rfl (.inl rfl) rfl (.inl rfl) rfl rfl rfl rfl rfl (by decide) rfl rfl ?_
  refine Ok_runB env [] rfl ?_
  cases h
  exact Ok_fin env rfl rfl (told_eq rfl)
/-- treemerge/path.Remove$1 -/
theorem H_F_path_Remove_1 (a0 : (List Node)) (c0 : Int) (r : (List Node)) (h : F_path_Remove_1 a0 c0 = some r) : M_F_path_Remove_1 a0 c0 r :=
  S_F_path_Remove_1 a0 c0 r (by rw [E_F_path_Remove_1] at h; exact h)
def F_path_changed_path_Remove_1_t51 (o0 : Node) : Option (Node) :=
  some o0
@[reducible] def M_F_path_changed_path_Remove_1_t51 (o0 : Node) (r : Node) : Prop :=
  Ok Tryd.prog G tt 54 0 (Ret Tryd.prog [.cell 6 25] (fun y H => Told Tryd.prog G H y (.agg (cellsN r)))) (.go [] (testOf [51] Tryd.f59 51) [] (.n .undef (.n .undef (.n (.ptr 0 0 0) .z .z) .z) (.n .undef .z (.n (.ptr 1 1 0) .z .z))) 2 [(0, .var 25 (cellsN o0)), (1, .var 25 [(.int .i64 0), (.str ⟨#[]⟩), (.sl 1 false (([] : (List ByteArray)).map sc)), (.sl 4 false (([] : (List Node)).map Node.cells))])])
theorem E_F_path_changed_path_Remove_1_t51 (o0 : Node) : F_path_changed_path_Remove_1_t51 o0 = (
    some o0
    : Option (Node)) := F_path_changed_path_Remove_1_t51.eq_def o0
set_option maxHeartbeats 4000000 in
theorem S_F_path_changed_path_Remove_1_t51  (o0 : Node) (r : Node) (h : (
    some o0
    : Option (Node)) = some r) : M_F_path_changed_path_Remove_1_t51 o0 r := by
  refine Ok_runB env [51] rfl ?_
  cases h
  exact Ok_fin env rfl rfl (told_eq rfl)
/-- treemerge/path.changed_path_Remove_1 -/
theorem H_F_path_changed_path_Remove_1_t51 (o0 : Node) (r : Node) (h : F_path_changed_path_Remove_1_t51 o0 = some r) : M_F_path_changed_path_Remove_1_t51 o0 r :=
  S_F_path_changed_path_Remove_1_t51 o0 r (by rw [E_F_path_changed_path_Remove_1_t51] at h; exact h)
def F_path_changed_path_Remove_1 (a0 : Node) (a1 : (List Int)) (a2_0 : Int) : Option (Node) :=
  if (decide ((0 : Int) < ((a1.map ic).length : Int))) = true then
    ix a1 (0 : Int) >>= fun x1 =>
    lsub a0.kids (0 : Int) x1 >>= fun x2 =>
    ix a0.kids x1 >>= fun x3 =>
    lsub a1 (1 : Int) ((a1.map ic).length : Int) >>= fun x4 =>
    F_path_changed_path_Remove_1 (nofix x3) (nofix x4) (nofix a2_0) >>= fun x5 =>
    app 72 x2 ([x5]) >>= fun x6 =>
    lsub a0.kids (IntKind.i64.wrap (x1 + (1 : Int))) ((a0.kids.map Node.cells).length : Int) >>= fun x7 =>
    app 72 x6 x7 >>= fun x8 =>
    some (Node.mk a0.kind a0.text a0.gaps x8)
  else
    F_grammar_Own (nofix a0) >>= fun x9 =>
    F_path_Remove_1 a0.kids (nofix a2_0) >>= fun x10 =>
    F_grammar_Own (Node.mk a0.kind a0.text a0.gaps x10) >>= fun x11 =>
    if (!decide (x11 = x9)) = true then
      F_path_changed_path_Remove_1_t51 (Node.mk a0.kind a0.text ([] : (List ByteArray)) x10)
    else
      F_path_changed_path_Remove_1_t51 (Node.mk a0.kind a0.text a0.gaps x10)
  partial_fixpoint
@[reducible] def M_F_path_changed_path_Remove_1 (a0 : Node) (a1 : (List Int)) (a2_0 : Int) (r : Node) : Prop :=
  Fn Tryd.prog G 59 [(.agg (cellsN a0)), (.sl 1 false (a1.map ic)), (.fn 66 [(.rptr (ic a2_0))])] (.agg (cellsN r))
theorem E_F_path_changed_path_Remove_1 (a0 : Node) (a1 : (List Int)) (a2_0 : Int) : F_path_changed_path_Remove_1 a0 a1 a2_0 = (
    if (decide ((0 : Int) < ((a1.map ic).length : Int))) = true then
      ix a1 (0 : Int) >>= fun x1 =>
      lsub a0.kids (0 : Int) x1 >>= fun x2 =>
      ix a0.kids x1 >>= fun x3 =>
      lsub a1 (1 : Int) ((a1.map ic).length : Int) >>= fun x4 =>
      F_path_changed_path_Remove_1 x3 x4 a2_0 >>= fun x5 =>
      app 72 x2 ([x5]) >>= fun x6 =>
      lsub a0.kids (IntKind.i64.wrap (x1 + (1 : Int))) ((a0.kids.map Node.cells).length : Int) >>= fun x7 =>
      app 72 x6 x7 >>= fun x8 =>
      some (Node.mk a0.kind a0.text a0.gaps x8)
    else
      F_grammar_Own a0 >>= fun x9 =>
      F_path_Remove_1 a0.kids a2_0 >>= fun x10 =>
      F_grammar_Own (Node.mk a0.kind a0.text a0.gaps x10) >>= fun x11 =>
      if (!decide (x11 = x9)) = true then
        F_path_changed_path_Remove_1_t51 (Node.mk a0.kind a0.text ([] : (List ByteArray)) x10)
      else
        F_path_changed_path_Remove_1_t51 (Node.mk a0.kind a0.text a0.gaps x10)
    : Option (Node)) := F_path_changed_path_Remove_1.eq_def a0 a1 a2_0
set_option maxHeartbeats 4000000 in
theorem S_F_path_changed_path_Remove_1 (F_path_changed_path_Remove_1 : Node → (List Int) → Int → Option (Node)) (H_F_path_changed_path_Remove_1 : ∀ (a0 : Node) (a1 : (List Int)) (a2_0 : Int) (r : Node), F_path_changed_path_Remove_1 a0 a1 a2_0 = some r → M_F_path_changed_path_Remove_1 a0 a1 a2_0 r) (a0 : Node) (a1 : (List Int)) (a2_0 : Int) (r : Node) (h : (
    if (decide ((0 : Int) < ((a1.map ic).length : Int))) = true then
      ix a1 (0 : Int) >>= fun x1 =>
      lsub a0.kids (0 : Int) x1 >>= fun x2 =>
      ix a0.kids x1 >>= fun x3 =>
      lsub a1 (1 : Int) ((a1.map ic).length : Int) >>= fun x4 =>
      F_path_changed_path_Remove_1 x3 x4 a2_0 >>= fun x5 =>
      app 72 x2 ([x5]) >>= fun x6 =>
      lsub a0.kids (IntKind.i64.wrap (x1 + (1 : Int))) ((a0.kids.map Node.cells).length : Int) >>= fun x7 =>
      app 72 x6 x7 >>= fun x8 =>
      some (Node.mk a0.kind a0.text a0.gaps x8)
    else
      F_grammar_Own a0 >>= fun x9 =>
      F_path_Remove_1 a0.kids a2_0 >>= fun x10 =>
      F_grammar_Own (Node.mk a0.kind a0.text a0.gaps x10) >>= fun x11 =>
      if (!decide (x11 = x9)) = true then
        F_path_changed_path_Remove_1_t51 (Node.mk a0.kind a0.text ([] : (List ByteArray)) x10)
      else
        F_path_changed_path_Remove_1_t51 (Node.mk a0.kind a0.text a0.gaps x10)
    : Option (Node)) = some r) : M_F_path_changed_path_Remove_1 a0 a1 a2_0 r := by
  refine Fn_run (T := tt) (N := 54) (rs := [.cell 6 25]) (fun vs w => by simp) Tryd.func59 rfl rfl rfl rfl (by kernel_rfl) (all_pure3 rfl) (closed3_pure _ rfl) ?_
  refine Ok_runB env [51] rfl ?_
  refine Ok_cond (fun hb => ?_) (fun hb => ?_)
  · replace h := ite_t hb h
    refine Ok_runB env [51] rfl ?_
    obtain ⟨x1, hx, h⟩ := bind_some h
    refine Ok_ixT env hx rfl rfl rfl rfl rfl ?_
    refine Ok_runB env [51] rfl ?_
    obtain ⟨x2, hx, h⟩ := bind_some h
    refine Ok_lsub3T env hx rfl rfl rfl rfl rfl rfl ?_
    refine Ok_runB env [51] rfl ?_
    obtain ⟨x3, hx, h⟩ := bind_some h
    refine Ok_ixT env hx rfl rfl rfl rfl (Node.cells_eq x3) ?_
    refine Ok_runB env [51] rfl ?_
    obtain ⟨x4, hx, h⟩ := bind_some h
    refine Ok_lsubT env hx rfl rfl rfl rfl rfl ?_
    refine Ok_runB env [51] rfl ?_
    obtain ⟨x5, hx, h⟩ := bind_some h
    refine Ok_call (H_F_path_changed_path_Remove_1 _ _ _ _ hx) ?_
    refine Ok_runB env [51] rfl ?_
    obtain ⟨x6, hx, h⟩ := bind_some h
    have hp_x6 := app_pos hx (by simp)
    refine Ok_appN env hx rfl (.inl rfl) (show _ = AV.sl _ _ (List.map Node.cells [x5]) from (by simp only [List.map_cons, List.map_nil, Node.cells_eq]; rfl)) (by simp) rfl rfl rfl rfl rfl (by decide) rfl rfl ?_
    refine Ok_runB env [51] rfl ?_
    obtain ⟨x7, hx, h⟩ := bind_some h
    refine Ok_lsubT env hx rfl rfl rfl rfl rfl ?_
    refine Ok_runB env [51] rfl ?_
    obtain ⟨x8, hx, h⟩ := bind_some h
    refine Ok_appL env hx rfl hp_x6 rfl (.inl rfl) Node.cells_len rfl rfl rfl rfl rfl (by decide) rfl rfl rfl ?_
    refine Ok_runB env [51] rfl ?_
    cases h
    exact Ok_fin env rfl rfl (told_view (viewT_one (view_agg (viewL_cons (view1_int rfl) (viewL_cons (view1_str rfl) (viewL_cons (view1_sl (.inl rfl)) (viewL_cons (view_own Node_ok rfl) viewL_nil))))) (by simp)))
  · replace h := ite_f hb h
    refine Ok_runB env [51] rfl ?_
    obtain ⟨x9, hx, h⟩ := bind_some h
    refine Ok_call (H_F_grammar_Own _ _ hx) ?_
    refine Ok_runB env [51] rfl ?_
    obtain ⟨x10, hx, h⟩ := bind_some h
    refine Ok_call (H_F_path_Remove_1 _ _ _ hx) ?_
    refine Ok_runB env [51] rfl ?_
    obtain ⟨x11, hx, h⟩ := bind_some h
    refine Ok_call (H_F_grammar_Own _ _ hx) ?_
    refine Ok_runB env [51] rfl ?_
    refine Ok_cond (fun hb => ?_) (fun hb => ?_)
    · replace h := ite_t hb h
      refine Ok_runB env [51] rfl ?_
      exact Ok_bar_to (by kernel_rfl) rfl (less_at (by simp [leFT, leV, leOs, leO, leC, rho, AV.ren, AV.ren1, AV.un, AV.un1, AV.closed, wkS] <;> (repeat' apply And.intro) <;> first | rfl) (by simp [leFT, leV, leOs, leO, leC, rho, AV.ren, AV.ren1, AV.un, AV.un1, AV.closed, wkS] <;> (repeat' apply And.intro) <;> first | rfl)) (H_F_path_changed_path_Remove_1_t51 _ _ h)
    · replace h := ite_f hb h
      refine Ok_runB env [51] rfl ?_
      exact Ok_bar_to (by kernel_rfl) rfl (less_at (by simp [leFT, leV, leOs, leO, leC, rho, AV.ren, AV.ren1, AV.un, AV.un1, AV.closed, wkS] <;> (repeat' apply And.intro) <;> first | rfl) (by simp [leFT, leV, leOs, leO, leC, rho, AV.ren, AV.ren1, AV.un, AV.un1, AV.closed, wkS] <;> (repeat' apply And.intro) <;> first | rfl)) (H_F_path_changed_path_Remove_1_t51 _ _ h)
/-- treemerge/path.changed_path_Remove_1 -/
theorem H_F_path_changed_path_Remove_1 (a0 : Node) (a1 : (List Int)) (a2_0 : Int) (r : Node) (h : F_path_changed_path_Remove_1 a0 a1 a2_0 = some r) : M_F_path_changed_path_Remove_1 a0 a1 a2_0 r :=
  F_path_changed_path_Remove_1.partial_correctness (fun a0 a1 a2_0 r => M_F_path_changed_path_Remove_1 a0 a1 a2_0 r) (fun F0 h0 => S_F_path_changed_path_Remove_1 F0 h0) a0 a1 a2_0 r h
def F_path_Remove (a0 : Node) (a1 : (List Int)) : Option (Node × Int) :=
  F_path_get a0 a1 >>= fun x1 =>
  if (!x1.2) = true then
    some ((Node.mk 0 (⟨#[]⟩) ([] : (List ByteArray)) ([] : (List Node))), (5 : Int))
  else
    if (decide (((a1.map ic).length : Int) = (0 : Int))) = true then
      some ((Node.mk 0 (⟨#[]⟩) ([] : (List ByteArray)) ([] : (List Node))), (5 : Int))
    else
      ix a1 (IntKind.i64.wrap (((a1.map ic).length : Int) - (1 : Int))) >>= fun x2 =>
      lsub a1 (0 : Int) (IntKind.i64.wrap (((a1.map ic).length : Int) - (1 : Int))) >>= fun x3 =>
      F_path_changed_path_Remove_1 a0 x3 x2 >>= fun x4 =>
      F_path_checked x4 >>= fun x5 =>
      some (x5.1, x5.2)
@[reducible] def M_F_path_Remove (a0 : Node) (a1 : (List Int)) (r : Node × Int) : Prop :=
  Fn Tryd.prog G 30 [(.agg (cellsN a0)), (.sl 1 false (a1.map ic))] (.tup [(.agg (cellsN r.1)), (.int .i64 r.2)])
theorem E_F_path_Remove (a0 : Node) (a1 : (List Int)) : F_path_Remove a0 a1 = (
    F_path_get a0 a1 >>= fun x1 =>
    if (!x1.2) = true then
      some ((Node.mk 0 (⟨#[]⟩) ([] : (List ByteArray)) ([] : (List Node))), (5 : Int))
    else
      if (decide (((a1.map ic).length : Int) = (0 : Int))) = true then
        some ((Node.mk 0 (⟨#[]⟩) ([] : (List ByteArray)) ([] : (List Node))), (5 : Int))
      else
        ix a1 (IntKind.i64.wrap (((a1.map ic).length : Int) - (1 : Int))) >>= fun x2 =>
        lsub a1 (0 : Int) (IntKind.i64.wrap (((a1.map ic).length : Int) - (1 : Int))) >>= fun x3 =>
        F_path_changed_path_Remove_1 a0 x3 x2 >>= fun x4 =>
        F_path_checked x4 >>= fun x5 =>
        some (x5.1, x5.2)
    : Option (Node × Int)) := F_path_Remove.eq_def a0 a1
set_option maxHeartbeats 4000000 in
theorem S_F_path_Remove  (a0 : Node) (a1 : (List Int)) (r : Node × Int) (h : (
    F_path_get a0 a1 >>= fun x1 =>
    if (!x1.2) = true then
      some ((Node.mk 0 (⟨#[]⟩) ([] : (List ByteArray)) ([] : (List Node))), (5 : Int))
    else
      if (decide (((a1.map ic).length : Int) = (0 : Int))) = true then
        some ((Node.mk 0 (⟨#[]⟩) ([] : (List ByteArray)) ([] : (List Node))), (5 : Int))
      else
        ix a1 (IntKind.i64.wrap (((a1.map ic).length : Int) - (1 : Int))) >>= fun x2 =>
        lsub a1 (0 : Int) (IntKind.i64.wrap (((a1.map ic).length : Int) - (1 : Int))) >>= fun x3 =>
        F_path_changed_path_Remove_1 a0 x3 x2 >>= fun x4 =>
        F_path_checked x4 >>= fun x5 =>
        some (x5.1, x5.2)
    : Option (Node × Int)) = some r) : M_F_path_Remove a0 a1 r := by
  refine Fn_run (T := tt) (N := 40) (rs := [.cell 4 25, .tmp 5]) (fun vs w => by simp) Tryd.func30 rfl rfl rfl rfl (by kernel_rfl) (all_pure3 rfl) (closed3_pure _ rfl) ?_
  refine Ok_runB env [2000005] rfl ?_
  obtain ⟨x1, hx, h⟩ := bind_some h
  refine Ok_call (H_F_path_get _ _ _ hx) ?_
  refine Ok_runB env [2000005] rfl ?_
  refine Ok_guard_f (fun hb => ?_) (fun hb => ?_)
  · replace h := ite_f hb h
    refine Ok_runB env [2000005] rfl ?_
    refine Ok_cond (fun hb => ?_) (fun hb => ?_)
    · replace h := ite_t hb h
      refine Ok_runB env [2000005] rfl ?_
      cases h
      exact Ok_fin env rfl rfl (told_view (viewT_tup (viewLs_cons (view_agg (viewL_cons (view1_int rfl) (viewL_cons (view1_str rfl) (viewL_cons (view1_sl (.inr rfl)) (viewL_cons (view1_sl (.inr rfl)) viewL_nil))))) (viewLs_cons (view_one (view1_int rfl) (by simp)) viewLs_nil))))
    · replace h := ite_f hb h
      refine Ok_runB env [2000005] rfl ?_
      obtain ⟨x2, hx, h⟩ := bind_some h
      refine Ok_ixT env hx rfl rfl rfl rfl rfl ?_
      refine Ok_runB env [2000005] rfl ?_
      refine Ok_freezeB [(9, (.rptr [(.int .i64 x2)]))] [3] rfl (frzL_cons rfl rfl rfl rfl frzL_nil) rfl rfl ?_
      refine Ok_bar_on ?_
      refine Ok_runB env [2000005] rfl ?_
      obtain ⟨x3, hx, h⟩ := bind_some h
      refine Ok_lsubT env hx rfl rfl rfl rfl rfl ?_
      refine Ok_runB env [2000005] rfl ?_
      obtain ⟨x4, hx, h⟩ := bind_some h
      refine Ok_call (H_F_path_changed_path_Remove_1 _ _ _ _ hx) ?_
      refine Ok_runB env [2000005] rfl ?_
      obtain ⟨x5, hx, h⟩ := bind_some h
      refine Ok_call (H_F_path_checked _ _ hx) ?_
      refine Ok_runB env [2000005] rfl ?_
      cases h
      exact Ok_fin env rfl rfl (told_eq rfl)
  · replace h := ite_t hb h
    refine Ok_runB env [2000005] rfl ?_
    cases h
    exact Ok_fin env rfl rfl (told_view (viewT_tup (viewLs_cons (view_agg (viewL_cons (view1_int rfl) (viewL_cons (view1_str rfl) (viewL_cons (view1_sl (.inr rfl)) (viewL_cons (view1_sl (.inr rfl)) viewL_nil))))) (viewLs_cons (view_one (view1_int rfl) (by simp)) viewLs_nil))))
/-- treemerge/path.Remove -/
theorem H_F_path_Remove (a0 : Node) (a1 : (List Int)) (r : Node × Int) (h : F_path_Remove a0 a1 = some r) : M_F_path_Remove a0 a1 r :=
  S_F_path_Remove a0 a1 r (by rw [E_F_path_Remove] at h; exact h)
def F_L10_binary (a0 : ByteArray) (a1 : Node) (a2 : Node) : Option (Node) :=
  some (Node.mk (24 : Int) a0 ([] : (List ByteArray)) ([a1, a2]))
@[reducible] def M_F_L10_binary (a0 : ByteArray) (a1 : Node) (a2 : Node) (r : Node) : Prop :=
  Fn Tryd.prog G 50 [(.str a0), (.agg (cellsN a1)), (.agg (cellsN a2))] (.agg (cellsN r))
theorem E_F_L10_binary (a0 : ByteArray) (a1 : Node) (a2 : Node) : F_L10_binary a0 a1 a2 = (
    some (Node.mk (24 : Int) a0 ([] : (List ByteArray)) ([a1, a2]))
    : Option (Node)) := F_L10_binary.eq_def a0 a1 a2
set_option maxHeartbeats 4000000 in
theorem S_F_L10_binary  (a0 : ByteArray) (a1 : Node) (a2 : Node) (r : Node) (h : (
    some (Node.mk (24 : Int) a0 ([] : (List ByteArray)) ([a1, a2]))
    : Option (Node)) = some r) : M_F_L10_binary a0 a1 a2 r := by
  refine Fn_run (T := tt) (N := 12) (rs := [.cell 6 25]) (fun vs w => by simp) Tryd.func50 rfl rfl rfl rfl (by kernel_rfl) (all_pure3 rfl) (closed3_pure _ rfl) ?_
  refine Ok_runB env [] rfl ?_
  cases h
  exact Ok_fin env rfl rfl (told_view (viewT_one (view_agg (viewL_cons (view1_int rfl) (viewL_cons (view1_str rfl) (viewL_cons (view1_sl (.inr rfl)) (viewL_cons (view1_slE (.inl rfl) (show _ = List.map Node.cells [a1, a2] from (by first | (simp only [List.map_cons, List.map_nil, Node.cells_eq]; done) | (simp only [List.map_cons, List.map_nil, Node.cells_eq]; rfl)))) viewL_nil))))) (by simp)))
/-- treemerge/treemergelaw10.binary -/
theorem H_F_L10_binary (a0 : ByteArray) (a1 : Node) (a2 : Node) (r : Node) (h : F_L10_binary a0 a1 a2 = some r) : M_F_L10_binary a0 a1 a2 r :=
  S_F_L10_binary a0 a1 a2 r (by rw [E_F_L10_binary] at h; exact h)
def F_L10_number (a0 : ByteArray) : Option (Node) :=
  some (Node.mk (17 : Int) a0 ([] : (List ByteArray)) ([] : (List Node)))
@[reducible] def M_F_L10_number (a0 : ByteArray) (r : Node) : Prop :=
  Fn Tryd.prog G 51 [(.str a0)] (.agg (cellsN r))
theorem E_F_L10_number (a0 : ByteArray) : F_L10_number a0 = (
    some (Node.mk (17 : Int) a0 ([] : (List ByteArray)) ([] : (List Node)))
    : Option (Node)) := F_L10_number.eq_def a0
set_option maxHeartbeats 4000000 in
theorem S_F_L10_number  (a0 : ByteArray) (r : Node) (h : (
    some (Node.mk (17 : Int) a0 ([] : (List ByteArray)) ([] : (List Node)))
    : Option (Node)) = some r) : M_F_L10_number a0 r := by
  refine Fn_run (T := tt) (N := 5) (rs := [.cell 2 25]) (fun vs w => by simp) Tryd.func51 rfl rfl rfl rfl (by kernel_rfl) (all_pure3 rfl) (closed3_pure _ rfl) ?_
  refine Ok_runB env [] rfl ?_
  cases h
  exact Ok_fin env rfl rfl (told_view (viewT_one (view_agg (viewL_cons (view1_int rfl) (viewL_cons (view1_str rfl) (viewL_cons (view1_sl (.inr rfl)) (viewL_cons (view1_sl (.inr rfl)) viewL_nil))))) (by simp)))
/-- treemerge/treemergelaw10.number -/
theorem H_F_L10_number (a0 : ByteArray) (r : Node) (h : F_L10_number a0 = some r) : M_F_L10_number a0 r :=
  S_F_L10_number a0 r (by rw [E_F_L10_number] at h; exact h)
def F_L10_awake  : Option (Bool) :=
  F_L10_number (⟨#[49]⟩ : ByteArray) >>= fun x1 =>
  F_L10_number (⟨#[50]⟩ : ByteArray) >>= fun x2 =>
  F_L10_binary (⟨#[43]⟩ : ByteArray) x1 x2 >>= fun x3 =>
  F_L10_number (⟨#[51]⟩ : ByteArray) >>= fun x4 =>
  F_L10_number (⟨#[52]⟩ : ByteArray) >>= fun x5 =>
  F_L10_binary (⟨#[42]⟩ : ByteArray) x4 x5 >>= fun x6 =>
  F_path_Of x3 (2 : Int) >>= fun x7 =>
  F_path_Index x3 ([(1 : Int)]) >>= fun x8 =>
  F_path_Get x3 ([(1 : Int)]) >>= fun x9 =>
  F_path_Replace x3 ([(0 : Int)]) x6 >>= fun x10 =>
  F_path_Replace x6 ([(0 : Int)]) x3 >>= fun x11 =>
  F_path_Insert (Node.mk (20 : Int) (⟨#[102]⟩ : ByteArray) ([] : (List ByteArray)) ([x3])) ([(1 : Int)]) x6 >>= fun x12 =>
  F_path_Remove x12.1 ([(0 : Int)]) >>= fun x13 =>
  if x7.2 = true then
    if (decide (((x7.1.map ic).length : Int) = (1 : Int))) = true then
      ix x7.1 (0 : Int) >>= fun x14 =>
      if (decide (x14 = (1 : Int))) = true then
        if x8.2 = true then
          if (decide (x8.1 = (2 : Int))) = true then
            if (decide (x9.2 = (0 : Int))) = true then
              if (decide (x9.1.text = (⟨#[50]⟩ : ByteArray))) = true then
                if (decide (x10.2 = (0 : Int))) = true then
                  if (decide (((x10.1.kids.map Node.cells).length : Int) = (2 : Int))) = true then
                    ix x10.1.kids (0 : Int) >>= fun x15 =>
                    if (decide (x15.text = (⟨#[42]⟩ : ByteArray))) = true then
                      if (decide (x11.2 = (7 : Int))) = true then
                        if (decide (x12.2 = (0 : Int))) = true then
                          if (decide (((x12.1.kids.map Node.cells).length : Int) = (2 : Int))) = true then
                            if (decide (x13.2 = (0 : Int))) = true then
                              if (decide (((x13.1.kids.map Node.cells).length : Int) = (1 : Int))) = true then
                                ix x13.1.kids (0 : Int) >>= fun x16 =>
                                some (decide (x16.text = (⟨#[42]⟩ : ByteArray)))
                              else
                                some false
                            else
                              some false
                          else
                            some false
                        else
                          some false
                      else
                        some false
                    else
                      some false
                  else
                    some false
                else
                  some false
              else
                some false
            else
              some false
          else
            some false
        else
          some false
      else
        some false
    else
      some false
  else
    some false
@[reducible] def M_F_L10_awake  (r : Bool) : Prop :=
  Fn Tryd.prog G 17 [] (.bool r)
theorem E_F_L10_awake  : F_L10_awake  = (
    F_L10_number (⟨#[49]⟩ : ByteArray) >>= fun x1 =>
    F_L10_number (⟨#[50]⟩ : ByteArray) >>= fun x2 =>
    F_L10_binary (⟨#[43]⟩ : ByteArray) x1 x2 >>= fun x3 =>
    F_L10_number (⟨#[51]⟩ : ByteArray) >>= fun x4 =>
    F_L10_number (⟨#[52]⟩ : ByteArray) >>= fun x5 =>
    F_L10_binary (⟨#[42]⟩ : ByteArray) x4 x5 >>= fun x6 =>
    F_path_Of x3 (2 : Int) >>= fun x7 =>
    F_path_Index x3 ([(1 : Int)]) >>= fun x8 =>
    F_path_Get x3 ([(1 : Int)]) >>= fun x9 =>
    F_path_Replace x3 ([(0 : Int)]) x6 >>= fun x10 =>
    F_path_Replace x6 ([(0 : Int)]) x3 >>= fun x11 =>
    F_path_Insert (Node.mk (20 : Int) (⟨#[102]⟩ : ByteArray) ([] : (List ByteArray)) ([x3])) ([(1 : Int)]) x6 >>= fun x12 =>
    F_path_Remove x12.1 ([(0 : Int)]) >>= fun x13 =>
    if x7.2 = true then
      if (decide (((x7.1.map ic).length : Int) = (1 : Int))) = true then
        ix x7.1 (0 : Int) >>= fun x14 =>
        if (decide (x14 = (1 : Int))) = true then
          if x8.2 = true then
            if (decide (x8.1 = (2 : Int))) = true then
              if (decide (x9.2 = (0 : Int))) = true then
                if (decide (x9.1.text = (⟨#[50]⟩ : ByteArray))) = true then
                  if (decide (x10.2 = (0 : Int))) = true then
                    if (decide (((x10.1.kids.map Node.cells).length : Int) = (2 : Int))) = true then
                      ix x10.1.kids (0 : Int) >>= fun x15 =>
                      if (decide (x15.text = (⟨#[42]⟩ : ByteArray))) = true then
                        if (decide (x11.2 = (7 : Int))) = true then
                          if (decide (x12.2 = (0 : Int))) = true then
                            if (decide (((x12.1.kids.map Node.cells).length : Int) = (2 : Int))) = true then
                              if (decide (x13.2 = (0 : Int))) = true then
                                if (decide (((x13.1.kids.map Node.cells).length : Int) = (1 : Int))) = true then
                                  ix x13.1.kids (0 : Int) >>= fun x16 =>
                                  some (decide (x16.text = (⟨#[42]⟩ : ByteArray)))
                                else
                                  some false
                              else
                                some false
                            else
                              some false
                          else
                            some false
                        else
                          some false
                      else
                        some false
                    else
                      some false
                  else
                    some false
                else
                  some false
              else
                some false
            else
              some false
          else
            some false
        else
          some false
      else
        some false
    else
      some false
    : Option (Bool)) := F_L10_awake.eq_def 
set_option maxHeartbeats 4000000 in
theorem S_F_L10_awake   (r : Bool) (h : (
    F_L10_number (⟨#[49]⟩ : ByteArray) >>= fun x1 =>
    F_L10_number (⟨#[50]⟩ : ByteArray) >>= fun x2 =>
    F_L10_binary (⟨#[43]⟩ : ByteArray) x1 x2 >>= fun x3 =>
    F_L10_number (⟨#[51]⟩ : ByteArray) >>= fun x4 =>
    F_L10_number (⟨#[52]⟩ : ByteArray) >>= fun x5 =>
    F_L10_binary (⟨#[42]⟩ : ByteArray) x4 x5 >>= fun x6 =>
    F_path_Of x3 (2 : Int) >>= fun x7 =>
    F_path_Index x3 ([(1 : Int)]) >>= fun x8 =>
    F_path_Get x3 ([(1 : Int)]) >>= fun x9 =>
    F_path_Replace x3 ([(0 : Int)]) x6 >>= fun x10 =>
    F_path_Replace x6 ([(0 : Int)]) x3 >>= fun x11 =>
    F_path_Insert (Node.mk (20 : Int) (⟨#[102]⟩ : ByteArray) ([] : (List ByteArray)) ([x3])) ([(1 : Int)]) x6 >>= fun x12 =>
    F_path_Remove x12.1 ([(0 : Int)]) >>= fun x13 =>
    if x7.2 = true then
      if (decide (((x7.1.map ic).length : Int) = (1 : Int))) = true then
        ix x7.1 (0 : Int) >>= fun x14 =>
        if (decide (x14 = (1 : Int))) = true then
          if x8.2 = true then
            if (decide (x8.1 = (2 : Int))) = true then
              if (decide (x9.2 = (0 : Int))) = true then
                if (decide (x9.1.text = (⟨#[50]⟩ : ByteArray))) = true then
                  if (decide (x10.2 = (0 : Int))) = true then
                    if (decide (((x10.1.kids.map Node.cells).length : Int) = (2 : Int))) = true then
                      ix x10.1.kids (0 : Int) >>= fun x15 =>
                      if (decide (x15.text = (⟨#[42]⟩ : ByteArray))) = true then
                        if (decide (x11.2 = (7 : Int))) = true then
                          if (decide (x12.2 = (0 : Int))) = true then
                            if (decide (((x12.1.kids.map Node.cells).length : Int) = (2 : Int))) = true then
                              if (decide (x13.2 = (0 : Int))) = true then
                                if (decide (((x13.1.kids.map Node.cells).length : Int) = (1 : Int))) = true then
                                  ix x13.1.kids (0 : Int) >>= fun x16 =>
                                  some (decide (x16.text = (⟨#[42]⟩ : ByteArray)))
                                else
                                  some false
                              else
                                some false
                            else
                              some false
                          else
                            some false
                        else
                          some false
                      else
                        some false
                    else
                      some false
                  else
                    some false
                else
                  some false
              else
                some false
            else
              some false
          else
            some false
        else
          some false
      else
        some false
    else
      some false
    : Option (Bool)) = some r) : M_F_L10_awake  r := by
  refine Fn_run (T := tt) (N := 149) (rs := [.tmp 0]) (fun vs w => by simp) Tryd.func17 rfl rfl rfl rfl (by kernel_rfl) (all_pure3 rfl) (closed3_pure _ rfl) ?_
  refine Ok_runB env [] rfl ?_
  obtain ⟨x1, hx, h⟩ := bind_some h
  refine Ok_call (H_F_L10_number _ _ hx) ?_
  refine Ok_runB env [] rfl ?_
  obtain ⟨x2, hx, h⟩ := bind_some h
  refine Ok_call (H_F_L10_number _ _ hx) ?_
  refine Ok_runB env [] rfl ?_
  obtain ⟨x3, hx, h⟩ := bind_some h
  refine Ok_call (H_F_L10_binary _ _ _ _ hx) ?_
  refine Ok_runB env [] rfl ?_
  obtain ⟨x4, hx, h⟩ := bind_some h
  refine Ok_call (H_F_L10_number _ _ hx) ?_
  refine Ok_runB env [] rfl ?_
  obtain ⟨x5, hx, h⟩ := bind_some h
  refine Ok_call (H_F_L10_number _ _ hx) ?_
  refine Ok_runB env [] rfl ?_
  obtain ⟨x6, hx, h⟩ := bind_some h
  refine Ok_call (H_F_L10_binary _ _ _ _ hx) ?_
  refine Ok_runB env [] rfl ?_
  obtain ⟨x7, hx, h⟩ := bind_some h
  refine Ok_call (H_F_path_Of _ _ _ hx) ?_
  refine Ok_runB env [] rfl ?_
  obtain ⟨x8, hx, h⟩ := bind_some h
  refine Ok_call (Fn.wk (H_F_path_Index _ _ _ hx) (wkLs_cons (wk_refl _) (wkLs_cons (wk_sl (.inl rfl)) wkLs_nil))) ?_
  refine Ok_runB env [] rfl ?_
  obtain ⟨x9, hx, h⟩ := bind_some h
  refine Ok_call (Fn.wk (H_F_path_Get _ _ _ hx) (wkLs_cons (wk_refl _) (wkLs_cons (wk_sl (.inl rfl)) wkLs_nil))) ?_
  refine Ok_runB env [] rfl ?_
  obtain ⟨x10, hx, h⟩ := bind_some h
  refine Ok_call (Fn.wk (H_F_path_Replace _ _ _ _ hx) (wkLs_cons (wk_refl _) (wkLs_cons (wk_sl (.inl rfl)) (wkLs_cons (wk_refl _) wkLs_nil)))) ?_
  refine Ok_runB env [] rfl ?_
  obtain ⟨x11, hx, h⟩ := bind_some h
  refine Ok_call (Fn.wk (H_F_path_Replace _ _ _ _ hx) (wkLs_cons (wk_refl _) (wkLs_cons (wk_sl (.inl rfl)) (wkLs_cons (wk_refl _) wkLs_nil)))) ?_
  refine Ok_runB env [] rfl ?_
  obtain ⟨x12, hx, h⟩ := bind_some h
  refine Ok_call (Fn.wk (H_F_path_Insert _ _ _ _ hx) (wkLs_cons (wk_agg (wkL_cons (wk1_refl _) (wkL_cons (wk1_refl _) (wkL_cons (wk1_sl (.inr rfl)) (wkL_cons (wk1_slE (.inl rfl) (show _ = List.map Node.cells [x3] from (by first | (simp only [List.map_cons, List.map_nil, Node.cells_eq]; done) | (simp only [List.map_cons, List.map_nil, Node.cells_eq]; rfl)))) wkL_nil))))) (wkLs_cons (wk_sl (.inl rfl)) (wkLs_cons (wk_refl _) wkLs_nil)))) ?_
  refine Ok_runB env [] rfl ?_
  obtain ⟨x13, hx, h⟩ := bind_some h
  refine Ok_call (Fn.wk (H_F_path_Remove _ _ _ hx) (wkLs_cons (wk_refl _) (wkLs_cons (wk_sl (.inl rfl)) wkLs_nil))) ?_
  refine Ok_runB env [] rfl ?_
  refine Ok_guard_t (fun hb => ?_) (fun hb => ?_)
  · replace h := ite_t hb h
    refine Ok_runB env [] rfl ?_
    refine Ok_guard_t (fun hb => ?_) (fun hb => ?_)
    · replace h := ite_t hb h
      refine Ok_runB env [] rfl ?_
      obtain ⟨x14, hx, h⟩ := bind_some h
      refine Ok_ixT env hx rfl rfl rfl rfl rfl ?_
      refine Ok_runB env [] rfl ?_
      refine Ok_guard_t (fun hb => ?_) (fun hb => ?_)
      · replace h := ite_t hb h
        refine Ok_runB env [] rfl ?_
        refine Ok_guard_t (fun hb => ?_) (fun hb => ?_)
        · replace h := ite_t hb h
          refine Ok_runB env [] rfl ?_
          refine Ok_guard_t (fun hb => ?_) (fun hb => ?_)
          · replace h := ite_t hb h
            refine Ok_runB env [] rfl ?_
            refine Ok_guard_t (fun hb => ?_) (fun hb => ?_)
            · replace h := ite_t hb h
              refine Ok_runB env [] rfl ?_
              refine Ok_guard_t (fun hb => ?_) (fun hb => ?_)
              · replace h := ite_t hb h
                refine Ok_runB env [] rfl ?_
                refine Ok_guard_t (fun hb => ?_) (fun hb => ?_)
                · replace h := ite_t hb h
                  refine Ok_runB env [] rfl ?_
                  refine Ok_guard_t (fun hb => ?_) (fun hb => ?_)
                  · replace h := ite_t hb h
                    refine Ok_runB env [] rfl ?_
                    obtain ⟨x15, hx, h⟩ := bind_some h
                    refine Ok_ixT env hx rfl rfl rfl rfl (Node.cells_eq x15) ?_
                    refine Ok_runB env [] rfl ?_
                    refine Ok_guard_t (fun hb => ?_) (fun hb => ?_)
                    · replace h := ite_t hb h
                      refine Ok_runB env [] rfl ?_
                      refine Ok_guard_t (fun hb => ?_) (fun hb => ?_)
                      · replace h := ite_t hb h
                        refine Ok_runB env [] rfl ?_
                        refine Ok_guard_t (fun hb => ?_) (fun hb => ?_)
                        · replace h := ite_t hb h
                          refine Ok_runB env [] rfl ?_
                          refine Ok_guard_t (fun hb => ?_) (fun hb => ?_)
                          · replace h := ite_t hb h
                            refine Ok_runB env [] rfl ?_
                            refine Ok_guard_t (fun hb => ?_) (fun hb => ?_)
                            · replace h := ite_t hb h
                              refine Ok_runB env [] rfl ?_
                              refine Ok_guard_t (fun hb => ?_) (fun hb => ?_)
                              · replace h := ite_t hb h
                                refine Ok_runB env [] rfl ?_
                                obtain ⟨x16, hx, h⟩ := bind_some h
                                refine Ok_ixT env hx rfl rfl rfl rfl (Node.cells_eq x16) ?_
                                refine Ok_runB env [] rfl ?_
                                cases h
                                exact Ok_fin env rfl rfl (told_eq rfl)
                              · replace h := ite_f hb h
                                refine Ok_runB env [] rfl ?_
                                cases h
                                exact Ok_fin env rfl rfl (told_eq rfl)
                            · replace h := ite_f hb h
                              refine Ok_runB env [] rfl ?_
                              cases h
                              exact Ok_fin env rfl rfl (told_eq rfl)
                          · replace h := ite_f hb h
                            refine Ok_runB env [] rfl ?_
                            cases h
                            exact Ok_fin env rfl rfl (told_eq rfl)
                        · replace h := ite_f hb h
                          refine Ok_runB env [] rfl ?_
                          cases h
                          exact Ok_fin env rfl rfl (told_eq rfl)
                      · replace h := ite_f hb h
                        refine Ok_runB env [] rfl ?_
                        cases h
                        exact Ok_fin env rfl rfl (told_eq rfl)
                    · replace h := ite_f hb h
                      refine Ok_runB env [] rfl ?_
                      cases h
                      exact Ok_fin env rfl rfl (told_eq rfl)
                  · replace h := ite_f hb h
                    refine Ok_runB env [] rfl ?_
                    cases h
                    exact Ok_fin env rfl rfl (told_eq rfl)
                · replace h := ite_f hb h
                  refine Ok_runB env [] rfl ?_
                  cases h
                  exact Ok_fin env rfl rfl (told_eq rfl)
              · replace h := ite_f hb h
                refine Ok_runB env [] rfl ?_
                cases h
                exact Ok_fin env rfl rfl (told_eq rfl)
            · replace h := ite_f hb h
              refine Ok_runB env [] rfl ?_
              cases h
              exact Ok_fin env rfl rfl (told_eq rfl)
          · replace h := ite_f hb h
            refine Ok_runB env [] rfl ?_
            cases h
            exact Ok_fin env rfl rfl (told_eq rfl)
        · replace h := ite_f hb h
          refine Ok_runB env [] rfl ?_
          cases h
          exact Ok_fin env rfl rfl (told_eq rfl)
      · replace h := ite_f hb h
        refine Ok_runB env [] rfl ?_
        cases h
        exact Ok_fin env rfl rfl (told_eq rfl)
    · replace h := ite_f hb h
      refine Ok_runB env [] rfl ?_
      cases h
      exact Ok_fin env rfl rfl (told_eq rfl)
  · replace h := ite_f hb h
    refine Ok_runB env [] rfl ?_
    cases h
    exact Ok_fin env rfl rfl (told_eq rfl)
/-- treemerge/treemergelaw10.awake -/
theorem H_F_L10_awake  (r : Bool) (h : F_L10_awake  = some r) : M_F_L10_awake  r :=
  S_F_L10_awake  r (by rw [E_F_L10_awake] at h; exact h)
def F_R3_Strings_l0 (t0 : (List ByteArray)) (t1 : (List ByteArray)) (t5 : Int) : Option (Bool) :=
  if (decide (t5 < ((t0.map sc).length : Int))) = true then
    ix t0 t5 >>= fun x1 =>
    ix t1 t5 >>= fun x2 =>
    if (!decide (x1 = x2)) = true then
      some false
    else
      F_R3_Strings_l0 (nofix t0) (nofix t1) (IntKind.i64.wrap (t5 + (1 : Int)))
  else
    some true
  partial_fixpoint
@[reducible] def M_F_R3_Strings_l0 (t0 : (List ByteArray)) (t1 : (List ByteArray)) (t5 : Int) (r : Bool) : Prop :=
  Ok Tryd.prog G tt 26 0 (Ret Tryd.prog [.tmp 4] (fun y H => Told Tryd.prog G H y (.bool r))) (.again (loopOf [] Tryd.f56 0).1 (loopOf [] Tryd.f56 0).2 (.n (.sl 1 false (t0.map sc)) (.n (.sl 1 false (t1.map sc)) .z (.n (.int .i64 t5) .z .z)) .z) 0 [])
theorem E_F_R3_Strings_l0 (t0 : (List ByteArray)) (t1 : (List ByteArray)) (t5 : Int) : F_R3_Strings_l0 t0 t1 t5 = (
    if (decide (t5 < ((t0.map sc).length : Int))) = true then
      ix t0 t5 >>= fun x1 =>
      ix t1 t5 >>= fun x2 =>
      if (!decide (x1 = x2)) = true then
        some false
      else
        F_R3_Strings_l0 t0 t1 (IntKind.i64.wrap (t5 + (1 : Int)))
    else
      some true
    : Option (Bool)) := F_R3_Strings_l0.eq_def t0 t1 t5
set_option maxHeartbeats 4000000 in
theorem S_F_R3_Strings_l0 (F_R3_Strings_l0 : (List ByteArray) → (List ByteArray) → Int → Option (Bool)) (H_F_R3_Strings_l0 : ∀ (t0 : (List ByteArray)) (t1 : (List ByteArray)) (t5 : Int) (r : Bool), F_R3_Strings_l0 t0 t1 t5 = some r → M_F_R3_Strings_l0 t0 t1 t5 r) (t0 : (List ByteArray)) (t1 : (List ByteArray)) (t5 : Int) (r : Bool) (h : (
    if (decide (t5 < ((t0.map sc).length : Int))) = true then
      ix t0 t5 >>= fun x1 =>
      ix t1 t5 >>= fun x2 =>
      if (!decide (x1 = x2)) = true then
        some false
      else
        F_R3_Strings_l0 t0 t1 (IntKind.i64.wrap (t5 + (1 : Int)))
    else
      some true
    : Option (Bool)) = some r) : M_F_R3_Strings_l0 t0 t1 t5 r := by
  refine Ok_unroll ?_
  refine Ok_runB env [] rfl ?_
  refine Ok_cond (fun hb => ?_) (fun hb => ?_)
  · replace h := ite_t hb h
    refine Ok_runB env [] rfl ?_
    obtain ⟨x1, hx, h⟩ := bind_some h
    refine Ok_ixT env hx rfl rfl rfl rfl rfl ?_
    refine Ok_runB env [] rfl ?_
    obtain ⟨x2, hx, h⟩ := bind_some h
    refine Ok_ixT env hx rfl rfl rfl rfl rfl ?_
    refine Ok_runB env [] rfl ?_
    refine Ok_cond (fun hb => ?_) (fun hb => ?_)
    · replace h := ite_t hb h
      refine Ok_runB env [] rfl ?_
      cases h
      exact Ok_fin env rfl rfl (told_eq rfl)
    · replace h := ite_f hb h
      refine Ok_runB env [] rfl ?_
      exact Ok_again_to (by kernel_rfl) (less_at (by simp [leFT, leV, leOs, leO, leC, rho, AV.ren, AV.ren1, AV.un, AV.un1, AV.closed, wkS] <;> (repeat' apply And.intro) <;> first | rfl) (by simp [leFT, leV, leOs, leO, leC, rho, AV.ren, AV.ren1, AV.un, AV.un1, AV.closed, wkS] <;> (repeat' apply And.intro) <;> first | rfl)) (H_F_R3_Strings_l0 _ _ _ _ h)
  · replace h := ite_f hb h
    refine Ok_runB env [] rfl ?_
    cases h
    exact Ok_fin env rfl rfl (told_eq rfl)
/-- treemerge/treemergeref03.Strings -/
theorem H_F_R3_Strings_l0 (t0 : (List ByteArray)) (t1 : (List ByteArray)) (t5 : Int) (r : Bool) (h : F_R3_Strings_l0 t0 t1 t5 = some r) : M_F_R3_Strings_l0 t0 t1 t5 r :=
  F_R3_Strings_l0.partial_correctness (fun t0 t1 t5 r => M_F_R3_Strings_l0 t0 t1 t5 r) (fun F0 h0 => S_F_R3_Strings_l0 F0 h0) t0 t1 t5 r h
def F_R3_Strings (a0 : (List ByteArray)) (a1 : (List ByteArray)) : Option (Bool) :=
  if (!decide (((a0.map sc).length : Int) = ((a1.map sc).length : Int))) = true then
    some false
  else
    F_R3_Strings_l0 a0 a1 (0 : Int)
@[reducible] def M_F_R3_Strings (a0 : (List ByteArray)) (a1 : (List ByteArray)) (r : Bool) : Prop :=
  Fn Tryd.prog G 56 [(.sl 1 false (a0.map sc)), (.sl 1 false (a1.map sc))] (.bool r)
theorem E_F_R3_Strings (a0 : (List ByteArray)) (a1 : (List ByteArray)) : F_R3_Strings a0 a1 = (
    if (!decide (((a0.map sc).length : Int) = ((a1.map sc).length : Int))) = true then
      some false
    else
      F_R3_Strings_l0 a0 a1 (0 : Int)
    : Option (Bool)) := F_R3_Strings.eq_def a0 a1
set_option maxHeartbeats 4000000 in
theorem S_F_R3_Strings  (a0 : (List ByteArray)) (a1 : (List ByteArray)) (r : Bool) (h : (
    if (!decide (((a0.map sc).length : Int) = ((a1.map sc).length : Int))) = true then
      some false
    else
      F_R3_Strings_l0 a0 a1 (0 : Int)
    : Option (Bool)) = some r) : M_F_R3_Strings a0 a1 r := by
  refine Fn_run (T := tt) (N := 26) (rs := [.tmp 4]) (fun vs w => by simp) Tryd.func56 rfl rfl rfl rfl (by kernel_rfl) (all_pure3 rfl) (closed3_pure _ rfl) ?_
  refine Ok_runB env [] rfl ?_
  refine Ok_cond (fun hb => ?_) (fun hb => ?_)
  · replace h := ite_t hb h
    refine Ok_runB env [] rfl ?_
    cases h
    exact Ok_fin env rfl rfl (told_eq rfl)
  · replace h := ite_f hb h
    refine Ok_runB env [] rfl ?_
    exact Ok_loop_to (by kernel_rfl) (less_at (by simp [leFT, leV, leOs, leO, leC, rho, AV.ren, AV.ren1, AV.un, AV.un1, AV.closed, wkS] <;> (repeat' apply And.intro) <;> first | rfl) (by simp [leFT, leV, leOs, leO, leC, rho, AV.ren, AV.ren1, AV.un, AV.un1, AV.closed, wkS] <;> (repeat' apply And.intro) <;> first | rfl)) (H_F_R3_Strings_l0 _ _ _ _ h)
/-- treemerge/treemergeref03.Strings -/
theorem H_F_R3_Strings (a0 : (List ByteArray)) (a1 : (List ByteArray)) (r : Bool) (h : F_R3_Strings a0 a1 = some r) : M_F_R3_Strings a0 a1 r :=
  S_F_R3_Strings a0 a1 r (by rw [E_F_R3_Strings] at h; exact h)
mutual
def F_R6_Equal (a0 : Node) (a1 : Node) : Option (Bool) :=
  if (!decide (a0.kind = a1.kind)) = true then
    some false
  else
    if (!decide (a0.text = a1.text)) = true then
      some false
    else
      F_R3_Strings a0.gaps a1.gaps >>= fun x1 =>
      if (!x1) = true then
        some false
      else
        if (!decide (((a0.kids.map Node.cells).length : Int) = ((a1.kids.map Node.cells).length : Int))) = true then
          some false
        else
          F_R6_Equal_l0 (0 : Int) (nofix a0) (nofix a1)
  partial_fixpoint
def F_R6_Equal_l0 (t5 : Int) (o0 : Node) (o1 : Node) : Option (Bool) :=
  if (decide (t5 < ((o0.kids.map Node.cells).length : Int))) = true then
    ix o0.kids t5 >>= fun x2 =>
    ix o1.kids t5 >>= fun x3 =>
    F_R6_Equal (nofix x2) (nofix x3) >>= fun x4 =>
    if (!x4) = true then
      some false
    else
      F_R6_Equal_l0 (IntKind.i64.wrap (t5 + (1 : Int))) (nofix o0) (nofix o1)
  else
    some true
  partial_fixpoint
end
@[reducible] def M_F_R6_Equal (a0 : Node) (a1 : Node) (r : Bool) : Prop :=
  Fn Tryd.prog G 25 [(.agg (cellsN a0)), (.agg (cellsN a1))] (.bool r)
@[reducible] def M_F_R6_Equal_l0 (t5 : Int) (o0 : Node) (o1 : Node) (r : Bool) : Prop :=
  Ok Tryd.prog G tt 54 0 (Ret Tryd.prog [.tmp 4] (fun y H => Told Tryd.prog G H y (.bool r))) (.again (loopOf [] Tryd.f25 0).1 (loopOf [] Tryd.f25 0).2 (.n .undef (.n .undef (.n (.ptr 1 1 0) .z .z) (.n (.int .i64 t5) .z .z)) (.n (.ptr 0 0 0) .z .z)) 2 [(0, .var 25 (cellsN o0)), (1, .var 25 (cellsN o1))])
theorem E_F_R6_Equal (a0 : Node) (a1 : Node) : F_R6_Equal a0 a1 = (
    if (!decide (a0.kind = a1.kind)) = true then
      some false
    else
      if (!decide (a0.text = a1.text)) = true then
        some false
      else
        F_R3_Strings a0.gaps a1.gaps >>= fun x1 =>
        if (!x1) = true then
          some false
        else
          if (!decide (((a0.kids.map Node.cells).length : Int) = ((a1.kids.map Node.cells).length : Int))) = true then
            some false
          else
            F_R6_Equal_l0 (0 : Int) a0 a1
    : Option (Bool)) := F_R6_Equal.eq_def a0 a1
theorem E_F_R6_Equal_l0 (t5 : Int) (o0 : Node) (o1 : Node) : F_R6_Equal_l0 t5 o0 o1 = (
    if (decide (t5 < ((o0.kids.map Node.cells).length : Int))) = true then
      ix o0.kids t5 >>= fun x2 =>
      ix o1.kids t5 >>= fun x3 =>
      F_R6_Equal x2 x3 >>= fun x4 =>
      if (!x4) = true then
        some false
      else
        F_R6_Equal_l0 (IntKind.i64.wrap (t5 + (1 : Int))) o0 o1
    else
      some true
    : Option (Bool)) := F_R6_Equal_l0.eq_def t5 o0 o1
set_option maxHeartbeats 4000000 in
theorem S_F_R6_Equal (F_R6_Equal_l0 : Int → Node → Node → Option (Bool)) (H_F_R6_Equal_l0 : ∀ (t5 : Int) (o0 : Node) (o1 : Node) (r : Bool), F_R6_Equal_l0 t5 o0 o1 = some r → M_F_R6_Equal_l0 t5 o0 o1 r) (a0 : Node) (a1 : Node) (r : Bool) (h : (
    if (!decide (a0.kind = a1.kind)) = true then
      some false
    else
      if (!decide (a0.text = a1.text)) = true then
        some false
      else
        F_R3_Strings a0.gaps a1.gaps >>= fun x1 =>
        if (!x1) = true then
          some false
        else
          if (!decide (((a0.kids.map Node.cells).length : Int) = ((a1.kids.map Node.cells).length : Int))) = true then
            some false
          else
            F_R6_Equal_l0 (0 : Int) a0 a1
    : Option (Bool)) = some r) : M_F_R6_Equal a0 a1 r := by
  refine Fn_run (T := tt) (N := 54) (rs := [.tmp 4]) (fun vs w => by simp) Tryd.func25 rfl rfl rfl rfl (by kernel_rfl) (all_pure3 rfl) (closed3_pure _ rfl) ?_
  refine Ok_runB env [] rfl ?_
  refine Ok_guard_f (fun hb => ?_) (fun hb => ?_)
  · replace h := ite_f hb h
    refine Ok_runB env [] rfl ?_
    refine Ok_guard_f (fun hb => ?_) (fun hb => ?_)
    · replace h := ite_f hb h
      refine Ok_runB env [] rfl ?_
      obtain ⟨x1, hx, h⟩ := bind_some h
      refine Ok_call (H_F_R3_Strings _ _ _ hx) ?_
      refine Ok_runB env [] rfl ?_
      refine Ok_guard_f (fun hb => ?_) (fun hb => ?_)
      · replace h := ite_f hb h
        refine Ok_runB env [] rfl ?_
        refine Ok_cond (fun hb => ?_) (fun hb => ?_)
        · replace h := ite_t hb h
          refine Ok_runB env [] rfl ?_
          cases h
          exact Ok_fin env rfl rfl (told_eq rfl)
        · replace h := ite_f hb h
          refine Ok_runB env [] rfl ?_
          exact Ok_loop_to (by kernel_rfl) (less_at (by simp [leFT, leV, leOs, leO, leC, rho, AV.ren, AV.ren1, AV.un, AV.un1, AV.closed, wkS] <;> (repeat' apply And.intro) <;> first | rfl) (by simp [leFT, leV, leOs, leO, leC, rho, AV.ren, AV.ren1, AV.un, AV.un1, AV.closed, wkS] <;> (repeat' apply And.intro) <;> first | rfl)) (H_F_R6_Equal_l0 _ _ _ _ h)
      · replace h := ite_t hb h
        refine Ok_runB env [] rfl ?_
        cases h
        exact Ok_fin env rfl rfl (told_eq rfl)
    · replace h := ite_t hb h
      refine Ok_runB env [] rfl ?_
      cases h
      exact Ok_fin env rfl rfl (told_eq rfl)
  · replace h := ite_t hb h
    refine Ok_runB env [] rfl ?_
    cases h
    exact Ok_fin env rfl rfl (told_eq rfl)
set_option maxHeartbeats 4000000 in
theorem S_F_R6_Equal_l0 (F_R6_Equal : Node → Node → Option (Bool)) (F_R6_Equal_l0 : Int → Node → Node → Option (Bool)) (H_F_R6_Equal : ∀ (a0 : Node) (a1 : Node) (r : Bool), F_R6_Equal a0 a1 = some r → M_F_R6_Equal a0 a1 r) (H_F_R6_Equal_l0 : ∀ (t5 : Int) (o0 : Node) (o1 : Node) (r : Bool), F_R6_Equal_l0 t5 o0 o1 = some r → M_F_R6_Equal_l0 t5 o0 o1 r) (t5 : Int) (o0 : Node) (o1 : Node) (r : Bool) (h : (
    if (decide (t5 < ((o0.kids.map Node.cells).length : Int))) = true then
      ix o0.kids t5 >>= fun x2 =>
      ix o1.kids t5 >>= fun x3 =>
      F_R6_Equal x2 x3 >>= fun x4 =>
      if (!x4) = true then
        some false
      else
        F_R6_Equal_l0 (IntKind.i64.wrap (t5 + (1 : Int))) o0 o1
    else
      some true
    : Option (Bool)) = some r) : M_F_R6_Equal_l0 t5 o0 o1 r := by
  refine Ok_unroll ?_
  refine Ok_runB env [] rfl ?_
  refine Ok_cond (fun hb => ?_) (fun hb => ?_)
  · replace h := ite_t hb h
    refine Ok_runB env [] rfl ?_
    obtain ⟨x2, hx, h⟩ := bind_some h
    refine Ok_ixT env hx rfl rfl rfl rfl (Node.cells_eq x2) ?_
    refine Ok_runB env [] rfl ?_
    obtain ⟨x3, hx, h⟩ := bind_some h
    refine Ok_ixT env hx rfl rfl rfl rfl (Node.cells_eq x3) ?_
    refine Ok_runB env [] rfl ?_
    obtain ⟨x4, hx, h⟩ := bind_some h
    refine Ok_call (H_F_R6_Equal _ _ _ hx) ?_
    refine Ok_runB env [] rfl ?_
    refine Ok_cond (fun hb => ?_) (fun hb => ?_)
    · replace h := ite_t hb h
      refine Ok_runB env [] rfl ?_
      cases h
      exact Ok_fin env rfl rfl (told_eq rfl)
    · replace h := ite_f hb h
      refine Ok_runB env [] rfl ?_
      exact Ok_again_to (by kernel_rfl) (less_at (by simp [leFT, leV, leOs, leO, leC, rho, AV.ren, AV.ren1, AV.un, AV.un1, AV.closed, wkS] <;> (repeat' apply And.intro) <;> first | rfl) (by simp [leFT, leV, leOs, leO, leC, rho, AV.ren, AV.ren1, AV.un, AV.un1, AV.closed, wkS] <;> (repeat' apply And.intro) <;> first | rfl)) (H_F_R6_Equal_l0 _ _ _ _ h)
  · replace h := ite_f hb h
    refine Ok_runB env [] rfl ?_
    cases h
    exact Ok_fin env rfl rfl (told_eq rfl)
/-- treemerge/treemergeref06.Equal -/
theorem H_F_R6_Equal (a0 : Node) (a1 : Node) (r : Bool) (h : F_R6_Equal a0 a1 = some r) : M_F_R6_Equal a0 a1 r :=
  (F_R6_Equal.mutual_partial_correctness (fun a0 a1 r => M_F_R6_Equal a0 a1 r) (fun t5 o0 o1 r => M_F_R6_Equal_l0 t5 o0 o1 r) (fun F0 h0 => S_F_R6_Equal F0 h0) (fun F0 F1 h0 h1 => S_F_R6_Equal_l0 F0 F1 h0 h1)).1 a0 a1 r h
/-- treemerge/treemergeref06.Equal -/
theorem H_F_R6_Equal_l0 (t5 : Int) (o0 : Node) (o1 : Node) (r : Bool) (h : F_R6_Equal_l0 t5 o0 o1 = some r) : M_F_R6_Equal_l0 t5 o0 o1 r :=
  (F_R6_Equal.mutual_partial_correctness (fun a0 a1 r => M_F_R6_Equal a0 a1 r) (fun t5 o0 o1 r => M_F_R6_Equal_l0 t5 o0 o1 r) (fun F0 h0 => S_F_R6_Equal F0 h0) (fun F0 F1 h0 h1 => S_F_R6_Equal_l0 F0 F1 h0 h1)).2 t5 o0 o1 r h
def F_R10_Get_l0 (t1 : (List Int)) (t6 : Int) (o0 : Node) : Option (Node × Int) :=
  if (decide (t6 < ((t1.map ic).length : Int))) = true then
    ix t1 t6 >>= fun x1 =>
    if (decide (x1 < (0 : Int))) = true then
      some ((Node.mk 0 (⟨#[]⟩) ([] : (List ByteArray)) ([] : (List Node))), (5 : Int))
    else
      ix t1 t6 >>= fun x2 =>
      if (decide (((o0.kids.map Node.cells).length : Int) ≤ x2)) = true then
        some ((Node.mk 0 (⟨#[]⟩) ([] : (List ByteArray)) ([] : (List Node))), (5 : Int))
      else
        ix t1 t6 >>= fun x3 =>
        ix o0.kids x3 >>= fun x4 =>
        F_R10_Get_l0 (nofix t1) (IntKind.i64.wrap (t6 + (1 : Int))) (nofix x4)
  else
    some (o0, (0 : Int))
  partial_fixpoint
@[reducible] def M_F_R10_Get_l0 (t1 : (List Int)) (t6 : Int) (o0 : Node) (r : Node × Int) : Prop :=
  Ok Tryd.prog G tt 38 0 (Ret Tryd.prog [.cell 4 25, .tmp 5] (fun y H => Told Tryd.prog G H y (.tup [(.agg (cellsN r.1)), (.int .i64 r.2)]))) (.again (loopOf [] Tryd.f23 0).1 (loopOf [] Tryd.f23 0).2 (.n .undef (.n (.sl 1 false (t1.map ic)) .z .z) (.n (.ptr 0 0 0) (.n (.ptr 1 1 0) .z .z) (.n (.int .i64 t6) .z .z))) 2 [(0, .var 25 (cellsN o0)), (1, .var 25 [(.int .i64 0), (.str ⟨#[]⟩), (.sl 1 false (([] : (List ByteArray)).map sc)), (.sl 4 false (([] : (List Node)).map Node.cells))])])
theorem E_F_R10_Get_l0 (t1 : (List Int)) (t6 : Int) (o0 : Node) : F_R10_Get_l0 t1 t6 o0 = (
    if (decide (t6 < ((t1.map ic).length : Int))) = true then
      ix t1 t6 >>= fun x1 =>
      if (decide (x1 < (0 : Int))) = true then
        some ((Node.mk 0 (⟨#[]⟩) ([] : (List ByteArray)) ([] : (List Node))), (5 : Int))
      else
        ix t1 t6 >>= fun x2 =>
        if (decide (((o0.kids.map Node.cells).length : Int) ≤ x2)) = true then
          some ((Node.mk 0 (⟨#[]⟩) ([] : (List ByteArray)) ([] : (List Node))), (5 : Int))
        else
          ix t1 t6 >>= fun x3 =>
          ix o0.kids x3 >>= fun x4 =>
          F_R10_Get_l0 t1 (IntKind.i64.wrap (t6 + (1 : Int))) x4
    else
      some (o0, (0 : Int))
    : Option (Node × Int)) := F_R10_Get_l0.eq_def t1 t6 o0
set_option maxHeartbeats 4000000 in
theorem S_F_R10_Get_l0 (F_R10_Get_l0 : (List Int) → Int → Node → Option (Node × Int)) (H_F_R10_Get_l0 : ∀ (t1 : (List Int)) (t6 : Int) (o0 : Node) (r : Node × Int), F_R10_Get_l0 t1 t6 o0 = some r → M_F_R10_Get_l0 t1 t6 o0 r) (t1 : (List Int)) (t6 : Int) (o0 : Node) (r : Node × Int) (h : (
    if (decide (t6 < ((t1.map ic).length : Int))) = true then
      ix t1 t6 >>= fun x1 =>
      if (decide (x1 < (0 : Int))) = true then
        some ((Node.mk 0 (⟨#[]⟩) ([] : (List ByteArray)) ([] : (List Node))), (5 : Int))
      else
        ix t1 t6 >>= fun x2 =>
        if (decide (((o0.kids.map Node.cells).length : Int) ≤ x2)) = true then
          some ((Node.mk 0 (⟨#[]⟩) ([] : (List ByteArray)) ([] : (List Node))), (5 : Int))
        else
          ix t1 t6 >>= fun x3 =>
          ix o0.kids x3 >>= fun x4 =>
          F_R10_Get_l0 t1 (IntKind.i64.wrap (t6 + (1 : Int))) x4
    else
      some (o0, (0 : Int))
    : Option (Node × Int)) = some r) : M_F_R10_Get_l0 t1 t6 o0 r := by
  refine Ok_unroll ?_
  refine Ok_runB env [] rfl ?_
  refine Ok_cond (fun hb => ?_) (fun hb => ?_)
  · replace h := ite_t hb h
    refine Ok_runB env [] rfl ?_
    obtain ⟨x1, hx, h⟩ := bind_some h
    refine Ok_ixT env hx rfl rfl rfl rfl rfl ?_
    refine Ok_runB env [] rfl ?_
    refine Ok_guard_f (fun hb => ?_) (fun hb => ?_)
    · replace h := ite_f hb h
      refine Ok_runB env [] rfl ?_
      obtain ⟨x2, hx, h⟩ := bind_some h
      refine Ok_ixT env hx rfl rfl rfl rfl rfl ?_
      refine Ok_runB env [] rfl ?_
      refine Ok_cond (fun hb => ?_) (fun hb => ?_)
      · replace h := ite_t hb h
        refine Ok_runB env [] rfl ?_
        cases h
        exact Ok_fin env rfl rfl (told_view (viewT_tup (viewLs_cons (view_agg (viewL_cons (view1_int rfl) (viewL_cons (view1_str rfl) (viewL_cons (view1_sl (.inr rfl)) (viewL_cons (view1_sl (.inr rfl)) viewL_nil))))) (viewLs_cons (view_one (view1_int rfl) (by simp)) viewLs_nil))))
      · replace h := ite_f hb h
        refine Ok_runB env [] rfl ?_
        obtain ⟨x3, hx, h⟩ := bind_some h
        refine Ok_ixT env hx rfl rfl rfl rfl rfl ?_
        refine Ok_runB env [] rfl ?_
        obtain ⟨x4, hx, h⟩ := bind_some h
        refine Ok_ixT env hx rfl rfl rfl rfl (Node.cells_eq x4) ?_
        refine Ok_runB env [] rfl ?_
        exact Ok_again_to (by kernel_rfl) (less_at (by simp [leFT, leV, leOs, leO, leC, rho, AV.ren, AV.ren1, AV.un, AV.un1, AV.closed, wkS] <;> (repeat' apply And.intro) <;> first | rfl) (by simp [leFT, leV, leOs, leO, leC, rho, AV.ren, AV.ren1, AV.un, AV.un1, AV.closed, wkS] <;> (repeat' apply And.intro) <;> first | rfl)) (H_F_R10_Get_l0 _ _ _ _ h)
    · replace h := ite_t hb h
      refine Ok_runB env [] rfl ?_
      cases h
      exact Ok_fin env rfl rfl (told_view (viewT_tup (viewLs_cons (view_agg (viewL_cons (view1_int rfl) (viewL_cons (view1_str rfl) (viewL_cons (view1_sl (.inr rfl)) (viewL_cons (view1_sl (.inr rfl)) viewL_nil))))) (viewLs_cons (view_one (view1_int rfl) (by simp)) viewLs_nil))))
  · replace h := ite_f hb h
    refine Ok_runB env [] rfl ?_
    cases h
    exact Ok_fin env rfl rfl (told_eq rfl)
/-- treemerge/treemergeref10.Get -/
theorem H_F_R10_Get_l0 (t1 : (List Int)) (t6 : Int) (o0 : Node) (r : Node × Int) (h : F_R10_Get_l0 t1 t6 o0 = some r) : M_F_R10_Get_l0 t1 t6 o0 r :=
  F_R10_Get_l0.partial_correctness (fun t1 t6 o0 r => M_F_R10_Get_l0 t1 t6 o0 r) (fun F0 h0 => S_F_R10_Get_l0 F0 h0) t1 t6 o0 r h
def F_R10_Get (a0 : Node) (a1 : (List Int)) : Option (Node × Int) :=
  F_R10_Get_l0 a1 (0 : Int) a0
@[reducible] def M_F_R10_Get (a0 : Node) (a1 : (List Int)) (r : Node × Int) : Prop :=
  Fn Tryd.prog G 23 [(.agg (cellsN a0)), (.sl 1 false (a1.map ic))] (.tup [(.agg (cellsN r.1)), (.int .i64 r.2)])
theorem E_F_R10_Get (a0 : Node) (a1 : (List Int)) : F_R10_Get a0 a1 = (
    F_R10_Get_l0 a1 (0 : Int) a0
    : Option (Node × Int)) := F_R10_Get.eq_def a0 a1
set_option maxHeartbeats 4000000 in
theorem S_F_R10_Get  (a0 : Node) (a1 : (List Int)) (r : Node × Int) (h : (
    F_R10_Get_l0 a1 (0 : Int) a0
    : Option (Node × Int)) = some r) : M_F_R10_Get a0 a1 r := by
  refine Fn_run (T := tt) (N := 38) (rs := [.cell 4 25, .tmp 5]) (fun vs w => by simp) Tryd.func23 rfl rfl rfl rfl (by kernel_rfl) (all_pure3 rfl) (closed3_pure _ rfl) ?_
  refine Ok_runB env [] rfl ?_
  exact Ok_loop_to (by kernel_rfl) (less_at (by simp [leFT, leV, leOs, leO, leC, rho, AV.ren, AV.ren1, AV.un, AV.un1, AV.closed, wkS] <;> (repeat' apply And.intro) <;> first | rfl) (by simp [leFT, leV, leOs, leO, leC, rho, AV.ren, AV.ren1, AV.un, AV.un1, AV.closed, wkS] <;> (repeat' apply And.intro) <;> first | rfl)) (H_F_R10_Get_l0 _ _ _ _ h)
/-- treemerge/treemergeref10.Get -/
theorem H_F_R10_Get (a0 : Node) (a1 : (List Int)) (r : Node × Int) (h : F_R10_Get a0 a1 = some r) : M_F_R10_Get a0 a1 r :=
  S_F_R10_Get a0 a1 r (by rw [E_F_R10_Get] at h; exact h)
def F_R10_fits (a0 : Node) (a1 : (List Int)) (a2 : Int) : Option (Bool) :=
  if (decide (((a1.map ic).length : Int) = (0 : Int))) = true then
    some true
  else
    lsub a1 (0 : Int) (IntKind.i64.wrap (((a1.map ic).length : Int) - (1 : Int))) >>= fun x1 =>
    F_R10_Get a0 x1 >>= fun x2 =>
    if (decide (x2.2 = (0 : Int))) = true then
      ix a1 (IntKind.i64.wrap (((a1.map ic).length : Int) - (1 : Int))) >>= fun x3 =>
      F_R7_Fits x2.1.kind x3 a2 >>= fun x4 =>
      some x4
    else
      some false
@[reducible] def M_F_R10_fits (a0 : Node) (a1 : (List Int)) (a2 : Int) (r : Bool) : Prop :=
  Fn Tryd.prog G 61 [(.agg (cellsN a0)), (.sl 1 false (a1.map ic)), (.int .i64 a2)] (.bool r)
theorem E_F_R10_fits (a0 : Node) (a1 : (List Int)) (a2 : Int) : F_R10_fits a0 a1 a2 = (
    if (decide (((a1.map ic).length : Int) = (0 : Int))) = true then
      some true
    else
      lsub a1 (0 : Int) (IntKind.i64.wrap (((a1.map ic).length : Int) - (1 : Int))) >>= fun x1 =>
      F_R10_Get a0 x1 >>= fun x2 =>
      if (decide (x2.2 = (0 : Int))) = true then
        ix a1 (IntKind.i64.wrap (((a1.map ic).length : Int) - (1 : Int))) >>= fun x3 =>
        F_R7_Fits x2.1.kind x3 a2 >>= fun x4 =>
        some x4
      else
        some false
    : Option (Bool)) := F_R10_fits.eq_def a0 a1 a2
set_option maxHeartbeats 4000000 in
theorem S_F_R10_fits  (a0 : Node) (a1 : (List Int)) (a2 : Int) (r : Bool) (h : (
    if (decide (((a1.map ic).length : Int) = (0 : Int))) = true then
      some true
    else
      lsub a1 (0 : Int) (IntKind.i64.wrap (((a1.map ic).length : Int) - (1 : Int))) >>= fun x1 =>
      F_R10_Get a0 x1 >>= fun x2 =>
      if (decide (x2.2 = (0 : Int))) = true then
        ix a1 (IntKind.i64.wrap (((a1.map ic).length : Int) - (1 : Int))) >>= fun x3 =>
        F_R7_Fits x2.1.kind x3 a2 >>= fun x4 =>
        some x4
      else
        some false
    : Option (Bool)) = some r) : M_F_R10_fits a0 a1 a2 r := by
  refine Fn_run (T := tt) (N := 36) (rs := [.tmp 6]) (fun vs w => by simp) Tryd.func61 rfl rfl rfl rfl (by kernel_rfl) (all_pure3 rfl) (closed3_pure _ rfl) ?_
  refine Ok_runB env [] rfl ?_
  refine Ok_cond (fun hb => ?_) (fun hb => ?_)
  · replace h := ite_t hb h
    refine Ok_runB env [] rfl ?_
    cases h
    exact Ok_fin env rfl rfl (told_eq rfl)
  · replace h := ite_f hb h
    refine Ok_runB env [] rfl ?_
    obtain ⟨x1, hx, h⟩ := bind_some h
    refine Ok_lsubT env hx rfl rfl rfl rfl rfl ?_
    refine Ok_runB env [] rfl ?_
    obtain ⟨x2, hx, h⟩ := bind_some h
    refine Ok_call (H_F_R10_Get _ _ _ hx) ?_
    refine Ok_runB env [] rfl ?_
    refine Ok_guard_t (fun hb => ?_) (fun hb => ?_)
    · replace h := ite_t hb h
      refine Ok_runB env [] rfl ?_
      obtain ⟨x3, hx, h⟩ := bind_some h
      refine Ok_ixT env hx rfl rfl rfl rfl rfl ?_
      refine Ok_runB env [] rfl ?_
      obtain ⟨x4, hx, h⟩ := bind_some h
      refine Ok_call (H_F_R7_Fits _ _ _ _ hx) ?_
      refine Ok_runB env [] rfl ?_
      cases h
      exact Ok_fin env rfl rfl (told_eq rfl)
    · replace h := ite_f hb h
      refine Ok_runB env [] rfl ?_
      cases h
      exact Ok_fin env rfl rfl (told_eq rfl)
/-- treemerge/treemergeref10.fits -/
theorem H_F_R10_fits (a0 : Node) (a1 : (List Int)) (a2 : Int) (r : Bool) (h : F_R10_fits a0 a1 a2 = some r) : M_F_R10_fits a0 a1 a2 r :=
  S_F_R10_fits a0 a1 a2 r (by rw [E_F_R10_fits] at h; exact h)
def F_R10_checked (a0 : Node) : Option (Node × Int) :=
  F_R7_Check a0 >>= fun x1 =>
  if (!decide (x1 = (0 : Int))) = true then
    some ((Node.mk 0 (⟨#[]⟩) ([] : (List ByteArray)) ([] : (List Node))), (7 : Int))
  else
    some (a0, (0 : Int))
@[reducible] def M_F_R10_checked (a0 : Node) (r : Node × Int) : Prop :=
  Fn Tryd.prog G 62 [(.agg (cellsN a0))] (.tup [(.agg (cellsN r.1)), (.int .i64 r.2)])
theorem E_F_R10_checked (a0 : Node) : F_R10_checked a0 = (
    F_R7_Check a0 >>= fun x1 =>
    if (!decide (x1 = (0 : Int))) = true then
      some ((Node.mk 0 (⟨#[]⟩) ([] : (List ByteArray)) ([] : (List Node))), (7 : Int))
    else
      some (a0, (0 : Int))
    : Option (Node × Int)) := F_R10_checked.eq_def a0
set_option maxHeartbeats 4000000 in
theorem S_F_R10_checked  (a0 : Node) (r : Node × Int) (h : (
    F_R7_Check a0 >>= fun x1 =>
    if (!decide (x1 = (0 : Int))) = true then
      some ((Node.mk 0 (⟨#[]⟩) ([] : (List ByteArray)) ([] : (List Node))), (7 : Int))
    else
      some (a0, (0 : Int))
    : Option (Node × Int)) = some r) : M_F_R10_checked a0 r := by
  refine Fn_run (T := tt) (N := 9) (rs := [.cell 2 25, .tmp 3]) (fun vs w => by simp) Tryd.func62 rfl rfl rfl rfl (by kernel_rfl) (all_pure3 rfl) (closed3_pure _ rfl) ?_
  refine Ok_runB env [] rfl ?_
  obtain ⟨x1, hx, h⟩ := bind_some h
  refine Ok_call (H_F_R7_Check _ _ hx) ?_
  refine Ok_runB env [] rfl ?_
  refine Ok_cond (fun hb => ?_) (fun hb => ?_)
  · replace h := ite_t hb h
    refine Ok_runB env [] rfl ?_
    cases h
    exact Ok_fin env rfl rfl (told_view (viewT_tup (viewLs_cons (view_agg (viewL_cons (view1_int rfl) (viewL_cons (view1_str rfl) (viewL_cons (view1_sl (.inr rfl)) (viewL_cons (view1_sl (.inr rfl)) viewL_nil))))) (viewLs_cons (view_one (view1_int rfl) (by simp)) viewLs_nil))))
  · replace h := ite_f hb h
    refine Ok_runB env [] rfl ?_
    cases h
    exact Ok_fin env rfl rfl (told_eq rfl)
/-- treemerge/treemergeref10.checked -/
theorem H_F_R10_checked (a0 : Node) (r : Node × Int) (h : F_R10_checked a0 = some r) : M_F_R10_checked a0 r :=
  S_F_R10_checked a0 r (by rw [E_F_R10_checked] at h; exact h)
def F_R10_With_t18 (o2 : Node) : Option (Node) :=
  some o2
@[reducible] def M_F_R10_With_t18 (o2 : Node) (r : Node) : Prop :=
  Ok Tryd.prog G tt 21 0 (Ret Tryd.prog [.cell 4 25] (fun y H => Told Tryd.prog G H y (.agg (cellsN r)))) (.go [] (testOf [18] Tryd.f65 18) [] (.n .undef (.n .undef .z (.n (.ptr 2 2 0) .z .z)) (.n .undef (.n (.ptr 1 1 0) .z .z) .z)) 3 [(0, .dead), (1, .var 25 [(.int .i64 0), (.str ⟨#[]⟩), (.sl 1 false (([] : (List ByteArray)).map sc)), (.sl 4 false (([] : (List Node)).map Node.cells))]), (2, .var 25 (cellsN o2))])
theorem E_F_R10_With_t18 (o2 : Node) : F_R10_With_t18 o2 = (
    some o2
    : Option (Node)) := F_R10_With_t18.eq_def o2
set_option maxHeartbeats 4000000 in
theorem S_F_R10_With_t18  (o2 : Node) (r : Node) (h : (
    some o2
    : Option (Node)) = some r) : M_F_R10_With_t18 o2 r := by
  refine Ok_runB env [18] rfl ?_
  cases h
  exact Ok_fin env rfl rfl (told_eq rfl)
/-- treemerge/treemergeref10.With -/
theorem H_F_R10_With_t18 (o2 : Node) (r : Node) (h : F_R10_With_t18 o2 = some r) : M_F_R10_With_t18 o2 r :=
  S_F_R10_With_t18 o2 r (by rw [E_F_R10_With_t18] at h; exact h)
def F_R10_With (a0 : Node) (a1 : (List Node)) : Option (Node) :=
  F_R7_Own (Node.mk a0.kind a0.text a0.gaps a1) >>= fun x1 =>
  F_R7_Own a0 >>= fun x2 =>
  if (!decide (x1 = x2)) = true then
    F_R10_With_t18 (Node.mk a0.kind a0.text ([] : (List ByteArray)) a1)
  else
    F_R10_With_t18 (Node.mk a0.kind a0.text a0.gaps a1)
@[reducible] def M_F_R10_With (a0 : Node) (a1 : (List Node)) (r : Node) : Prop :=
  Fn Tryd.prog G 65 [(.agg (cellsN a0)), (.sl 4 false (a1.map Node.cells))] (.agg (cellsN r))
theorem E_F_R10_With (a0 : Node) (a1 : (List Node)) : F_R10_With a0 a1 = (
    F_R7_Own (Node.mk a0.kind a0.text a0.gaps a1) >>= fun x1 =>
    F_R7_Own a0 >>= fun x2 =>
    if (!decide (x1 = x2)) = true then
      F_R10_With_t18 (Node.mk a0.kind a0.text ([] : (List ByteArray)) a1)
    else
      F_R10_With_t18 (Node.mk a0.kind a0.text a0.gaps a1)
    : Option (Node)) := F_R10_With.eq_def a0 a1
set_option maxHeartbeats 4000000 in
theorem S_F_R10_With  (a0 : Node) (a1 : (List Node)) (r : Node) (h : (
    F_R7_Own (Node.mk a0.kind a0.text a0.gaps a1) >>= fun x1 =>
    F_R7_Own a0 >>= fun x2 =>
    if (!decide (x1 = x2)) = true then
      F_R10_With_t18 (Node.mk a0.kind a0.text ([] : (List ByteArray)) a1)
    else
      F_R10_With_t18 (Node.mk a0.kind a0.text a0.gaps a1)
    : Option (Node)) = some r) : M_F_R10_With a0 a1 r := by
  refine Fn_run (T := tt) (N := 21) (rs := [.cell 4 25]) (fun vs w => by simp) Tryd.func65 rfl rfl rfl rfl (by kernel_rfl) (all_pure3 rfl) (closed3_pure _ rfl) ?_
  refine Ok_runB env [18] rfl ?_
  obtain ⟨x1, hx, h⟩ := bind_some h
  refine Ok_call (H_F_R7_Own _ _ hx) ?_
  refine Ok_runB env [18] rfl ?_
  obtain ⟨x2, hx, h⟩ := bind_some h
  refine Ok_call (H_F_R7_Own _ _ hx) ?_
  refine Ok_runB env [18] rfl ?_
  refine Ok_cond (fun hb => ?_) (fun hb => ?_)
  · replace h := ite_t hb h
    refine Ok_runB env [18] rfl ?_
    exact Ok_bar_to (by kernel_rfl) rfl (less_at (by simp [leFT, leV, leOs, leO, leC, rho, AV.ren, AV.ren1, AV.un, AV.un1, AV.closed, wkS] <;> (repeat' apply And.intro) <;> first | rfl) (by simp [leFT, leV, leOs, leO, leC, rho, AV.ren, AV.ren1, AV.un, AV.un1, AV.closed, wkS] <;> (repeat' apply And.intro) <;> first | rfl)) (H_F_R10_With_t18 _ _ h)
  · replace h := ite_f hb h
    refine Ok_runB env [18] rfl ?_
    exact Ok_bar_to (by kernel_rfl) rfl (less_at (by simp [leFT, leV, leOs, leO, leC, rho, AV.ren, AV.ren1, AV.un, AV.un1, AV.closed, wkS] <;> (repeat' apply And.intro) <;> first | rfl) (by simp [leFT, leV, leOs, leO, leC, rho, AV.ren, AV.ren1, AV.un, AV.un1, AV.closed, wkS] <;> (repeat' apply And.intro) <;> first | rfl)) (H_F_R10_With_t18 _ _ h)
/-- treemerge/treemergeref10.With -/
theorem H_F_R10_With (a0 : Node) (a1 : (List Node)) (r : Node) (h : F_R10_With a0 a1 = some r) : M_F_R10_With a0 a1 r :=
  S_F_R10_With a0 a1 r (by rw [E_F_R10_With] at h; exact h)
end Go.Proofs.YtimdjillcaichaaDoorW.Ex.Gr
