/- The program's functions, printed as functions on numbers, strings, lists and trees, with the proofs that they are what the code computes. Conditions: those in each theorem. -/
import Derived.Test.YtimdjillcaichaaDoorQd
namespace Go.Proofs.YtimdjillcaichaaDoorW.Ex.Gr
open Go Go.Proofs.YtimdjillcaichaaDoorW.Ex
set_option linter.all false
set_option maxRecDepth 100000
def F_L10_PathRemoves (a0 : Node) (a1 : (List Int)) (a2 : Node) : Option (Bool) :=
  F_L10_small a0 >>= fun x1 =>
  if (!x1) = true then
    F_L10_awake >>= fun x13 =>
    some x13
  else
    F_L10_small a2 >>= fun x2 =>
    if (!x2) = true then
      F_L10_awake >>= fun x12 =>
      some x12
    else
      F_R7_Check a0 >>= fun x3 =>
      if (!decide (x3 = (0 : Int))) = true then
        F_L10_awake >>= fun x4 =>
        some x4
      else
        F_path_Insert a0 a1 a2 >>= fun x5 =>
        if (!decide (x5.2 = (0 : Int))) = true then
          F_L10_awake >>= fun x6 =>
          some x6
        else
          F_path_Get x5.1 a1 >>= fun x7 =>
          F_path_Remove x5.1 a1 >>= fun x8 =>
          if (decide (x7.2 = (0 : Int))) = true then
            F_R6_Equal x7.1 a2 >>= fun x9 =>
            if x9 = true then
              if (decide (x8.2 = (0 : Int))) = true then
                F_R6_Same x8.1 a0 >>= fun x10 =>
                if x10 = true then
                  F_L10_awake >>= fun x11 =>
                  some x11
                else
                  some false
              else
                some false
            else
              some false
          else
            some false
@[reducible] def M_F_L10_PathRemoves (a0 : Node) (a1 : (List Int)) (a2 : Node) (r : Bool) : Prop :=
  Fn Tryd.prog G 7 [(.agg (cellsN a0)), (.sl 1 false (a1.map ic)), (.agg (cellsN a2))] (.bool r)
theorem E_F_L10_PathRemoves (a0 : Node) (a1 : (List Int)) (a2 : Node) : F_L10_PathRemoves a0 a1 a2 = (
    F_L10_small a0 >>= fun x1 =>
    if (!x1) = true then
      F_L10_awake >>= fun x13 =>
      some x13
    else
      F_L10_small a2 >>= fun x2 =>
      if (!x2) = true then
        F_L10_awake >>= fun x12 =>
        some x12
      else
        F_R7_Check a0 >>= fun x3 =>
        if (!decide (x3 = (0 : Int))) = true then
          F_L10_awake >>= fun x4 =>
          some x4
        else
          F_path_Insert a0 a1 a2 >>= fun x5 =>
          if (!decide (x5.2 = (0 : Int))) = true then
            F_L10_awake >>= fun x6 =>
            some x6
          else
            F_path_Get x5.1 a1 >>= fun x7 =>
            F_path_Remove x5.1 a1 >>= fun x8 =>
            if (decide (x7.2 = (0 : Int))) = true then
              F_R6_Equal x7.1 a2 >>= fun x9 =>
              if x9 = true then
                if (decide (x8.2 = (0 : Int))) = true then
                  F_R6_Same x8.1 a0 >>= fun x10 =>
                  if x10 = true then
                    F_L10_awake >>= fun x11 =>
                    some x11
                  else
                    some false
                else
                  some false
              else
                some false
            else
              some false
    : Option (Bool)) := F_L10_PathRemoves.eq_def a0 a1 a2
set_option maxHeartbeats 4000000 in
theorem S_F_L10_PathRemoves  (a0 : Node) (a1 : (List Int)) (a2 : Node) (r : Bool) (h : (
    F_L10_small a0 >>= fun x1 =>
    if (!x1) = true then
      F_L10_awake >>= fun x13 =>
      some x13
    else
      F_L10_small a2 >>= fun x2 =>
      if (!x2) = true then
        F_L10_awake >>= fun x12 =>
        some x12
      else
        F_R7_Check a0 >>= fun x3 =>
        if (!decide (x3 = (0 : Int))) = true then
          F_L10_awake >>= fun x4 =>
          some x4
        else
          F_path_Insert a0 a1 a2 >>= fun x5 =>
          if (!decide (x5.2 = (0 : Int))) = true then
            F_L10_awake >>= fun x6 =>
            some x6
          else
            F_path_Get x5.1 a1 >>= fun x7 =>
            F_path_Remove x5.1 a1 >>= fun x8 =>
            if (decide (x7.2 = (0 : Int))) = true then
              F_R6_Equal x7.1 a2 >>= fun x9 =>
              if x9 = true then
                if (decide (x8.2 = (0 : Int))) = true then
                  F_R6_Same x8.1 a0 >>= fun x10 =>
                  if x10 = true then
                    F_L10_awake >>= fun x11 =>
                    some x11
                  else
                    some false
                else
                  some false
              else
                some false
            else
              some false
    : Option (Bool)) = some r) : M_F_L10_PathRemoves a0 a1 a2 r := by
  refine Fn_run (T := tt) (N := 68) (rs := [.tmp 6]) (fun vs w => by simp) Tryd.func7 rfl rfl rfl rfl (by kernel_rfl) (all_pure3 rfl) (closed3_pure _ rfl) ?_
  refine Ok_runB env [] rfl ?_
  obtain ⟨x1, hx, h⟩ := bind_some h
  refine Ok_call (H_F_L10_small _ _ hx) ?_
  refine Ok_runB env [] rfl ?_
  refine Ok_guard_f (fun hb => ?_) (fun hb => ?_)
  · replace h := ite_f hb h
    refine Ok_runB env [] rfl ?_
    obtain ⟨x2, hx, h⟩ := bind_some h
    refine Ok_call (H_F_L10_small _ _ hx) ?_
    refine Ok_runB env [] rfl ?_
    refine Ok_guard_f (fun hb => ?_) (fun hb => ?_)
    · replace h := ite_f hb h
      refine Ok_runB env [] rfl ?_
      obtain ⟨x3, hx, h⟩ := bind_some h
      refine Ok_call (H_F_R7_Check _ _ hx) ?_
      refine Ok_runB env [] rfl ?_
      refine Ok_cond (fun hb => ?_) (fun hb => ?_)
      · replace h := ite_t hb h
        refine Ok_runB env [] rfl ?_
        obtain ⟨x4, hx, h⟩ := bind_some h
        refine Ok_call (H_F_L10_awake _ hx) ?_
        refine Ok_runB env [] rfl ?_
        cases h
        exact Ok_fin env rfl rfl (told_eq rfl)
      · replace h := ite_f hb h
        refine Ok_runB env [] rfl ?_
        obtain ⟨x5, hx, h⟩ := bind_some h
        refine Ok_call (H_F_path_Insert _ _ _ _ hx) ?_
        refine Ok_runB env [] rfl ?_
        refine Ok_cond (fun hb => ?_) (fun hb => ?_)
        · replace h := ite_t hb h
          refine Ok_runB env [] rfl ?_
          obtain ⟨x6, hx, h⟩ := bind_some h
          refine Ok_call (H_F_L10_awake _ hx) ?_
          refine Ok_runB env [] rfl ?_
          cases h
          exact Ok_fin env rfl rfl (told_eq rfl)
        · replace h := ite_f hb h
          refine Ok_runB env [] rfl ?_
          obtain ⟨x7, hx, h⟩ := bind_some h
          refine Ok_call (H_F_path_Get _ _ _ hx) ?_
          refine Ok_runB env [] rfl ?_
          obtain ⟨x8, hx, h⟩ := bind_some h
          refine Ok_call (H_F_path_Remove _ _ _ hx) ?_
          refine Ok_runB env [] rfl ?_
          refine Ok_guard_t (fun hb => ?_) (fun hb => ?_)
          · replace h := ite_t hb h
            refine Ok_runB env [] rfl ?_
            obtain ⟨x9, hx, h⟩ := bind_some h
            refine Ok_call (H_F_R6_Equal _ _ _ hx) ?_
            refine Ok_runB env [] rfl ?_
            refine Ok_guard_t (fun hb => ?_) (fun hb => ?_)
            · replace h := ite_t hb h
              refine Ok_runB env [] rfl ?_
              refine Ok_guard_t (fun hb => ?_) (fun hb => ?_)
              · replace h := ite_t hb h
                refine Ok_runB env [] rfl ?_
                obtain ⟨x10, hx, h⟩ := bind_some h
                refine Ok_call (H_F_R6_Same _ _ _ hx) ?_
                refine Ok_runB env [] rfl ?_
                refine Ok_guard_t (fun hb => ?_) (fun hb => ?_)
                · replace h := ite_t hb h
                  refine Ok_runB env [] rfl ?_
                  obtain ⟨x11, hx, h⟩ := bind_some h
                  refine Ok_call (H_F_L10_awake _ hx) ?_
                  refine Ok_runB env [] rfl ?_
                  cases h
                  exact Ok_fin env rfl rfl (told_eq rfl)
                · replace h := ite_f hb h
                  refine Ok_runB env [] rfl ?_
                  cases h
                  exact Ok_fin env rfl rfl (told_eq rfl)
              · replace h := ite_f hb h
                refine Ok_runB env [] rfl ?_
                cases h
                exact Ok_fin env rfl rfl (told_eq rfl)
            · replace h := ite_f hb h
              refine Ok_runB env [] rfl ?_
              cases h
              exact Ok_fin env rfl rfl (told_eq rfl)
          · replace h := ite_f hb h
            refine Ok_runB env [] rfl ?_
            cases h
            exact Ok_fin env rfl rfl (told_eq rfl)
    · replace h := ite_t hb h
      refine Ok_runB env [] rfl ?_
      obtain ⟨x12, hx, h⟩ := bind_some h
      refine Ok_call (H_F_L10_awake _ hx) ?_
      refine Ok_runB env [] rfl ?_
      cases h
      exact Ok_fin env rfl rfl (told_eq rfl)
  · replace h := ite_t hb h
    refine Ok_runB env [] rfl ?_
    obtain ⟨x13, hx, h⟩ := bind_some h
    refine Ok_call (H_F_L10_awake _ hx) ?_
    refine Ok_runB env [] rfl ?_
    cases h
    exact Ok_fin env rfl rfl (told_eq rfl)
/-- treemerge/treemergelaw10.PathRemoves -/
theorem H_F_L10_PathRemoves (a0 : Node) (a1 : (List Int)) (a2 : Node) (r : Bool) (h : F_L10_PathRemoves a0 a1 a2 = some r) : M_F_L10_PathRemoves a0 a1 a2 r :=
  S_F_L10_PathRemoves a0 a1 a2 r (by rw [E_F_L10_PathRemoves] at h; exact h)
def F_L10_PathBack (a0 : Node) (a1 : Int) (a2 : Node) : Option (Bool) :=
  F_L10_small a0 >>= fun x1 =>
  if (!x1) = true then
    F_L10_awake >>= fun x14 =>
    some x14
  else
    F_L10_small a2 >>= fun x2 =>
    if (!x2) = true then
      F_L10_awake >>= fun x13 =>
      some x13
    else
      F_R7_Check a0 >>= fun x3 =>
      if (!decide (x3 = (0 : Int))) = true then
        F_L10_awake >>= fun x4 =>
        some x4
      else
        F_path_Of a0 a1 >>= fun x5 =>
        if (!x5.2) = true then
          F_L10_awake >>= fun x6 =>
          some x6
        else
          F_path_Get a0 x5.1 >>= fun x7 =>
          F_path_Replace a0 x5.1 a2 >>= fun x8 =>
          if (!decide (x8.2 = (0 : Int))) = true then
            F_L10_awake >>= fun x9 =>
            some x9
          else
            F_path_Replace x8.1 x5.1 x7.1 >>= fun x10 =>
            if (decide (x10.2 = (0 : Int))) = true then
              F_R6_Equal x10.1 a0 >>= fun x11 =>
              if x11 = true then
                F_L10_awake >>= fun x12 =>
                some x12
              else
                some false
            else
              some false
@[reducible] def M_F_L10_PathBack (a0 : Node) (a1 : Int) (a2 : Node) (r : Bool) : Prop :=
  Fn Tryd.prog G 8 [(.agg (cellsN a0)), (.int .i64 a1), (.agg (cellsN a2))] (.bool r)
theorem E_F_L10_PathBack (a0 : Node) (a1 : Int) (a2 : Node) : F_L10_PathBack a0 a1 a2 = (
    F_L10_small a0 >>= fun x1 =>
    if (!x1) = true then
      F_L10_awake >>= fun x14 =>
      some x14
    else
      F_L10_small a2 >>= fun x2 =>
      if (!x2) = true then
        F_L10_awake >>= fun x13 =>
        some x13
      else
        F_R7_Check a0 >>= fun x3 =>
        if (!decide (x3 = (0 : Int))) = true then
          F_L10_awake >>= fun x4 =>
          some x4
        else
          F_path_Of a0 a1 >>= fun x5 =>
          if (!x5.2) = true then
            F_L10_awake >>= fun x6 =>
            some x6
          else
            F_path_Get a0 x5.1 >>= fun x7 =>
            F_path_Replace a0 x5.1 a2 >>= fun x8 =>
            if (!decide (x8.2 = (0 : Int))) = true then
              F_L10_awake >>= fun x9 =>
              some x9
            else
              F_path_Replace x8.1 x5.1 x7.1 >>= fun x10 =>
              if (decide (x10.2 = (0 : Int))) = true then
                F_R6_Equal x10.1 a0 >>= fun x11 =>
                if x11 = true then
                  F_L10_awake >>= fun x12 =>
                  some x12
                else
                  some false
              else
                some false
    : Option (Bool)) := F_L10_PathBack.eq_def a0 a1 a2
set_option maxHeartbeats 4000000 in
theorem S_F_L10_PathBack  (a0 : Node) (a1 : Int) (a2 : Node) (r : Bool) (h : (
    F_L10_small a0 >>= fun x1 =>
    if (!x1) = true then
      F_L10_awake >>= fun x14 =>
      some x14
    else
      F_L10_small a2 >>= fun x2 =>
      if (!x2) = true then
        F_L10_awake >>= fun x13 =>
        some x13
      else
        F_R7_Check a0 >>= fun x3 =>
        if (!decide (x3 = (0 : Int))) = true then
          F_L10_awake >>= fun x4 =>
          some x4
        else
          F_path_Of a0 a1 >>= fun x5 =>
          if (!x5.2) = true then
            F_L10_awake >>= fun x6 =>
            some x6
          else
            F_path_Get a0 x5.1 >>= fun x7 =>
            F_path_Replace a0 x5.1 a2 >>= fun x8 =>
            if (!decide (x8.2 = (0 : Int))) = true then
              F_L10_awake >>= fun x9 =>
              some x9
            else
              F_path_Replace x8.1 x5.1 x7.1 >>= fun x10 =>
              if (decide (x10.2 = (0 : Int))) = true then
                F_R6_Equal x10.1 a0 >>= fun x11 =>
                if x11 = true then
                  F_L10_awake >>= fun x12 =>
                  some x12
                else
                  some false
              else
                some false
    : Option (Bool)) = some r) : M_F_L10_PathBack a0 a1 a2 r := by
  refine Fn_run (T := tt) (N := 71) (rs := [.tmp 6]) (fun vs w => by simp) Tryd.func8 rfl rfl rfl rfl (by kernel_rfl) (all_pure3 rfl) (closed3_pure _ rfl) ?_
  refine Ok_runB env [] rfl ?_
  obtain ⟨x1, hx, h⟩ := bind_some h
  refine Ok_call (H_F_L10_small _ _ hx) ?_
  refine Ok_runB env [] rfl ?_
  refine Ok_guard_f (fun hb => ?_) (fun hb => ?_)
  · replace h := ite_f hb h
    refine Ok_runB env [] rfl ?_
    obtain ⟨x2, hx, h⟩ := bind_some h
    refine Ok_call (H_F_L10_small _ _ hx) ?_
    refine Ok_runB env [] rfl ?_
    refine Ok_guard_f (fun hb => ?_) (fun hb => ?_)
    · replace h := ite_f hb h
      refine Ok_runB env [] rfl ?_
      obtain ⟨x3, hx, h⟩ := bind_some h
      refine Ok_call (H_F_R7_Check _ _ hx) ?_
      refine Ok_runB env [] rfl ?_
      refine Ok_cond (fun hb => ?_) (fun hb => ?_)
      · replace h := ite_t hb h
        refine Ok_runB env [] rfl ?_
        obtain ⟨x4, hx, h⟩ := bind_some h
        refine Ok_call (H_F_L10_awake _ hx) ?_
        refine Ok_runB env [] rfl ?_
        cases h
        exact Ok_fin env rfl rfl (told_eq rfl)
      · replace h := ite_f hb h
        refine Ok_runB env [] rfl ?_
        obtain ⟨x5, hx, h⟩ := bind_some h
        refine Ok_call (H_F_path_Of _ _ _ hx) ?_
        refine Ok_runB env [] rfl ?_
        refine Ok_cond (fun hb => ?_) (fun hb => ?_)
        · replace h := ite_t hb h
          refine Ok_runB env [] rfl ?_
          obtain ⟨x6, hx, h⟩ := bind_some h
          refine Ok_call (H_F_L10_awake _ hx) ?_
          refine Ok_runB env [] rfl ?_
          cases h
          exact Ok_fin env rfl rfl (told_eq rfl)
        · replace h := ite_f hb h
          refine Ok_runB env [] rfl ?_
          obtain ⟨x7, hx, h⟩ := bind_some h
          refine Ok_call (H_F_path_Get _ _ _ hx) ?_
          refine Ok_runB env [] rfl ?_
          obtain ⟨x8, hx, h⟩ := bind_some h
          refine Ok_call (H_F_path_Replace _ _ _ _ hx) ?_
          refine Ok_runB env [] rfl ?_
          refine Ok_cond (fun hb => ?_) (fun hb => ?_)
          · replace h := ite_t hb h
            refine Ok_runB env [] rfl ?_
            obtain ⟨x9, hx, h⟩ := bind_some h
            refine Ok_call (H_F_L10_awake _ hx) ?_
            refine Ok_runB env [] rfl ?_
            cases h
            exact Ok_fin env rfl rfl (told_eq rfl)
          · replace h := ite_f hb h
            refine Ok_runB env [] rfl ?_
            obtain ⟨x10, hx, h⟩ := bind_some h
            refine Ok_call (H_F_path_Replace _ _ _ _ hx) ?_
            refine Ok_runB env [] rfl ?_
            refine Ok_guard_t (fun hb => ?_) (fun hb => ?_)
            · replace h := ite_t hb h
              refine Ok_runB env [] rfl ?_
              obtain ⟨x11, hx, h⟩ := bind_some h
              refine Ok_call (H_F_R6_Equal _ _ _ hx) ?_
              refine Ok_runB env [] rfl ?_
              refine Ok_guard_t (fun hb => ?_) (fun hb => ?_)
              · replace h := ite_t hb h
                refine Ok_runB env [] rfl ?_
                obtain ⟨x12, hx, h⟩ := bind_some h
                refine Ok_call (H_F_L10_awake _ hx) ?_
                refine Ok_runB env [] rfl ?_
                cases h
                exact Ok_fin env rfl rfl (told_eq rfl)
              · replace h := ite_f hb h
                refine Ok_runB env [] rfl ?_
                cases h
                exact Ok_fin env rfl rfl (told_eq rfl)
            · replace h := ite_f hb h
              refine Ok_runB env [] rfl ?_
              cases h
              exact Ok_fin env rfl rfl (told_eq rfl)
    · replace h := ite_t hb h
      refine Ok_runB env [] rfl ?_
      obtain ⟨x13, hx, h⟩ := bind_some h
      refine Ok_call (H_F_L10_awake _ hx) ?_
      refine Ok_runB env [] rfl ?_
      cases h
      exact Ok_fin env rfl rfl (told_eq rfl)
  · replace h := ite_t hb h
    refine Ok_runB env [] rfl ?_
    obtain ⟨x14, hx, h⟩ := bind_some h
    refine Ok_call (H_F_L10_awake _ hx) ?_
    refine Ok_runB env [] rfl ?_
    cases h
    exact Ok_fin env rfl rfl (told_eq rfl)
/-- treemerge/treemergelaw10.PathBack -/
theorem H_F_L10_PathBack (a0 : Node) (a1 : Int) (a2 : Node) (r : Bool) (h : F_L10_PathBack a0 a1 a2 = some r) : M_F_L10_PathBack a0 a1 a2 r :=
  S_F_L10_PathBack a0 a1 a2 r (by rw [E_F_L10_PathBack] at h; exact h)
end Go.Proofs.YtimdjillcaichaaDoorW.Ex.Gr
