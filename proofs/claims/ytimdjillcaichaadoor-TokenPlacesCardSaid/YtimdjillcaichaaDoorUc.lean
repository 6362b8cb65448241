/- The program's functions, printed as functions on numbers, strings, lists and trees, with the proofs that they are what the code computes. Conditions: those in each theorem. -/
import Derived.Test.YtimdjillcaichaaDoorUb
namespace Go.Proofs.YtimdjillcaichaaDoorW.Ex.Gr
open Go Go.Proofs.YtimdjillcaichaaDoorW.Ex
set_option linter.all false
set_option maxRecDepth 100000
def F_L5_TokenJoins_l0 (t0 : (List Token)) (t3 : Int) : Option (Bool) :=
  if (decide (t3 < ((t0.map Token.cells).length : Int))) = true then
    ix t0 t3 >>= fun x2 =>
    if (decide ((200 : Int) < (x2.Lead.size : Int))) = true then
      F_L5_awake >>= fun x5 =>
      some x5
    else
      ix t0 t3 >>= fun x3 =>
      if (decide ((200 : Int) < (x3.Text.size : Int))) = true then
        F_L5_awake >>= fun x4 =>
        some x4
      else
        F_L5_TokenJoins_l0 (nofix t0) (IntKind.i64.wrap (t3 + (1 : Int)))
  else
    F_token_Join (nofix t0) >>= fun x6 =>
    F_R5_Join (nofix t0) >>= fun x7 =>
    if (decide (x6 = x7)) = true then
      F_L5_awake >>= fun x8 =>
      some x8
    else
      some false
  partial_fixpoint
@[reducible] def M_F_L5_TokenJoins_l0 (t0 : (List Token)) (t3 : Int) (r : Bool) : Prop :=
  Ok Tryd.prog Gt tt 39 0 (Ret Tryd.prog [.tmp 2] (fun y H => Told Tryd.prog Gt H y (.bool r))) (.again (loopOf [] Tryd.f11 0).1 (loopOf [] Tryd.f11 0).2 (.n (.sl 4 false (t0.map Token.cells)) (.n .undef (.n (.int .i64 t3) .z .z) .z) .z) 0 [])
theorem E_F_L5_TokenJoins_l0 (t0 : (List Token)) (t3 : Int) : F_L5_TokenJoins_l0 t0 t3 = (
    if (decide (t3 < ((t0.map Token.cells).length : Int))) = true then
      ix t0 t3 >>= fun x2 =>
      if (decide ((200 : Int) < (x2.Lead.size : Int))) = true then
        F_L5_awake >>= fun x5 =>
        some x5
      else
        ix t0 t3 >>= fun x3 =>
        if (decide ((200 : Int) < (x3.Text.size : Int))) = true then
          F_L5_awake >>= fun x4 =>
          some x4
        else
          F_L5_TokenJoins_l0 t0 (IntKind.i64.wrap (t3 + (1 : Int)))
    else
      F_token_Join t0 >>= fun x6 =>
      F_R5_Join t0 >>= fun x7 =>
      if (decide (x6 = x7)) = true then
        F_L5_awake >>= fun x8 =>
        some x8
      else
        some false
    : Option (Bool)) := F_L5_TokenJoins_l0.eq_def t0 t3
set_option maxHeartbeats 4000000 in
theorem S_F_L5_TokenJoins_l0 (F_L5_TokenJoins_l0 : (List Token) → Int → Option (Bool)) (H_F_L5_TokenJoins_l0 : ∀ (t0 : (List Token)) (t3 : Int) (r : Bool), F_L5_TokenJoins_l0 t0 t3 = some r → M_F_L5_TokenJoins_l0 t0 t3 r) (t0 : (List Token)) (t3 : Int) (r : Bool) (h : (
    if (decide (t3 < ((t0.map Token.cells).length : Int))) = true then
      ix t0 t3 >>= fun x2 =>
      if (decide ((200 : Int) < (x2.Lead.size : Int))) = true then
        F_L5_awake >>= fun x5 =>
        some x5
      else
        ix t0 t3 >>= fun x3 =>
        if (decide ((200 : Int) < (x3.Text.size : Int))) = true then
          F_L5_awake >>= fun x4 =>
          some x4
        else
          F_L5_TokenJoins_l0 t0 (IntKind.i64.wrap (t3 + (1 : Int)))
    else
      F_token_Join t0 >>= fun x6 =>
      F_R5_Join t0 >>= fun x7 =>
      if (decide (x6 = x7)) = true then
        F_L5_awake >>= fun x8 =>
        some x8
      else
        some false
    : Option (Bool)) = some r) : M_F_L5_TokenJoins_l0 t0 t3 r := by
  refine Ok_unroll ?_
  refine Ok_runB env [] rfl ?_
  refine Ok_cond (fun hb => ?_) (fun hb => ?_)
  · replace h := ite_t hb h
    refine Ok_runB env [] rfl ?_
    obtain ⟨x2, hx, h⟩ := bind_some h
    refine Ok_ixT env hx rfl rfl rfl rfl rfl ?_
    refine Ok_runB env [] rfl ?_
    refine Ok_guard_f (fun hb => ?_) (fun hb => ?_)
    · replace h := ite_f hb h
      refine Ok_runB env [] rfl ?_
      obtain ⟨x3, hx, h⟩ := bind_some h
      refine Ok_ixT env hx rfl rfl rfl rfl rfl ?_
      refine Ok_runB env [] rfl ?_
      refine Ok_cond (fun hb => ?_) (fun hb => ?_)
      · replace h := ite_t hb h
        refine Ok_runB env [] rfl ?_
        obtain ⟨x4, hx, h⟩ := bind_some h
        refine Ok_call (H_F_L5_awake _ hx) ?_
        refine Ok_runB env [] rfl ?_
        cases h
        exact Ok_fin env rfl rfl (told_eq rfl)
      · replace h := ite_f hb h
        refine Ok_runB env [] rfl ?_
        exact Ok_again_to (by kernel_rfl) (less_at (by simp [leFT, leV, leOs, leO, leC, rho, AV.ren, AV.ren1, AV.un, AV.un1, AV.closed, wkS] <;> (repeat' apply And.intro) <;> first | rfl) (by simp [leFT, leV, leOs, leO, leC, rho, AV.ren, AV.ren1, AV.un, AV.un1, AV.closed, wkS] <;> (repeat' apply And.intro) <;> first | rfl)) (H_F_L5_TokenJoins_l0 _ _ _ h)
    · replace h := ite_t hb h
      refine Ok_runB env [] rfl ?_
      obtain ⟨x5, hx, h⟩ := bind_some h
      refine Ok_call (H_F_L5_awake _ hx) ?_
      refine Ok_runB env [] rfl ?_
      cases h
      exact Ok_fin env rfl rfl (told_eq rfl)
  · replace h := ite_f hb h
    refine Ok_runB env [] rfl ?_
    obtain ⟨x6, hx, h⟩ := bind_some h
    refine Ok_call (H_F_token_Join _ _ hx) ?_
    refine Ok_runB env [] rfl ?_
    obtain ⟨x7, hx, h⟩ := bind_some h
    refine Ok_call (H_F_R5_Join _ _ hx) ?_
    refine Ok_runB env [] rfl ?_
    refine Ok_guard_t (fun hb => ?_) (fun hb => ?_)
    · replace h := ite_t hb h
      refine Ok_runB env [] rfl ?_
      obtain ⟨x8, hx, h⟩ := bind_some h
      refine Ok_call (H_F_L5_awake _ hx) ?_
      refine Ok_runB env [] rfl ?_
      cases h
      exact Ok_fin env rfl rfl (told_eq rfl)
    · replace h := ite_f hb h
      refine Ok_runB env [] rfl ?_
      cases h
      exact Ok_fin env rfl rfl (told_eq rfl)
/-- treemerge/treemergelaw05.TokenJoins -/
theorem H_F_L5_TokenJoins_l0 (t0 : (List Token)) (t3 : Int) (r : Bool) (h : F_L5_TokenJoins_l0 t0 t3 = some r) : M_F_L5_TokenJoins_l0 t0 t3 r :=
  F_L5_TokenJoins_l0.partial_correctness (fun t0 t3 r => M_F_L5_TokenJoins_l0 t0 t3 r) (fun F0 h0 => S_F_L5_TokenJoins_l0 F0 h0) t0 t3 r h
def F_L5_TokenJoins (a0 : (List Token)) : Option (Bool) :=
  if (decide ((50 : Int) < ((a0.map Token.cells).length : Int))) = true then
    F_L5_awake >>= fun x1 =>
    some x1
  else
    F_L5_TokenJoins_l0 a0 (0 : Int)
@[reducible] def M_F_L5_TokenJoins (a0 : (List Token)) (r : Bool) : Prop :=
  Fn Tryd.prog Gt 11 [(.sl 4 false (a0.map Token.cells))] (.bool r)
theorem E_F_L5_TokenJoins (a0 : (List Token)) : F_L5_TokenJoins a0 = (
    if (decide ((50 : Int) < ((a0.map Token.cells).length : Int))) = true then
      F_L5_awake >>= fun x1 =>
      some x1
    else
      F_L5_TokenJoins_l0 a0 (0 : Int)
    : Option (Bool)) := F_L5_TokenJoins.eq_def a0
set_option maxHeartbeats 4000000 in
theorem S_F_L5_TokenJoins  (a0 : (List Token)) (r : Bool) (h : (
    if (decide ((50 : Int) < ((a0.map Token.cells).length : Int))) = true then
      F_L5_awake >>= fun x1 =>
      some x1
    else
      F_L5_TokenJoins_l0 a0 (0 : Int)
    : Option (Bool)) = some r) : M_F_L5_TokenJoins a0 r := by
  refine Fn_run (T := tt) (N := 39) (rs := [.tmp 2]) (fun vs w => by simp) Tryd.func11 rfl rfl rfl rfl (by kernel_rfl) (all_pure3 rfl) (closed3_pure _ rfl) ?_
  refine Ok_runB env [] rfl ?_
  refine Ok_cond (fun hb => ?_) (fun hb => ?_)
  · replace h := ite_t hb h
    refine Ok_runB env [] rfl ?_
    obtain ⟨x1, hx, h⟩ := bind_some h
    refine Ok_call (H_F_L5_awake _ hx) ?_
    refine Ok_runB env [] rfl ?_
    cases h
    exact Ok_fin env rfl rfl (told_eq rfl)
  · replace h := ite_f hb h
    refine Ok_runB env [] rfl ?_
    exact Ok_loop_to (by kernel_rfl) (less_at (by simp [leFT, leV, leOs, leO, leC, rho, AV.ren, AV.ren1, AV.un, AV.un1, AV.closed, wkS] <;> (repeat' apply And.intro) <;> first | rfl) (by simp [leFT, leV, leOs, leO, leC, rho, AV.ren, AV.ren1, AV.un, AV.un1, AV.closed, wkS] <;> (repeat' apply And.intro) <;> first | rfl)) (H_F_L5_TokenJoins_l0 _ _ _ h)
/-- treemerge/treemergelaw05.TokenJoins -/
theorem H_F_L5_TokenJoins (a0 : (List Token)) (r : Bool) (h : F_L5_TokenJoins a0 = some r) : M_F_L5_TokenJoins a0 r :=
  S_F_L5_TokenJoins a0 r (by rw [E_F_L5_TokenJoins] at h; exact h)
def F_L5_TokenLossless (a0 : ByteArray) : Option (Bool) :=
  if (decide ((1000 : Int) < (a0.size : Int))) = true then
    F_L5_awake >>= fun x1 =>
    some x1
  else
    F_token_Tokens a0 >>= fun x2 =>
    if (!decide (x2.2.1 = (0 : Int))) = true then
      if (decide (((x2.1.map Token.cells).length : Int) = (0 : Int))) = true then
        F_L5_awake >>= fun x3 =>
        some x3
      else
        some false
    else
      F_token_Join x2.1 >>= fun x4 =>
      if (decide (x4 = a0)) = true then
        F_L5_awake >>= fun x5 =>
        some x5
      else
        some false
@[reducible] def M_F_L5_TokenLossless (a0 : ByteArray) (r : Bool) : Prop :=
  Fn Tryd.prog Gt 12 [(.str a0)] (.bool r)
theorem E_F_L5_TokenLossless (a0 : ByteArray) : F_L5_TokenLossless a0 = (
    if (decide ((1000 : Int) < (a0.size : Int))) = true then
      F_L5_awake >>= fun x1 =>
      some x1
    else
      F_token_Tokens a0 >>= fun x2 =>
      if (!decide (x2.2.1 = (0 : Int))) = true then
        if (decide (((x2.1.map Token.cells).length : Int) = (0 : Int))) = true then
          F_L5_awake >>= fun x3 =>
          some x3
        else
          some false
      else
        F_token_Join x2.1 >>= fun x4 =>
        if (decide (x4 = a0)) = true then
          F_L5_awake >>= fun x5 =>
          some x5
        else
          some false
    : Option (Bool)) := F_L5_TokenLossless.eq_def a0
set_option maxHeartbeats 4000000 in
theorem S_F_L5_TokenLossless  (a0 : ByteArray) (r : Bool) (h : (
    if (decide ((1000 : Int) < (a0.size : Int))) = true then
      F_L5_awake >>= fun x1 =>
      some x1
    else
      F_token_Tokens a0 >>= fun x2 =>
      if (!decide (x2.2.1 = (0 : Int))) = true then
        if (decide (((x2.1.map Token.cells).length : Int) = (0 : Int))) = true then
          F_L5_awake >>= fun x3 =>
          some x3
        else
          some false
      else
        F_token_Join x2.1 >>= fun x4 =>
        if (decide (x4 = a0)) = true then
          F_L5_awake >>= fun x5 =>
          some x5
        else
          some false
    : Option (Bool)) = some r) : M_F_L5_TokenLossless a0 r := by
  refine Fn_run (T := tt) (N := 31) (rs := [.tmp 2]) (fun vs w => by simp) Tryd.func12 rfl rfl rfl rfl (by kernel_rfl) (all_pure3 rfl) (closed3_pure _ rfl) ?_
  refine Ok_runB env [] rfl ?_
  refine Ok_cond (fun hb => ?_) (fun hb => ?_)
  · replace h := ite_t hb h
    refine Ok_runB env [] rfl ?_
    obtain ⟨x1, hx, h⟩ := bind_some h
    refine Ok_call (H_F_L5_awake _ hx) ?_
    refine Ok_runB env [] rfl ?_
    cases h
    exact Ok_fin env rfl rfl (told_eq rfl)
  · replace h := ite_f hb h
    refine Ok_runB env [] rfl ?_
    obtain ⟨x2, hx, h⟩ := bind_some h
    refine Ok_call (H_F_token_Tokens _ _ hx) ?_
    refine Ok_runB env [] rfl ?_
    refine Ok_cond (fun hb => ?_) (fun hb => ?_)
    · replace h := ite_t hb h
      refine Ok_runB env [] rfl ?_
      refine Ok_guard_t (fun hb => ?_) (fun hb => ?_)
      · replace h := ite_t hb h
        refine Ok_runB env [] rfl ?_
        obtain ⟨x3, hx, h⟩ := bind_some h
        refine Ok_call (H_F_L5_awake _ hx) ?_
        refine Ok_runB env [] rfl ?_
        cases h
        exact Ok_fin env rfl rfl (told_eq rfl)
      · replace h := ite_f hb h
        refine Ok_runB env [] rfl ?_
        cases h
        exact Ok_fin env rfl rfl (told_eq rfl)
    · replace h := ite_f hb h
      refine Ok_runB env [] rfl ?_
      obtain ⟨x4, hx, h⟩ := bind_some h
      refine Ok_call (H_F_token_Join _ _ hx) ?_
      refine Ok_runB env [] rfl ?_
      refine Ok_guard_t (fun hb => ?_) (fun hb => ?_)
      · replace h := ite_t hb h
        refine Ok_runB env [] rfl ?_
        obtain ⟨x5, hx, h⟩ := bind_some h
        refine Ok_call (H_F_L5_awake _ hx) ?_
        refine Ok_runB env [] rfl ?_
        cases h
        exact Ok_fin env rfl rfl (told_eq rfl)
      · replace h := ite_f hb h
        refine Ok_runB env [] rfl ?_
        cases h
        exact Ok_fin env rfl rfl (told_eq rfl)
/-- treemerge/treemergelaw05.TokenLossless -/
theorem H_F_L5_TokenLossless (a0 : ByteArray) (r : Bool) (h : F_L5_TokenLossless a0 = some r) : M_F_L5_TokenLossless a0 r :=
  S_F_L5_TokenLossless a0 r (by rw [E_F_L5_TokenLossless] at h; exact h)
def F_L5_two (a0 : ByteArray) (a1 : ByteArray) (a2 : ByteArray) : Option (Bool) :=
  F_token_Tokens a0 >>= fun x1 =>
  if (decide (x1.2.1 = (0 : Int))) = true then
    if (decide (((x1.1.map Token.cells).length : Int) = (3 : Int))) = true then
      ix x1.1 (0 : Int) >>= fun x2 =>
      if (decide (x2.Text = a1)) = true then
        ix x1.1 (1 : Int) >>= fun x3 =>
        some (decide (x3.Text = a2))
      else
        some false
    else
      some false
  else
    some false
@[reducible] def M_F_L5_two (a0 : ByteArray) (a1 : ByteArray) (a2 : ByteArray) (r : Bool) : Prop :=
  Fn Tryd.prog Gt 47 [(.str a0), (.str a1), (.str a2)] (.bool r)
theorem E_F_L5_two (a0 : ByteArray) (a1 : ByteArray) (a2 : ByteArray) : F_L5_two a0 a1 a2 = (
    F_token_Tokens a0 >>= fun x1 =>
    if (decide (x1.2.1 = (0 : Int))) = true then
      if (decide (((x1.1.map Token.cells).length : Int) = (3 : Int))) = true then
        ix x1.1 (0 : Int) >>= fun x2 =>
        if (decide (x2.Text = a1)) = true then
          ix x1.1 (1 : Int) >>= fun x3 =>
          some (decide (x3.Text = a2))
        else
          some false
      else
        some false
    else
      some false
    : Option (Bool)) := F_L5_two.eq_def a0 a1 a2
set_option maxHeartbeats 4000000 in
theorem S_F_L5_two  (a0 : ByteArray) (a1 : ByteArray) (a2 : ByteArray) (r : Bool) (h : (
    F_token_Tokens a0 >>= fun x1 =>
    if (decide (x1.2.1 = (0 : Int))) = true then
      if (decide (((x1.1.map Token.cells).length : Int) = (3 : Int))) = true then
        ix x1.1 (0 : Int) >>= fun x2 =>
        if (decide (x2.Text = a1)) = true then
          ix x1.1 (1 : Int) >>= fun x3 =>
          some (decide (x3.Text = a2))
        else
          some false
      else
        some false
    else
      some false
    : Option (Bool)) = some r) : M_F_L5_two a0 a1 a2 r := by
  refine Fn_run (T := tt) (N := 39) (rs := [.tmp 6]) (fun vs w => by simp) Tryd.func47 rfl rfl rfl rfl (by kernel_rfl) (all_pure3 rfl) (closed3_pure _ rfl) ?_
  refine Ok_runB env [] rfl ?_
  obtain ⟨x1, hx, h⟩ := bind_some h
  refine Ok_call (H_F_token_Tokens _ _ hx) ?_
  refine Ok_runB env [] rfl ?_
  refine Ok_guard_t (fun hb => ?_) (fun hb => ?_)
  · replace h := ite_t hb h
    refine Ok_runB env [] rfl ?_
    refine Ok_guard_t (fun hb => ?_) (fun hb => ?_)
    · replace h := ite_t hb h
      refine Ok_runB env [] rfl ?_
      obtain ⟨x2, hx, h⟩ := bind_some h
      refine Ok_ixT env hx rfl rfl rfl rfl rfl ?_
      refine Ok_runB env [] rfl ?_
      refine Ok_guard_t (fun hb => ?_) (fun hb => ?_)
      · replace h := ite_t hb h
        refine Ok_runB env [] rfl ?_
        obtain ⟨x3, hx, h⟩ := bind_some h
        refine Ok_ixT env hx rfl rfl rfl rfl rfl ?_
        refine Ok_runB env [] rfl ?_
        cases h
        exact Ok_fin env rfl rfl (told_eq rfl)
      · replace h := ite_f hb h
        refine Ok_runB env [] rfl ?_
        cases h
        exact Ok_fin env rfl rfl (told_eq rfl)
    · replace h := ite_f hb h
      refine Ok_runB env [] rfl ?_
      cases h
      exact Ok_fin env rfl rfl (told_eq rfl)
  · replace h := ite_f hb h
    refine Ok_runB env [] rfl ?_
    cases h
    exact Ok_fin env rfl rfl (told_eq rfl)
/-- treemerge/treemergelaw05.two -/
theorem H_F_L5_two (a0 : ByteArray) (a1 : ByteArray) (a2 : ByteArray) (r : Bool) (h : F_L5_two a0 a1 a2 = some r) : M_F_L5_two a0 a1 a2 r :=
  S_F_L5_two a0 a1 a2 r (by rw [E_F_L5_two] at h; exact h)
def F_L5_TokenGaps (a0 : ByteArray) (a1 : ByteArray) : Option (Bool) :=
  if (decide ((100 : Int) < (a0.size : Int))) = true then
    F_L5_awake >>= fun x14 =>
    some x14
  else
    if (decide ((100 : Int) < (a1.size : Int))) = true then
      F_L5_awake >>= fun x13 =>
      some x13
    else
      F_token_Kind a0 >>= fun x1 =>
      if (decide (x1 = (0 : Int))) = true then
        F_L5_awake >>= fun x12 =>
        some x12
      else
        F_token_Kind a1 >>= fun x2 =>
        if (decide (x2 = (0 : Int))) = true then
          F_L5_awake >>= fun x3 =>
          some x3
        else
          cat a0 (⟨#[32]⟩ : ByteArray) >>= fun x4 =>
          cat x4 a1 >>= fun x5 =>
          F_L5_two x5 a0 a1 >>= fun x6 =>
          if x6 = true then
            F_token_Glue a0 a1 >>= fun x7 =>
            if x7 = true then
              F_L5_awake >>= fun x11 =>
              some x11
            else
              cat a0 a1 >>= fun x8 =>
              F_L5_two x8 a0 a1 >>= fun x9 =>
              if x9 = true then
                F_L5_awake >>= fun x10 =>
                some x10
              else
                some false
          else
            some false
@[reducible] def M_F_L5_TokenGaps (a0 : ByteArray) (a1 : ByteArray) (r : Bool) : Prop :=
  Fn Tryd.prog Gt 13 [(.str a0), (.str a1)] (.bool r)
theorem E_F_L5_TokenGaps (a0 : ByteArray) (a1 : ByteArray) : F_L5_TokenGaps a0 a1 = (
    if (decide ((100 : Int) < (a0.size : Int))) = true then
      F_L5_awake >>= fun x14 =>
      some x14
    else
      if (decide ((100 : Int) < (a1.size : Int))) = true then
        F_L5_awake >>= fun x13 =>
        some x13
      else
        F_token_Kind a0 >>= fun x1 =>
        if (decide (x1 = (0 : Int))) = true then
          F_L5_awake >>= fun x12 =>
          some x12
        else
          F_token_Kind a1 >>= fun x2 =>
          if (decide (x2 = (0 : Int))) = true then
            F_L5_awake >>= fun x3 =>
            some x3
          else
            cat a0 (⟨#[32]⟩ : ByteArray) >>= fun x4 =>
            cat x4 a1 >>= fun x5 =>
            F_L5_two x5 a0 a1 >>= fun x6 =>
            if x6 = true then
              F_token_Glue a0 a1 >>= fun x7 =>
              if x7 = true then
                F_L5_awake >>= fun x11 =>
                some x11
              else
                cat a0 a1 >>= fun x8 =>
                F_L5_two x8 a0 a1 >>= fun x9 =>
                if x9 = true then
                  F_L5_awake >>= fun x10 =>
                  some x10
                else
                  some false
            else
              some false
    : Option (Bool)) := F_L5_TokenGaps.eq_def a0 a1
set_option maxHeartbeats 4000000 in
theorem S_F_L5_TokenGaps  (a0 : ByteArray) (a1 : ByteArray) (r : Bool) (h : (
    if (decide ((100 : Int) < (a0.size : Int))) = true then
      F_L5_awake >>= fun x14 =>
      some x14
    else
      if (decide ((100 : Int) < (a1.size : Int))) = true then
        F_L5_awake >>= fun x13 =>
        some x13
      else
        F_token_Kind a0 >>= fun x1 =>
        if (decide (x1 = (0 : Int))) = true then
          F_L5_awake >>= fun x12 =>
          some x12
        else
          F_token_Kind a1 >>= fun x2 =>
          if (decide (x2 = (0 : Int))) = true then
            F_L5_awake >>= fun x3 =>
            some x3
          else
            cat a0 (⟨#[32]⟩ : ByteArray) >>= fun x4 =>
            cat x4 a1 >>= fun x5 =>
            F_L5_two x5 a0 a1 >>= fun x6 =>
            if x6 = true then
              F_token_Glue a0 a1 >>= fun x7 =>
              if x7 = true then
                F_L5_awake >>= fun x11 =>
                some x11
              else
                cat a0 a1 >>= fun x8 =>
                F_L5_two x8 a0 a1 >>= fun x9 =>
                if x9 = true then
                  F_L5_awake >>= fun x10 =>
                  some x10
                else
                  some false
            else
              some false
    : Option (Bool)) = some r) : M_F_L5_TokenGaps a0 a1 r := by
  refine Fn_run (T := tt) (N := 47) (rs := [.tmp 4]) (fun vs w => by simp) Tryd.func13 rfl rfl rfl rfl (by kernel_rfl) (all_pure3 rfl) (closed3_pure _ rfl) ?_
  refine Ok_runB env [] rfl ?_
  refine Ok_guard_f (fun hb => ?_) (fun hb => ?_)
  · replace h := ite_f hb h
    refine Ok_runB env [] rfl ?_
    refine Ok_guard_f (fun hb => ?_) (fun hb => ?_)
    · replace h := ite_f hb h
      refine Ok_runB env [] rfl ?_
      obtain ⟨x1, hx, h⟩ := bind_some h
      refine Ok_call (H_F_token_Kind _ _ hx) ?_
      refine Ok_runB env [] rfl ?_
      refine Ok_guard_f (fun hb => ?_) (fun hb => ?_)
      · replace h := ite_f hb h
        refine Ok_runB env [] rfl ?_
        obtain ⟨x2, hx, h⟩ := bind_some h
        refine Ok_call (H_F_token_Kind _ _ hx) ?_
        refine Ok_runB env [] rfl ?_
        refine Ok_cond (fun hb => ?_) (fun hb => ?_)
        · replace h := ite_t hb h
          refine Ok_runB env [] rfl ?_
          obtain ⟨x3, hx, h⟩ := bind_some h
          refine Ok_call (H_F_L5_awake _ hx) ?_
          refine Ok_runB env [] rfl ?_
          cases h
          exact Ok_fin env rfl rfl (told_eq rfl)
        · replace h := ite_f hb h
          refine Ok_runB env [] rfl ?_
          obtain ⟨x4, hx, h⟩ := bind_some h
          refine Ok_catT env hx rfl rfl ?_
          refine Ok_runB env [] rfl ?_
          obtain ⟨x5, hx, h⟩ := bind_some h
          refine Ok_catT env hx rfl rfl ?_
          refine Ok_runB env [] rfl ?_
          obtain ⟨x6, hx, h⟩ := bind_some h
          refine Ok_call (H_F_L5_two _ _ _ _ hx) ?_
          refine Ok_runB env [] rfl ?_
          refine Ok_guard_t (fun hb => ?_) (fun hb => ?_)
          · replace h := ite_t hb h
            refine Ok_runB env [] rfl ?_
            obtain ⟨x7, hx, h⟩ := bind_some h
            refine Ok_call (H_F_token_Glue _ _ _ hx) ?_
            refine Ok_runB env [] rfl ?_
            refine Ok_guard_f (fun hb => ?_) (fun hb => ?_)
            · replace h := ite_f hb h
              refine Ok_runB env [] rfl ?_
              obtain ⟨x8, hx, h⟩ := bind_some h
              refine Ok_catT env hx rfl rfl ?_
              refine Ok_runB env [] rfl ?_
              obtain ⟨x9, hx, h⟩ := bind_some h
              refine Ok_call (H_F_L5_two _ _ _ _ hx) ?_
              refine Ok_runB env [] rfl ?_
              refine Ok_guard_t (fun hb => ?_) (fun hb => ?_)
              · replace h := ite_t hb h
                refine Ok_runB env [] rfl ?_
                obtain ⟨x10, hx, h⟩ := bind_some h
                refine Ok_call (H_F_L5_awake _ hx) ?_
                refine Ok_runB env [] rfl ?_
                cases h
                exact Ok_fin env rfl rfl (told_eq rfl)
              · replace h := ite_f hb h
                refine Ok_runB env [] rfl ?_
                cases h
                exact Ok_fin env rfl rfl (told_eq rfl)
            · replace h := ite_t hb h
              refine Ok_runB env [] rfl ?_
              obtain ⟨x11, hx, h⟩ := bind_some h
              refine Ok_call (H_F_L5_awake _ hx) ?_
              refine Ok_runB env [] rfl ?_
              cases h
              exact Ok_fin env rfl rfl (told_eq rfl)
          · replace h := ite_f hb h
            refine Ok_runB env [] rfl ?_
            cases h
            exact Ok_fin env rfl rfl (told_eq rfl)
      · replace h := ite_t hb h
        refine Ok_runB env [] rfl ?_
        obtain ⟨x12, hx, h⟩ := bind_some h
        refine Ok_call (H_F_L5_awake _ hx) ?_
        refine Ok_runB env [] rfl ?_
        cases h
        exact Ok_fin env rfl rfl (told_eq rfl)
    · replace h := ite_t hb h
      refine Ok_runB env [] rfl ?_
      obtain ⟨x13, hx, h⟩ := bind_some h
      refine Ok_call (H_F_L5_awake _ hx) ?_
      refine Ok_runB env [] rfl ?_
      cases h
      exact Ok_fin env rfl rfl (told_eq rfl)
  · replace h := ite_t hb h
    refine Ok_runB env [] rfl ?_
    obtain ⟨x14, hx, h⟩ := bind_some h
    refine Ok_call (H_F_L5_awake _ hx) ?_
    refine Ok_runB env [] rfl ?_
    cases h
    exact Ok_fin env rfl rfl (told_eq rfl)
/-- treemerge/treemergelaw05.TokenGaps -/
theorem H_F_L5_TokenGaps (a0 : ByteArray) (a1 : ByteArray) (r : Bool) (h : F_L5_TokenGaps a0 a1 = some r) : M_F_L5_TokenGaps a0 a1 r :=
  S_F_L5_TokenGaps a0 a1 r (by rw [E_F_L5_TokenGaps] at h; exact h)
def F_L5_TokenBlanks_l1 (t3 : (List Token)) (t8 : (List Token)) (t11 : Int) : Option (Bool) :=
  if (decide (t11 < ((t3.map Token.cells).length : Int))) = true then
    ix t8 t11 >>= fun x8 =>
    ix t3 t11 >>= fun x9 =>
    if (!decide (x8.Text = x9.Text)) = true then
      some false
    else
      ix t8 t11 >>= fun x10 =>
      ix t3 t11 >>= fun x11 =>
      if (!decide (x10.Kind = x11.Kind)) = true then
        some false
      else
        F_L5_TokenBlanks_l1 (nofix t3) (nofix t8) (IntKind.i64.wrap (t11 + (1 : Int)))
  else
    F_L5_awake >>= fun x12 =>
    some x12
  partial_fixpoint
@[reducible] def M_F_L5_TokenBlanks_l1 (t3 : (List Token)) (t8 : (List Token)) (t11 : Int) (r : Bool) : Prop :=
  Ok Tryd.prog Gt tt 85 0 (Ret Tryd.prog [.tmp 2] (fun y H => Told Tryd.prog Gt H y (.bool r))) (.again (loopOf [] Tryd.f14 1).1 (loopOf [] Tryd.f14 1).2 (.n .undef (.n .undef (.n (.sl 4 false (t3.map Token.cells)) .z (.n (.int .i64 t11) .z .z)) .z) (.n .undef (.n .undef (.n (.sl 4 false (t8.map Token.cells)) .z .z) .z) .z)) 0 [])
theorem E_F_L5_TokenBlanks_l1 (t3 : (List Token)) (t8 : (List Token)) (t11 : Int) : F_L5_TokenBlanks_l1 t3 t8 t11 = (
    if (decide (t11 < ((t3.map Token.cells).length : Int))) = true then
      ix t8 t11 >>= fun x8 =>
      ix t3 t11 >>= fun x9 =>
      if (!decide (x8.Text = x9.Text)) = true then
        some false
      else
        ix t8 t11 >>= fun x10 =>
        ix t3 t11 >>= fun x11 =>
        if (!decide (x10.Kind = x11.Kind)) = true then
          some false
        else
          F_L5_TokenBlanks_l1 t3 t8 (IntKind.i64.wrap (t11 + (1 : Int)))
    else
      F_L5_awake >>= fun x12 =>
      some x12
    : Option (Bool)) := F_L5_TokenBlanks_l1.eq_def t3 t8 t11
set_option maxHeartbeats 4000000 in
theorem S_F_L5_TokenBlanks_l1 (F_L5_TokenBlanks_l1 : (List Token) → (List Token) → Int → Option (Bool)) (H_F_L5_TokenBlanks_l1 : ∀ (t3 : (List Token)) (t8 : (List Token)) (t11 : Int) (r : Bool), F_L5_TokenBlanks_l1 t3 t8 t11 = some r → M_F_L5_TokenBlanks_l1 t3 t8 t11 r) (t3 : (List Token)) (t8 : (List Token)) (t11 : Int) (r : Bool) (h : (
    if (decide (t11 < ((t3.map Token.cells).length : Int))) = true then
      ix t8 t11 >>= fun x8 =>
      ix t3 t11 >>= fun x9 =>
      if (!decide (x8.Text = x9.Text)) = true then
        some false
      else
        ix t8 t11 >>= fun x10 =>
        ix t3 t11 >>= fun x11 =>
        if (!decide (x10.Kind = x11.Kind)) = true then
          some false
        else
          F_L5_TokenBlanks_l1 t3 t8 (IntKind.i64.wrap (t11 + (1 : Int)))
    else
      F_L5_awake >>= fun x12 =>
      some x12
    : Option (Bool)) = some r) : M_F_L5_TokenBlanks_l1 t3 t8 t11 r := by
  refine Ok_unroll ?_
  refine Ok_runB env [] rfl ?_
  refine Ok_cond (fun hb => ?_) (fun hb => ?_)
  · replace h := ite_t hb h
    refine Ok_runB env [] rfl ?_
    obtain ⟨x8, hx, h⟩ := bind_some h
    refine Ok_ixT env hx rfl rfl rfl rfl rfl ?_
    refine Ok_runB env [] rfl ?_
    obtain ⟨x9, hx, h⟩ := bind_some h
    refine Ok_ixT env hx rfl rfl rfl rfl rfl ?_
    refine Ok_runB env [] rfl ?_
    refine Ok_guard_f (fun hb => ?_) (fun hb => ?_)
    · replace h := ite_f hb h
      refine Ok_runB env [] rfl ?_
      obtain ⟨x10, hx, h⟩ := bind_some h
      refine Ok_ixT env hx rfl rfl rfl rfl rfl ?_
      refine Ok_runB env [] rfl ?_
      obtain ⟨x11, hx, h⟩ := bind_some h
      refine Ok_ixT env hx rfl rfl rfl rfl rfl ?_
      refine Ok_runB env [] rfl ?_
      refine Ok_cond (fun hb => ?_) (fun hb => ?_)
      · replace h := ite_t hb h
        refine Ok_runB env [] rfl ?_
        cases h
        exact Ok_fin env rfl rfl (told_eq rfl)
      · replace h := ite_f hb h
        refine Ok_runB env [] rfl ?_
        exact Ok_again_to (by kernel_rfl) (less_at (by simp [leFT, leV, leOs, leO, leC, rho, AV.ren, AV.ren1, AV.un, AV.un1, AV.closed, wkS] <;> (repeat' apply And.intro) <;> first | rfl) (by simp [leFT, leV, leOs, leO, leC, rho, AV.ren, AV.ren1, AV.un, AV.un1, AV.closed, wkS] <;> (repeat' apply And.intro) <;> first | rfl)) (H_F_L5_TokenBlanks_l1 _ _ _ _ h)
    · replace h := ite_t hb h
      refine Ok_runB env [] rfl ?_
      cases h
      exact Ok_fin env rfl rfl (told_eq rfl)
  · replace h := ite_f hb h
    refine Ok_runB env [] rfl ?_
    obtain ⟨x12, hx, h⟩ := bind_some h
    refine Ok_call (H_F_L5_awake _ hx) ?_
    refine Ok_runB env [] rfl ?_
    cases h
    exact Ok_fin env rfl rfl (told_eq rfl)
/-- treemerge/treemergelaw05.TokenBlanks -/
theorem H_F_L5_TokenBlanks_l1 (t3 : (List Token)) (t8 : (List Token)) (t11 : Int) (r : Bool) (h : F_L5_TokenBlanks_l1 t3 t8 t11 = some r) : M_F_L5_TokenBlanks_l1 t3 t8 t11 r :=
  F_L5_TokenBlanks_l1.partial_correctness (fun t3 t8 t11 r => M_F_L5_TokenBlanks_l1 t3 t8 t11 r) (fun F0 h0 => S_F_L5_TokenBlanks_l1 F0 h0) t3 t8 t11 r h
def F_L5_TokenBlanks_l0 (t3 : (List Token)) (t6 : ByteArray) (t7 : Int) : Option (Bool) :=
  if (decide (t7 < ((t3.map Token.cells).length : Int))) = true then
    ix t3 t7 >>= fun x4 =>
    cat t6 x4.Text >>= fun x5 =>
    cat x5 (⟨#[32]⟩ : ByteArray) >>= fun x6 =>
    F_L5_TokenBlanks_l0 (nofix t3) (nofix x6) (IntKind.i64.wrap (t7 + (1 : Int)))
  else
    F_token_Tokens (nofix t6) >>= fun x7 =>
    if (!decide (x7.2.1 = (0 : Int))) = true then
      some false
    else
      if (!decide (((x7.1.map Token.cells).length : Int) = ((t3.map Token.cells).length : Int))) = true then
        some false
      else
        F_L5_TokenBlanks_l1 (nofix t3) x7.1 (0 : Int)
  partial_fixpoint
@[reducible] def M_F_L5_TokenBlanks_l0 (t3 : (List Token)) (t6 : ByteArray) (t7 : Int) (r : Bool) : Prop :=
  Ok Tryd.prog Gt tt 85 0 (Ret Tryd.prog [.tmp 2] (fun y H => Told Tryd.prog Gt H y (.bool r))) (.again (loopOf [] Tryd.f14 0).1 (loopOf [] Tryd.f14 0).2 (.n .undef (.n .undef (.n (.sl 4 false (t3.map Token.cells)) (.n (.int .i64 t7) .z .z) .z) .z) (.n .undef .z (.n (.str t6) .z .z))) 0 [])
theorem E_F_L5_TokenBlanks_l0 (t3 : (List Token)) (t6 : ByteArray) (t7 : Int) : F_L5_TokenBlanks_l0 t3 t6 t7 = (
    if (decide (t7 < ((t3.map Token.cells).length : Int))) = true then
      ix t3 t7 >>= fun x4 =>
      cat t6 x4.Text >>= fun x5 =>
      cat x5 (⟨#[32]⟩ : ByteArray) >>= fun x6 =>
      F_L5_TokenBlanks_l0 t3 x6 (IntKind.i64.wrap (t7 + (1 : Int)))
    else
      F_token_Tokens t6 >>= fun x7 =>
      if (!decide (x7.2.1 = (0 : Int))) = true then
        some false
      else
        if (!decide (((x7.1.map Token.cells).length : Int) = ((t3.map Token.cells).length : Int))) = true then
          some false
        else
          F_L5_TokenBlanks_l1 t3 x7.1 (0 : Int)
    : Option (Bool)) := F_L5_TokenBlanks_l0.eq_def t3 t6 t7
set_option maxHeartbeats 4000000 in
theorem S_F_L5_TokenBlanks_l0 (F_L5_TokenBlanks_l0 : (List Token) → ByteArray → Int → Option (Bool)) (H_F_L5_TokenBlanks_l0 : ∀ (t3 : (List Token)) (t6 : ByteArray) (t7 : Int) (r : Bool), F_L5_TokenBlanks_l0 t3 t6 t7 = some r → M_F_L5_TokenBlanks_l0 t3 t6 t7 r) (t3 : (List Token)) (t6 : ByteArray) (t7 : Int) (r : Bool) (h : (
    if (decide (t7 < ((t3.map Token.cells).length : Int))) = true then
      ix t3 t7 >>= fun x4 =>
      cat t6 x4.Text >>= fun x5 =>
      cat x5 (⟨#[32]⟩ : ByteArray) >>= fun x6 =>
      F_L5_TokenBlanks_l0 t3 x6 (IntKind.i64.wrap (t7 + (1 : Int)))
    else
      F_token_Tokens t6 >>= fun x7 =>
      if (!decide (x7.2.1 = (0 : Int))) = true then
        some false
      else
        if (!decide (((x7.1.map Token.cells).length : Int) = ((t3.map Token.cells).length : Int))) = true then
          some false
        else
          F_L5_TokenBlanks_l1 t3 x7.1 (0 : Int)
    : Option (Bool)) = some r) : M_F_L5_TokenBlanks_l0 t3 t6 t7 r := by
  refine Ok_unroll ?_
  refine Ok_runB env [] rfl ?_
  refine Ok_cond (fun hb => ?_) (fun hb => ?_)
  · replace h := ite_t hb h
    refine Ok_runB env [] rfl ?_
    obtain ⟨x4, hx, h⟩ := bind_some h
    refine Ok_ixT env hx rfl rfl rfl rfl rfl ?_
    refine Ok_runB env [] rfl ?_
    obtain ⟨x5, hx, h⟩ := bind_some h
    refine Ok_catT env hx rfl rfl ?_
    refine Ok_runB env [] rfl ?_
    obtain ⟨x6, hx, h⟩ := bind_some h
    refine Ok_catT env hx rfl rfl ?_
    refine Ok_runB env [] rfl ?_
    exact Ok_again_to (by kernel_rfl) (less_at (by simp [leFT, leV, leOs, leO, leC, rho, AV.ren, AV.ren1, AV.un, AV.un1, AV.closed, wkS] <;> (repeat' apply And.intro) <;> first | rfl) (by simp [leFT, leV, leOs, leO, leC, rho, AV.ren, AV.ren1, AV.un, AV.un1, AV.closed, wkS] <;> (repeat' apply And.intro) <;> first | rfl)) (H_F_L5_TokenBlanks_l0 _ _ _ _ h)
  · replace h := ite_f hb h
    refine Ok_runB env [] rfl ?_
    obtain ⟨x7, hx, h⟩ := bind_some h
    refine Ok_call (H_F_token_Tokens _ _ hx) ?_
    refine Ok_runB env [] rfl ?_
    refine Ok_guard_f (fun hb => ?_) (fun hb => ?_)
    · replace h := ite_f hb h
      refine Ok_runB env [] rfl ?_
      refine Ok_cond (fun hb => ?_) (fun hb => ?_)
      · replace h := ite_t hb h
        refine Ok_runB env [] rfl ?_
        cases h
        exact Ok_fin env rfl rfl (told_eq rfl)
      · replace h := ite_f hb h
        refine Ok_runB env [] rfl ?_
        exact Ok_loop_to (by kernel_rfl) (less_at (by simp [leFT, leV, leOs, leO, leC, rho, AV.ren, AV.ren1, AV.un, AV.un1, AV.closed, wkS] <;> (repeat' apply And.intro) <;> first | rfl) (by simp [leFT, leV, leOs, leO, leC, rho, AV.ren, AV.ren1, AV.un, AV.un1, AV.closed, wkS] <;> (repeat' apply And.intro) <;> first | rfl)) (H_F_L5_TokenBlanks_l1 _ _ _ _ h)
    · replace h := ite_t hb h
      refine Ok_runB env [] rfl ?_
      cases h
      exact Ok_fin env rfl rfl (told_eq rfl)
/-- treemerge/treemergelaw05.TokenBlanks -/
theorem H_F_L5_TokenBlanks_l0 (t3 : (List Token)) (t6 : ByteArray) (t7 : Int) (r : Bool) (h : F_L5_TokenBlanks_l0 t3 t6 t7 = some r) : M_F_L5_TokenBlanks_l0 t3 t6 t7 r :=
  F_L5_TokenBlanks_l0.partial_correctness (fun t3 t6 t7 r => M_F_L5_TokenBlanks_l0 t3 t6 t7 r) (fun F0 h0 => S_F_L5_TokenBlanks_l0 F0 h0) t3 t6 t7 r h
def F_L5_TokenBlanks (a0 : ByteArray) : Option (Bool) :=
  if (decide ((1000 : Int) < (a0.size : Int))) = true then
    F_L5_awake >>= fun x1 =>
    some x1
  else
    F_token_Tokens a0 >>= fun x2 =>
    if (!decide (x2.2.1 = (0 : Int))) = true then
      F_L5_awake >>= fun x3 =>
      some x3
    else
      F_L5_TokenBlanks_l0 x2.1 (⟨#[]⟩ : ByteArray) (0 : Int)
@[reducible] def M_F_L5_TokenBlanks (a0 : ByteArray) (r : Bool) : Prop :=
  Fn Tryd.prog Gt 14 [(.str a0)] (.bool r)
theorem E_F_L5_TokenBlanks (a0 : ByteArray) : F_L5_TokenBlanks a0 = (
    if (decide ((1000 : Int) < (a0.size : Int))) = true then
      F_L5_awake >>= fun x1 =>
      some x1
    else
      F_token_Tokens a0 >>= fun x2 =>
      if (!decide (x2.2.1 = (0 : Int))) = true then
        F_L5_awake >>= fun x3 =>
        some x3
      else
        F_L5_TokenBlanks_l0 x2.1 (⟨#[]⟩ : ByteArray) (0 : Int)
    : Option (Bool)) := F_L5_TokenBlanks.eq_def a0
set_option maxHeartbeats 4000000 in
theorem S_F_L5_TokenBlanks  (a0 : ByteArray) (r : Bool) (h : (
    if (decide ((1000 : Int) < (a0.size : Int))) = true then
      F_L5_awake >>= fun x1 =>
      some x1
    else
      F_token_Tokens a0 >>= fun x2 =>
      if (!decide (x2.2.1 = (0 : Int))) = true then
        F_L5_awake >>= fun x3 =>
        some x3
      else
        F_L5_TokenBlanks_l0 x2.1 (⟨#[]⟩ : ByteArray) (0 : Int)
    : Option (Bool)) = some r) : M_F_L5_TokenBlanks a0 r := by
  refine Fn_run (T := tt) (N := 85) (rs := [.tmp 2]) (fun vs w => by simp) Tryd.func14 rfl rfl rfl rfl (by kernel_rfl) (all_pure3 rfl) (closed3_pure _ rfl) ?_
  refine Ok_runB env [] rfl ?_
  refine Ok_cond (fun hb => ?_) (fun hb => ?_)
  · replace h := ite_t hb h
    refine Ok_runB env [] rfl ?_
    obtain ⟨x1, hx, h⟩ := bind_some h
    refine Ok_call (H_F_L5_awake _ hx) ?_
    refine Ok_runB env [] rfl ?_
    cases h
    exact Ok_fin env rfl rfl (told_eq rfl)
  · replace h := ite_f hb h
    refine Ok_runB env [] rfl ?_
    obtain ⟨x2, hx, h⟩ := bind_some h
    refine Ok_call (H_F_token_Tokens _ _ hx) ?_
    refine Ok_runB env [] rfl ?_
    refine Ok_cond (fun hb => ?_) (fun hb => ?_)
    · replace h := ite_t hb h
      refine Ok_runB env [] rfl ?_
      obtain ⟨x3, hx, h⟩ := bind_some h
      refine Ok_call (H_F_L5_awake _ hx) ?_
      refine Ok_runB env [] rfl ?_
      cases h
      exact Ok_fin env rfl rfl (told_eq rfl)
    · replace h := ite_f hb h
      refine Ok_runB env [] rfl ?_
      exact Ok_loop_to (by kernel_rfl) (less_at (by simp [leFT, leV, leOs, leO, leC, rho, AV.ren, AV.ren1, AV.un, AV.un1, AV.closed, wkS] <;> (repeat' apply And.intro) <;> first | rfl) (by simp [leFT, leV, leOs, leO, leC, rho, AV.ren, AV.ren1, AV.un, AV.un1, AV.closed, wkS] <;> (repeat' apply And.intro) <;> first | rfl)) (H_F_L5_TokenBlanks_l0 _ _ _ _ h)
/-- treemerge/treemergelaw05.TokenBlanks -/
theorem H_F_L5_TokenBlanks (a0 : ByteArray) (r : Bool) (h : F_L5_TokenBlanks a0 = some r) : M_F_L5_TokenBlanks a0 r :=
  S_F_L5_TokenBlanks a0 r (by rw [E_F_L5_TokenBlanks] at h; exact h)
def F_L5_TokenPlaces_l0 (t0 : ByteArray) (t3 : (List Token)) (t6 : Int) (t7 : Int) : Option (Bool) :=
  if (decide (t7 < ((t3.map Token.cells).length : Int))) = true then
    ix t3 t7 >>= fun x4 =>
    F_trivia_Valid x4.Lead >>= fun x5 =>
    if (!x5) = true then
      some false
    else
      if (!decide (x4.At = (IntKind.i64.wrap (t6 + (x4.Lead.size : Int))))) = true then
        some false
      else
        if (decide ((IntKind.i64.wrap ((t0.size : Int) - x4.At)) < (x4.Text.size : Int))) = true then
          some false
        else
          ssub t0 x4.At (IntKind.i64.wrap (x4.At + (x4.Text.size : Int))) >>= fun x6 =>
          if (!decide (x6 = x4.Text)) = true then
            some false
          else
            if (decide (t7 = (IntKind.i64.wrap (((t3.map Token.cells).length : Int) - (1 : Int))))) = true then
              if (decide (x4.Kind = (4 : Int))) = true then
                if (decide (x4.Text = (⟨#[]⟩ : ByteArray))) = true then
                  if (decide (x4.At = (t0.size : Int))) = true then
                    F_L5_awake >>= fun x7 =>
                    some x7
                  else
                    some false
                else
                  some false
              else
                some false
            else
              if (decide (x4.Kind = (0 : Int))) = true then
                some false
              else
                F_token_Kind x4.Text >>= fun x8 =>
                if (!decide (x8 = x4.Kind)) = true then
                  some false
                else
                  F_L5_TokenPlaces_l0 (nofix t0) (nofix t3) (IntKind.i64.wrap (x4.At + (x4.Text.size : Int))) (IntKind.i64.wrap (t7 + (1 : Int)))
  else
    some false
  partial_fixpoint
@[reducible] def M_F_L5_TokenPlaces_l0 (t0 : ByteArray) (t3 : (List Token)) (t6 : Int) (t7 : Int) (r : Bool) : Prop :=
  Ok Tryd.prog Gt tt 112 0 (Ret Tryd.prog [.tmp 2] (fun y H => Told Tryd.prog Gt H y (.bool r))) (.again (loopOf [] Tryd.f15 0).1 (loopOf [] Tryd.f15 0).2 (.n (.str t0) (.n .undef (.n (.sl 4 false (t3.map Token.cells)) (.n (.int .i64 t7) .z .z) .z) .z) (.n .undef .z (.n (.int .i64 t6) .z .z))) 0 [])
theorem E_F_L5_TokenPlaces_l0 (t0 : ByteArray) (t3 : (List Token)) (t6 : Int) (t7 : Int) : F_L5_TokenPlaces_l0 t0 t3 t6 t7 = (
    if (decide (t7 < ((t3.map Token.cells).length : Int))) = true then
      ix t3 t7 >>= fun x4 =>
      F_trivia_Valid x4.Lead >>= fun x5 =>
      if (!x5) = true then
        some false
      else
        if (!decide (x4.At = (IntKind.i64.wrap (t6 + (x4.Lead.size : Int))))) = true then
          some false
        else
          if (decide ((IntKind.i64.wrap ((t0.size : Int) - x4.At)) < (x4.Text.size : Int))) = true then
            some false
          else
            ssub t0 x4.At (IntKind.i64.wrap (x4.At + (x4.Text.size : Int))) >>= fun x6 =>
            if (!decide (x6 = x4.Text)) = true then
              some false
            else
              if (decide (t7 = (IntKind.i64.wrap (((t3.map Token.cells).length : Int) - (1 : Int))))) = true then
                if (decide (x4.Kind = (4 : Int))) = true then
                  if (decide (x4.Text = (⟨#[]⟩ : ByteArray))) = true then
                    if (decide (x4.At = (t0.size : Int))) = true then
                      F_L5_awake >>= fun x7 =>
                      some x7
                    else
                      some false
                  else
                    some false
                else
                  some false
              else
                if (decide (x4.Kind = (0 : Int))) = true then
                  some false
                else
                  F_token_Kind x4.Text >>= fun x8 =>
                  if (!decide (x8 = x4.Kind)) = true then
                    some false
                  else
                    F_L5_TokenPlaces_l0 t0 t3 (IntKind.i64.wrap (x4.At + (x4.Text.size : Int))) (IntKind.i64.wrap (t7 + (1 : Int)))
    else
      some false
    : Option (Bool)) := F_L5_TokenPlaces_l0.eq_def t0 t3 t6 t7
set_option maxHeartbeats 4000000 in
theorem S_F_L5_TokenPlaces_l0 (F_L5_TokenPlaces_l0 : ByteArray → (List Token) → Int → Int → Option (Bool)) (H_F_L5_TokenPlaces_l0 : ∀ (t0 : ByteArray) (t3 : (List Token)) (t6 : Int) (t7 : Int) (r : Bool), F_L5_TokenPlaces_l0 t0 t3 t6 t7 = some r → M_F_L5_TokenPlaces_l0 t0 t3 t6 t7 r) (t0 : ByteArray) (t3 : (List Token)) (t6 : Int) (t7 : Int) (r : Bool) (h : (
    if (decide (t7 < ((t3.map Token.cells).length : Int))) = true then
      ix t3 t7 >>= fun x4 =>
      F_trivia_Valid x4.Lead >>= fun x5 =>
      if (!x5) = true then
        some false
      else
        if (!decide (x4.At = (IntKind.i64.wrap (t6 + (x4.Lead.size : Int))))) = true then
          some false
        else
          if (decide ((IntKind.i64.wrap ((t0.size : Int) - x4.At)) < (x4.Text.size : Int))) = true then
            some false
          else
            ssub t0 x4.At (IntKind.i64.wrap (x4.At + (x4.Text.size : Int))) >>= fun x6 =>
            if (!decide (x6 = x4.Text)) = true then
              some false
            else
              if (decide (t7 = (IntKind.i64.wrap (((t3.map Token.cells).length : Int) - (1 : Int))))) = true then
                if (decide (x4.Kind = (4 : Int))) = true then
                  if (decide (x4.Text = (⟨#[]⟩ : ByteArray))) = true then
                    if (decide (x4.At = (t0.size : Int))) = true then
                      F_L5_awake >>= fun x7 =>
                      some x7
                    else
                      some false
                  else
                    some false
                else
                  some false
              else
                if (decide (x4.Kind = (0 : Int))) = true then
                  some false
                else
                  F_token_Kind x4.Text >>= fun x8 =>
                  if (!decide (x8 = x4.Kind)) = true then
                    some false
                  else
                    F_L5_TokenPlaces_l0 t0 t3 (IntKind.i64.wrap (x4.At + (x4.Text.size : Int))) (IntKind.i64.wrap (t7 + (1 : Int)))
    else
      some false
    : Option (Bool)) = some r) : M_F_L5_TokenPlaces_l0 t0 t3 t6 t7 r := by
  refine Ok_unroll ?_
  refine Ok_runB env [] rfl ?_
  refine Ok_cond (fun hb => ?_) (fun hb => ?_)
  · replace h := ite_t hb h
    refine Ok_runB env [] rfl ?_
    obtain ⟨x4, hx, h⟩ := bind_some h
    refine Ok_ixT env hx rfl rfl rfl rfl rfl ?_
    refine Ok_runB env [] rfl ?_
    obtain ⟨x5, hx, h⟩ := bind_some h
    refine Ok_call (H_F_trivia_Valid _ _ hx) ?_
    refine Ok_runB env [] rfl ?_
    refine Ok_guard_f (fun hb => ?_) (fun hb => ?_)
    · replace h := ite_f hb h
      refine Ok_runB env [] rfl ?_
      refine Ok_guard_f (fun hb => ?_) (fun hb => ?_)
      · replace h := ite_f hb h
        refine Ok_runB env [] rfl ?_
        refine Ok_guard_f (fun hb => ?_) (fun hb => ?_)
        · replace h := ite_f hb h
          refine Ok_runB env [] rfl ?_
          obtain ⟨x6, hx, h⟩ := bind_some h
          refine Ok_ssubT env hx rfl rfl rfl rfl rfl ?_
          refine Ok_runB env [] rfl ?_
          refine Ok_cond (fun hb => ?_) (fun hb => ?_)
          · replace h := ite_t hb h
            refine Ok_runB env [] rfl ?_
            cases h
            exact Ok_fin env rfl rfl (told_eq rfl)
          · replace h := ite_f hb h
            refine Ok_runB env [] rfl ?_
            refine Ok_cond (fun hb => ?_) (fun hb => ?_)
            · replace h := ite_t hb h
              refine Ok_runB env [] rfl ?_
              refine Ok_guard_t (fun hb => ?_) (fun hb => ?_)
              · replace h := ite_t hb h
                refine Ok_runB env [] rfl ?_
                refine Ok_guard_t (fun hb => ?_) (fun hb => ?_)
                · replace h := ite_t hb h
                  refine Ok_runB env [] rfl ?_
                  refine Ok_guard_t (fun hb => ?_) (fun hb => ?_)
                  · replace h := ite_t hb h
                    refine Ok_runB env [] rfl ?_
                    obtain ⟨x7, hx, h⟩ := bind_some h
                    refine Ok_call (H_F_L5_awake _ hx) ?_
                    refine Ok_runB env [] rfl ?_
                    cases h
                    exact Ok_fin env rfl rfl (told_eq rfl)
                  · replace h := ite_f hb h
                    refine Ok_runB env [] rfl ?_
                    cases h
                    exact Ok_fin env rfl rfl (told_eq rfl)
                · replace h := ite_f hb h
                  refine Ok_runB env [] rfl ?_
                  cases h
                  exact Ok_fin env rfl rfl (told_eq rfl)
              · replace h := ite_f hb h
                refine Ok_runB env [] rfl ?_
                cases h
                exact Ok_fin env rfl rfl (told_eq rfl)
            · replace h := ite_f hb h
              refine Ok_runB env [] rfl ?_
              refine Ok_guard_f (fun hb => ?_) (fun hb => ?_)
              · replace h := ite_f hb h
                refine Ok_runB env [] rfl ?_
                obtain ⟨x8, hx, h⟩ := bind_some h
                refine Ok_call (H_F_token_Kind _ _ hx) ?_
                refine Ok_runB env [] rfl ?_
                refine Ok_cond (fun hb => ?_) (fun hb => ?_)
                · replace h := ite_t hb h
                  refine Ok_runB env [] rfl ?_
                  cases h
                  exact Ok_fin env rfl rfl (told_eq rfl)
                · replace h := ite_f hb h
                  refine Ok_runB env [] rfl ?_
                  exact Ok_again_to (by kernel_rfl) (less_at (by simp [leFT, leV, leOs, leO, leC, rho, AV.ren, AV.ren1, AV.un, AV.un1, AV.closed, wkS] <;> (repeat' apply And.intro) <;> first | rfl) (by simp [leFT, leV, leOs, leO, leC, rho, AV.ren, AV.ren1, AV.un, AV.un1, AV.closed, wkS] <;> (repeat' apply And.intro) <;> first | rfl)) (H_F_L5_TokenPlaces_l0 _ _ _ _ _ h)
              · replace h := ite_t hb h
                refine Ok_runB env [] rfl ?_
                cases h
                exact Ok_fin env rfl rfl (told_eq rfl)
        · replace h := ite_t hb h
          refine Ok_runB env [] rfl ?_
          cases h
          exact Ok_fin env rfl rfl (told_eq rfl)
      · replace h := ite_t hb h
        refine Ok_runB env [] rfl ?_
        cases h
        exact Ok_fin env rfl rfl (told_eq rfl)
    · replace h := ite_t hb h
      refine Ok_runB env [] rfl ?_
      cases h
      exact Ok_fin env rfl rfl (told_eq rfl)
  · replace h := ite_f hb h
    refine Ok_runB env [] rfl ?_
    cases h
    exact Ok_fin env rfl rfl (told_eq rfl)
/-- treemerge/treemergelaw05.TokenPlaces -/
theorem H_F_L5_TokenPlaces_l0 (t0 : ByteArray) (t3 : (List Token)) (t6 : Int) (t7 : Int) (r : Bool) (h : F_L5_TokenPlaces_l0 t0 t3 t6 t7 = some r) : M_F_L5_TokenPlaces_l0 t0 t3 t6 t7 r :=
  F_L5_TokenPlaces_l0.partial_correctness (fun t0 t3 t6 t7 r => M_F_L5_TokenPlaces_l0 t0 t3 t6 t7 r) (fun F0 h0 => S_F_L5_TokenPlaces_l0 F0 h0) t0 t3 t6 t7 r h
def F_L5_TokenPlaces (a0 : ByteArray) : Option (Bool) :=
  if (decide ((1000 : Int) < (a0.size : Int))) = true then
    F_L5_awake >>= fun x1 =>
    some x1
  else
    F_token_Tokens a0 >>= fun x2 =>
    if (!decide (x2.2.1 = (0 : Int))) = true then
      F_L5_awake >>= fun x3 =>
      some x3
    else
      F_L5_TokenPlaces_l0 a0 x2.1 (0 : Int) (0 : Int)
@[reducible] def M_F_L5_TokenPlaces (a0 : ByteArray) (r : Bool) : Prop :=
  Fn Tryd.prog Gt 15 [(.str a0)] (.bool r)
theorem E_F_L5_TokenPlaces (a0 : ByteArray) : F_L5_TokenPlaces a0 = (
    if (decide ((1000 : Int) < (a0.size : Int))) = true then
      F_L5_awake >>= fun x1 =>
      some x1
    else
      F_token_Tokens a0 >>= fun x2 =>
      if (!decide (x2.2.1 = (0 : Int))) = true then
        F_L5_awake >>= fun x3 =>
        some x3
      else
        F_L5_TokenPlaces_l0 a0 x2.1 (0 : Int) (0 : Int)
    : Option (Bool)) := F_L5_TokenPlaces.eq_def a0
set_option maxHeartbeats 4000000 in
theorem S_F_L5_TokenPlaces  (a0 : ByteArray) (r : Bool) (h : (
    if (decide ((1000 : Int) < (a0.size : Int))) = true then
      F_L5_awake >>= fun x1 =>
      some x1
    else
      F_token_Tokens a0 >>= fun x2 =>
      if (!decide (x2.2.1 = (0 : Int))) = true then
        F_L5_awake >>= fun x3 =>
        some x3
      else
        F_L5_TokenPlaces_l0 a0 x2.1 (0 : Int) (0 : Int)
    : Option (Bool)) = some r) : M_F_L5_TokenPlaces a0 r := by
  refine Fn_run (T := tt) (N := 112) (rs := [.tmp 2]) (fun vs w => by simp) Tryd.func15 rfl rfl rfl rfl (by kernel_rfl) (all_pure3 rfl) (closed3_pure _ rfl) ?_
  refine Ok_runB env [] rfl ?_
  refine Ok_cond (fun hb => ?_) (fun hb => ?_)
  · replace h := ite_t hb h
    refine Ok_runB env [] rfl ?_
    obtain ⟨x1, hx, h⟩ := bind_some h
    refine Ok_call (H_F_L5_awake _ hx) ?_
    refine Ok_runB env [] rfl ?_
    cases h
    exact Ok_fin env rfl rfl (told_eq rfl)
  · replace h := ite_f hb h
    refine Ok_runB env [] rfl ?_
    obtain ⟨x2, hx, h⟩ := bind_some h
    refine Ok_call (H_F_token_Tokens _ _ hx) ?_
    refine Ok_runB env [] rfl ?_
    refine Ok_cond (fun hb => ?_) (fun hb => ?_)
    · replace h := ite_t hb h
      refine Ok_runB env [] rfl ?_
      obtain ⟨x3, hx, h⟩ := bind_some h
      refine Ok_call (H_F_L5_awake _ hx) ?_
      refine Ok_runB env [] rfl ?_
      cases h
      exact Ok_fin env rfl rfl (told_eq rfl)
    · replace h := ite_f hb h
      refine Ok_runB env [] rfl ?_
      exact Ok_loop_to (by kernel_rfl) (less_at (by simp [leFT, leV, leOs, leO, leC, rho, AV.ren, AV.ren1, AV.un, AV.un1, AV.closed, wkS] <;> (repeat' apply And.intro) <;> first | rfl) (by simp [leFT, leV, leOs, leO, leC, rho, AV.ren, AV.ren1, AV.un, AV.un1, AV.closed, wkS] <;> (repeat' apply And.intro) <;> first | rfl)) (H_F_L5_TokenPlaces_l0 _ _ _ _ _ h)
/-- treemerge/treemergelaw05.TokenPlaces -/
theorem H_F_L5_TokenPlaces (a0 : ByteArray) (r : Bool) (h : F_L5_TokenPlaces a0 = some r) : M_F_L5_TokenPlaces a0 r :=
  S_F_L5_TokenPlaces a0 r (by rw [E_F_L5_TokenPlaces] at h; exact h)
end Go.Proofs.YtimdjillcaichaaDoorW.Ex.Gr
