/- The program's functions, printed as functions on numbers, strings, lists and trees, with the proofs that they are what the code computes. Conditions: those in each theorem. -/
import Derived.Test.YtimdjillcaichaaDoorUa
namespace Go.Proofs.YtimdjillcaichaaDoorW.Ex.Gr
open Go Go.Proofs.YtimdjillcaichaaDoorW.Ex
set_option linter.all false
set_option maxRecDepth 100000
def F_R5_Letter (a0 : Int) : Option (Bool) :=
  if (decide ((97 : Int) ≤ a0)) = true then
    if (decide (a0 ≤ (122 : Int))) = true then
      some true
    else
      if (decide ((65 : Int) ≤ a0)) = true then
        if (decide (a0 ≤ (90 : Int))) = true then
          some true
        else
          F_R5_Digit a0 >>= fun x1 =>
          if x1 = true then
            some true
          else
            some (decide (a0 = (95 : Int)))
      else
        F_R5_Digit a0 >>= fun x2 =>
        if x2 = true then
          some true
        else
          some (decide (a0 = (95 : Int)))
  else
    if (decide ((65 : Int) ≤ a0)) = true then
      if (decide (a0 ≤ (90 : Int))) = true then
        some true
      else
        F_R5_Digit a0 >>= fun x3 =>
        if x3 = true then
          some true
        else
          some (decide (a0 = (95 : Int)))
    else
      F_R5_Digit a0 >>= fun x4 =>
      if x4 = true then
        some true
      else
        some (decide (a0 = (95 : Int)))
@[reducible] def M_F_R5_Letter (a0 : Int) (r : Bool) : Prop :=
  Fn Tryd.prog Gt 75 [(.int .u8 a0)] (.bool r)
theorem E_F_R5_Letter (a0 : Int) : F_R5_Letter a0 = (
    if (decide ((97 : Int) ≤ a0)) = true then
      if (decide (a0 ≤ (122 : Int))) = true then
        some true
      else
        if (decide ((65 : Int) ≤ a0)) = true then
          if (decide (a0 ≤ (90 : Int))) = true then
            some true
          else
            F_R5_Digit a0 >>= fun x1 =>
            if x1 = true then
              some true
            else
              some (decide (a0 = (95 : Int)))
        else
          F_R5_Digit a0 >>= fun x2 =>
          if x2 = true then
            some true
          else
            some (decide (a0 = (95 : Int)))
    else
      if (decide ((65 : Int) ≤ a0)) = true then
        if (decide (a0 ≤ (90 : Int))) = true then
          some true
        else
          F_R5_Digit a0 >>= fun x3 =>
          if x3 = true then
            some true
          else
            some (decide (a0 = (95 : Int)))
      else
        F_R5_Digit a0 >>= fun x4 =>
        if x4 = true then
          some true
        else
          some (decide (a0 = (95 : Int)))
    : Option (Bool)) := F_R5_Letter.eq_def a0
set_option maxHeartbeats 4000000 in
theorem S_F_R5_Letter  (a0 : Int) (r : Bool) (h : (
    if (decide ((97 : Int) ≤ a0)) = true then
      if (decide (a0 ≤ (122 : Int))) = true then
        some true
      else
        if (decide ((65 : Int) ≤ a0)) = true then
          if (decide (a0 ≤ (90 : Int))) = true then
            some true
          else
            F_R5_Digit a0 >>= fun x1 =>
            if x1 = true then
              some true
            else
              some (decide (a0 = (95 : Int)))
        else
          F_R5_Digit a0 >>= fun x2 =>
          if x2 = true then
            some true
          else
            some (decide (a0 = (95 : Int)))
    else
      if (decide ((65 : Int) ≤ a0)) = true then
        if (decide (a0 ≤ (90 : Int))) = true then
          some true
        else
          F_R5_Digit a0 >>= fun x3 =>
          if x3 = true then
            some true
          else
            some (decide (a0 = (95 : Int)))
      else
        F_R5_Digit a0 >>= fun x4 =>
        if x4 = true then
          some true
        else
          some (decide (a0 = (95 : Int)))
    : Option (Bool)) = some r) : M_F_R5_Letter a0 r := by
  refine Fn_run (T := tt) (N := 25) (rs := [.tmp 2]) (fun vs w => by simp) Tryd.func75 rfl rfl rfl rfl (by kernel_rfl) (all_pure3 rfl) (closed3_pure _ rfl) ?_
  refine Ok_runB env [] rfl ?_
  refine Ok_guard_t (fun hb => ?_) (fun hb => ?_)
  · replace h := ite_t hb h
    refine Ok_runB env [] rfl ?_
    refine Ok_guard_f (fun hb => ?_) (fun hb => ?_)
    · replace h := ite_f hb h
      refine Ok_runB env [] rfl ?_
      refine Ok_guard_t (fun hb => ?_) (fun hb => ?_)
      · replace h := ite_t hb h
        refine Ok_runB env [] rfl ?_
        refine Ok_guard_f (fun hb => ?_) (fun hb => ?_)
        · replace h := ite_f hb h
          refine Ok_runB env [] rfl ?_
          obtain ⟨x1, hx, h⟩ := bind_some h
          refine Ok_call (H_F_R5_Digit _ _ hx) ?_
          refine Ok_runB env [] rfl ?_
          refine Ok_guard_f (fun hb => ?_) (fun hb => ?_)
          · replace h := ite_f hb h
            refine Ok_runB env [] rfl ?_
            cases h
            exact Ok_fin env rfl rfl (told_eq rfl)
          · replace h := ite_t hb h
            refine Ok_runB env [] rfl ?_
            cases h
            exact Ok_fin env rfl rfl (told_eq rfl)
        · replace h := ite_t hb h
          refine Ok_runB env [] rfl ?_
          cases h
          exact Ok_fin env rfl rfl (told_eq rfl)
      · replace h := ite_f hb h
        refine Ok_runB env [] rfl ?_
        obtain ⟨x2, hx, h⟩ := bind_some h
        refine Ok_call (H_F_R5_Digit _ _ hx) ?_
        refine Ok_runB env [] rfl ?_
        refine Ok_guard_f (fun hb => ?_) (fun hb => ?_)
        · replace h := ite_f hb h
          refine Ok_runB env [] rfl ?_
          cases h
          exact Ok_fin env rfl rfl (told_eq rfl)
        · replace h := ite_t hb h
          refine Ok_runB env [] rfl ?_
          cases h
          exact Ok_fin env rfl rfl (told_eq rfl)
    · replace h := ite_t hb h
      refine Ok_runB env [] rfl ?_
      cases h
      exact Ok_fin env rfl rfl (told_eq rfl)
  · replace h := ite_f hb h
    refine Ok_runB env [] rfl ?_
    refine Ok_guard_t (fun hb => ?_) (fun hb => ?_)
    · replace h := ite_t hb h
      refine Ok_runB env [] rfl ?_
      refine Ok_guard_f (fun hb => ?_) (fun hb => ?_)
      · replace h := ite_f hb h
        refine Ok_runB env [] rfl ?_
        obtain ⟨x3, hx, h⟩ := bind_some h
        refine Ok_call (H_F_R5_Digit _ _ hx) ?_
        refine Ok_runB env [] rfl ?_
        refine Ok_guard_f (fun hb => ?_) (fun hb => ?_)
        · replace h := ite_f hb h
          refine Ok_runB env [] rfl ?_
          cases h
          exact Ok_fin env rfl rfl (told_eq rfl)
        · replace h := ite_t hb h
          refine Ok_runB env [] rfl ?_
          cases h
          exact Ok_fin env rfl rfl (told_eq rfl)
      · replace h := ite_t hb h
        refine Ok_runB env [] rfl ?_
        cases h
        exact Ok_fin env rfl rfl (told_eq rfl)
    · replace h := ite_f hb h
      refine Ok_runB env [] rfl ?_
      obtain ⟨x4, hx, h⟩ := bind_some h
      refine Ok_call (H_F_R5_Digit _ _ hx) ?_
      refine Ok_runB env [] rfl ?_
      refine Ok_guard_f (fun hb => ?_) (fun hb => ?_)
      · replace h := ite_f hb h
        refine Ok_runB env [] rfl ?_
        cases h
        exact Ok_fin env rfl rfl (told_eq rfl)
      · replace h := ite_t hb h
        refine Ok_runB env [] rfl ?_
        cases h
        exact Ok_fin env rfl rfl (told_eq rfl)
/-- treemerge/treemergeref05.Letter -/
theorem H_F_R5_Letter (a0 : Int) (r : Bool) (h : F_R5_Letter a0 = some r) : M_F_R5_Letter a0 r :=
  S_F_R5_Letter a0 r (by rw [E_F_R5_Letter] at h; exact h)
def F_R5_run_b0 (t5 : Int) : Option (Int) :=
  some t5
@[reducible] def M_F_R5_run_b0 (t5 : Int) (r : Int) : Prop :=
  Ok Tryd.prog Gt tt 20 0 (Ret Tryd.prog [.tmp 4] (fun y H => Told Tryd.prog Gt H y (.int .i64 r))) (.go [] (blockOf [1000000] Tryd.f95 0) [] (.n .undef (.n .undef .z (.n (.int .i64 t5) .z .z)) .z) 0 [])
theorem E_F_R5_run_b0 (t5 : Int) : F_R5_run_b0 t5 = (
    some t5
    : Option (Int)) := F_R5_run_b0.eq_def t5
set_option maxHeartbeats 4000000 in
theorem S_F_R5_run_b0  (t5 : Int) (r : Int) (h : (
    some t5
    : Option (Int)) = some r) : M_F_R5_run_b0 t5 r := by
  refine Ok_runB env [1000000] rfl ?_
  cases h
  exact Ok_fin env rfl rfl (told_eq rfl)
/-- treemerge/treemergeref05.run -/
theorem H_F_R5_run_b0 (t5 : Int) (r : Int) (h : F_R5_run_b0 t5 = some r) : M_F_R5_run_b0 t5 r :=
  S_F_R5_run_b0 t5 r (by rw [E_F_R5_run_b0] at h; exact h)
def F_R5_run_l0 (t0 : ByteArray) (t5 : Int) : Option (Int) :=
  if (decide (t5 < (t0.size : Int))) = true then
    sx t0 t5 >>= fun x1 =>
    F_R5_Letter (nofix x1) >>= fun x2 =>
    if x2 = true then
      F_R5_run_l0 (nofix t0) (IntKind.i64.wrap (t5 + (1 : Int)))
    else
      F_R5_run_b0 (nofix t5)
  else
    F_R5_run_b0 (nofix t5)
  partial_fixpoint
@[reducible] def M_F_R5_run_l0 (t0 : ByteArray) (t5 : Int) (r : Int) : Prop :=
  Ok Tryd.prog Gt tt 20 0 (Ret Tryd.prog [.tmp 4] (fun y H => Told Tryd.prog Gt H y (.int .i64 r))) (.again (loopOf [1000000] Tryd.f95 0).1 (loopOf [1000000] Tryd.f95 0).2 (.n (.str t0) (.n .undef .z (.n (.int .i64 t5) .z .z)) .z) 0 [])
theorem E_F_R5_run_l0 (t0 : ByteArray) (t5 : Int) : F_R5_run_l0 t0 t5 = (
    if (decide (t5 < (t0.size : Int))) = true then
      sx t0 t5 >>= fun x1 =>
      F_R5_Letter x1 >>= fun x2 =>
      if x2 = true then
        F_R5_run_l0 t0 (IntKind.i64.wrap (t5 + (1 : Int)))
      else
        F_R5_run_b0 t5
    else
      F_R5_run_b0 t5
    : Option (Int)) := F_R5_run_l0.eq_def t0 t5
set_option maxHeartbeats 4000000 in
theorem S_F_R5_run_l0 (F_R5_run_l0 : ByteArray → Int → Option (Int)) (H_F_R5_run_l0 : ∀ (t0 : ByteArray) (t5 : Int) (r : Int), F_R5_run_l0 t0 t5 = some r → M_F_R5_run_l0 t0 t5 r) (t0 : ByteArray) (t5 : Int) (r : Int) (h : (
    if (decide (t5 < (t0.size : Int))) = true then
      sx t0 t5 >>= fun x1 =>
      F_R5_Letter x1 >>= fun x2 =>
      if x2 = true then
        F_R5_run_l0 t0 (IntKind.i64.wrap (t5 + (1 : Int)))
      else
        F_R5_run_b0 t5
    else
      F_R5_run_b0 t5
    : Option (Int)) = some r) : M_F_R5_run_l0 t0 t5 r := by
  refine Ok_unroll ?_
  refine Ok_runB env [1000000] rfl ?_
  refine Ok_guard_t (fun hb => ?_) (fun hb => ?_)
  · replace h := ite_t hb h
    refine Ok_runB env [1000000] rfl ?_
    obtain ⟨x1, hx, h⟩ := bind_some h
    refine Ok_sxT env hx rfl rfl rfl rfl ?_
    refine Ok_runB env [1000000] rfl ?_
    obtain ⟨x2, hx, h⟩ := bind_some h
    refine Ok_call (H_F_R5_Letter _ _ hx) ?_
    refine Ok_runB env [1000000] rfl ?_
    refine Ok_cond (fun hb => ?_) (fun hb => ?_)
    · replace h := ite_t hb h
      refine Ok_runB env [1000000] rfl ?_
      exact Ok_again_to (by kernel_rfl) (less_at (by simp [leFT, leV, leOs, leO, leC, rho, AV.ren, AV.ren1, AV.un, AV.un1, AV.closed, wkS] <;> (repeat' apply And.intro) <;> first | rfl) (by simp [leFT, leV, leOs, leO, leC, rho, AV.ren, AV.ren1, AV.un, AV.un1, AV.closed, wkS] <;> (repeat' apply And.intro) <;> first | rfl)) (H_F_R5_run_l0 _ _ _ h)
    · replace h := ite_f hb h
      refine Ok_runB env [1000000] rfl ?_
      exact Ok_bar_to (by kernel_rfl) rfl (less_at (by simp [leFT, leV, leOs, leO, leC, rho, AV.ren, AV.ren1, AV.un, AV.un1, AV.closed, wkS] <;> (repeat' apply And.intro) <;> first | rfl) (by simp [leFT, leV, leOs, leO, leC, rho, AV.ren, AV.ren1, AV.un, AV.un1, AV.closed, wkS] <;> (repeat' apply And.intro) <;> first | rfl)) (H_F_R5_run_b0 _ _ h)
  · replace h := ite_f hb h
    refine Ok_runB env [1000000] rfl ?_
    exact Ok_bar_to (by kernel_rfl) rfl (less_at (by simp [leFT, leV, leOs, leO, leC, rho, AV.ren, AV.ren1, AV.un, AV.un1, AV.closed, wkS] <;> (repeat' apply And.intro) <;> first | rfl) (by simp [leFT, leV, leOs, leO, leC, rho, AV.ren, AV.ren1, AV.un, AV.un1, AV.closed, wkS] <;> (repeat' apply And.intro) <;> first | rfl)) (H_F_R5_run_b0 _ _ h)
/-- treemerge/treemergeref05.run -/
theorem H_F_R5_run_l0 (t0 : ByteArray) (t5 : Int) (r : Int) (h : F_R5_run_l0 t0 t5 = some r) : M_F_R5_run_l0 t0 t5 r :=
  F_R5_run_l0.partial_correctness (fun t0 t5 r => M_F_R5_run_l0 t0 t5 r) (fun F0 h0 => S_F_R5_run_l0 F0 h0) t0 t5 r h
def F_R5_run (a0 : ByteArray) (a1 : Int) : Option (Int) :=
  F_R5_run_l0 a0 a1
@[reducible] def M_F_R5_run (a0 : ByteArray) (a1 : Int) (r : Int) : Prop :=
  Fn Tryd.prog Gt 95 [(.str a0), (.int .i64 a1)] (.int .i64 r)
theorem E_F_R5_run (a0 : ByteArray) (a1 : Int) : F_R5_run a0 a1 = (
    F_R5_run_l0 a0 a1
    : Option (Int)) := F_R5_run.eq_def a0 a1
set_option maxHeartbeats 4000000 in
theorem S_F_R5_run  (a0 : ByteArray) (a1 : Int) (r : Int) (h : (
    F_R5_run_l0 a0 a1
    : Option (Int)) = some r) : M_F_R5_run a0 a1 r := by
  refine Fn_run (T := tt) (N := 20) (rs := [.tmp 4]) (fun vs w => by simp) Tryd.func95 rfl rfl rfl rfl (by kernel_rfl) (all_pure3 rfl) (closed3_pure _ rfl) ?_
  refine Ok_runB env [1000000] rfl ?_
  exact Ok_loop_to (by kernel_rfl) (less_at (by simp [leFT, leV, leOs, leO, leC, rho, AV.ren, AV.ren1, AV.un, AV.un1, AV.closed, wkS] <;> (repeat' apply And.intro) <;> first | rfl) (by simp [leFT, leV, leOs, leO, leC, rho, AV.ren, AV.ren1, AV.un, AV.un1, AV.closed, wkS] <;> (repeat' apply And.intro) <;> first | rfl)) (H_F_R5_run_l0 _ _ _ h)
/-- treemerge/treemergeref05.run -/
theorem H_F_R5_run (a0 : ByteArray) (a1 : Int) (r : Int) (h : F_R5_run a0 a1 = some r) : M_F_R5_run a0 a1 r :=
  S_F_R5_run a0 a1 r (by rw [E_F_R5_run] at h; exact h)
def F_R5_integer_l0 (t0 : ByteArray) (t3 : Int) (t4 : Int) : Option (Bool) :=
  if (decide (t4 < (t0.size : Int))) = true then
    sx t0 t4 >>= fun x2 =>
    F_R5_Digit (nofix x2) >>= fun x3 =>
    if (!x3) = true then
      some false
    else
      sx t0 t4 >>= fun x4 =>
      F_R5_integer_l0 (nofix t0) (IntKind.i64.wrap ((IntKind.i64.wrap ((IntKind.i64.wrap (t3 * (10 : Int))) + (IntKind.i64.wrap x4))) - (48 : Int))) (IntKind.i64.wrap (t4 + (1 : Int)))
  else
    some (decide (t3 ≤ (1000000000000 : Int)))
  partial_fixpoint
@[reducible] def M_F_R5_integer_l0 (t0 : ByteArray) (t3 : Int) (t4 : Int) (r : Bool) : Prop :=
  Ok Tryd.prog Gt tt 44 0 (Ret Tryd.prog [.tmp 2] (fun y H => Told Tryd.prog Gt H y (.bool r))) (.again (loopOf [] Tryd.f97 0).1 (loopOf [] Tryd.f97 0).2 (.n (.str t0) (.n .undef (.n (.int .i64 t3) .z .z) .z) (.n .undef (.n (.int .i64 t4) .z .z) .z)) 0 [])
theorem E_F_R5_integer_l0 (t0 : ByteArray) (t3 : Int) (t4 : Int) : F_R5_integer_l0 t0 t3 t4 = (
    if (decide (t4 < (t0.size : Int))) = true then
      sx t0 t4 >>= fun x2 =>
      F_R5_Digit x2 >>= fun x3 =>
      if (!x3) = true then
        some false
      else
        sx t0 t4 >>= fun x4 =>
        F_R5_integer_l0 t0 (IntKind.i64.wrap ((IntKind.i64.wrap ((IntKind.i64.wrap (t3 * (10 : Int))) + (IntKind.i64.wrap x4))) - (48 : Int))) (IntKind.i64.wrap (t4 + (1 : Int)))
    else
      some (decide (t3 ≤ (1000000000000 : Int)))
    : Option (Bool)) := F_R5_integer_l0.eq_def t0 t3 t4
set_option maxHeartbeats 4000000 in
theorem S_F_R5_integer_l0 (F_R5_integer_l0 : ByteArray → Int → Int → Option (Bool)) (H_F_R5_integer_l0 : ∀ (t0 : ByteArray) (t3 : Int) (t4 : Int) (r : Bool), F_R5_integer_l0 t0 t3 t4 = some r → M_F_R5_integer_l0 t0 t3 t4 r) (t0 : ByteArray) (t3 : Int) (t4 : Int) (r : Bool) (h : (
    if (decide (t4 < (t0.size : Int))) = true then
      sx t0 t4 >>= fun x2 =>
      F_R5_Digit x2 >>= fun x3 =>
      if (!x3) = true then
        some false
      else
        sx t0 t4 >>= fun x4 =>
        F_R5_integer_l0 t0 (IntKind.i64.wrap ((IntKind.i64.wrap ((IntKind.i64.wrap (t3 * (10 : Int))) + (IntKind.i64.wrap x4))) - (48 : Int))) (IntKind.i64.wrap (t4 + (1 : Int)))
    else
      some (decide (t3 ≤ (1000000000000 : Int)))
    : Option (Bool)) = some r) : M_F_R5_integer_l0 t0 t3 t4 r := by
  refine Ok_unroll ?_
  refine Ok_runB env [] rfl ?_
  refine Ok_cond (fun hb => ?_) (fun hb => ?_)
  · replace h := ite_t hb h
    refine Ok_runB env [] rfl ?_
    obtain ⟨x2, hx, h⟩ := bind_some h
    refine Ok_sxT env hx rfl rfl rfl rfl ?_
    refine Ok_runB env [] rfl ?_
    obtain ⟨x3, hx, h⟩ := bind_some h
    refine Ok_call (H_F_R5_Digit _ _ hx) ?_
    refine Ok_runB env [] rfl ?_
    refine Ok_cond (fun hb => ?_) (fun hb => ?_)
    · replace h := ite_t hb h
      refine Ok_runB env [] rfl ?_
      cases h
      exact Ok_fin env rfl rfl (told_eq rfl)
    · replace h := ite_f hb h
      refine Ok_runB env [] rfl ?_
      obtain ⟨x4, hx, h⟩ := bind_some h
      refine Ok_sxT env hx rfl rfl rfl rfl ?_
      refine Ok_runB env [] rfl ?_
      exact Ok_again_to (by kernel_rfl) (less_at (by simp [leFT, leV, leOs, leO, leC, rho, AV.ren, AV.ren1, AV.un, AV.un1, AV.closed, wkS] <;> (repeat' apply And.intro) <;> first | rfl) (by simp [leFT, leV, leOs, leO, leC, rho, AV.ren, AV.ren1, AV.un, AV.un1, AV.closed, wkS] <;> (repeat' apply And.intro) <;> first | rfl)) (H_F_R5_integer_l0 _ _ _ _ h)
  · replace h := ite_f hb h
    refine Ok_runB env [] rfl ?_
    cases h
    exact Ok_fin env rfl rfl (told_eq rfl)
/-- treemerge/treemergeref05.integer -/
theorem H_F_R5_integer_l0 (t0 : ByteArray) (t3 : Int) (t4 : Int) (r : Bool) (h : F_R5_integer_l0 t0 t3 t4 = some r) : M_F_R5_integer_l0 t0 t3 t4 r :=
  F_R5_integer_l0.partial_correctness (fun t0 t3 t4 r => M_F_R5_integer_l0 t0 t3 t4 r) (fun F0 h0 => S_F_R5_integer_l0 F0 h0) t0 t3 t4 r h
def F_R5_integer (a0 : ByteArray) : Option (Bool) :=
  if (decide ((a0.size : Int) = (0 : Int))) = true then
    some false
  else
    if (decide ((13 : Int) < (a0.size : Int))) = true then
      some false
    else
      if (decide ((1 : Int) < (a0.size : Int))) = true then
        sx a0 (0 : Int) >>= fun x1 =>
        if (decide (x1 = (48 : Int))) = true then
          some false
        else
          F_R5_integer_l0 a0 (0 : Int) (0 : Int)
      else
        F_R5_integer_l0 a0 (0 : Int) (0 : Int)
@[reducible] def M_F_R5_integer (a0 : ByteArray) (r : Bool) : Prop :=
  Fn Tryd.prog Gt 97 [(.str a0)] (.bool r)
theorem E_F_R5_integer (a0 : ByteArray) : F_R5_integer a0 = (
    if (decide ((a0.size : Int) = (0 : Int))) = true then
      some false
    else
      if (decide ((13 : Int) < (a0.size : Int))) = true then
        some false
      else
        if (decide ((1 : Int) < (a0.size : Int))) = true then
          sx a0 (0 : Int) >>= fun x1 =>
          if (decide (x1 = (48 : Int))) = true then
            some false
          else
            F_R5_integer_l0 a0 (0 : Int) (0 : Int)
        else
          F_R5_integer_l0 a0 (0 : Int) (0 : Int)
    : Option (Bool)) := F_R5_integer.eq_def a0
set_option maxHeartbeats 4000000 in
theorem S_F_R5_integer  (a0 : ByteArray) (r : Bool) (h : (
    if (decide ((a0.size : Int) = (0 : Int))) = true then
      some false
    else
      if (decide ((13 : Int) < (a0.size : Int))) = true then
        some false
      else
        if (decide ((1 : Int) < (a0.size : Int))) = true then
          sx a0 (0 : Int) >>= fun x1 =>
          if (decide (x1 = (48 : Int))) = true then
            some false
          else
            F_R5_integer_l0 a0 (0 : Int) (0 : Int)
        else
          F_R5_integer_l0 a0 (0 : Int) (0 : Int)
    : Option (Bool)) = some r) : M_F_R5_integer a0 r := by
  refine Fn_run (T := tt) (N := 44) (rs := [.tmp 2]) (fun vs w => by simp) Tryd.func97 rfl rfl rfl rfl (by kernel_rfl) (all_pure3 rfl) (closed3_pure _ rfl) ?_
  refine Ok_runB env [] rfl ?_
  refine Ok_guard_f (fun hb => ?_) (fun hb => ?_)
  · replace h := ite_f hb h
    refine Ok_runB env [] rfl ?_
    refine Ok_guard_f (fun hb => ?_) (fun hb => ?_)
    · replace h := ite_f hb h
      refine Ok_runB env [] rfl ?_
      refine Ok_guard_t (fun hb => ?_) (fun hb => ?_)
      · replace h := ite_t hb h
        refine Ok_runB env [] rfl ?_
        obtain ⟨x1, hx, h⟩ := bind_some h
        refine Ok_sxT env hx rfl rfl rfl rfl ?_
        refine Ok_runB env [] rfl ?_
        refine Ok_cond (fun hb => ?_) (fun hb => ?_)
        · replace h := ite_t hb h
          refine Ok_runB env [] rfl ?_
          cases h
          exact Ok_fin env rfl rfl (told_eq rfl)
        · replace h := ite_f hb h
          refine Ok_runB env [] rfl ?_
          exact Ok_loop_to (by kernel_rfl) (less_at (by simp [leFT, leV, leOs, leO, leC, rho, AV.ren, AV.ren1, AV.un, AV.un1, AV.closed, wkS] <;> (repeat' apply And.intro) <;> first | rfl) (by simp [leFT, leV, leOs, leO, leC, rho, AV.ren, AV.ren1, AV.un, AV.un1, AV.closed, wkS] <;> (repeat' apply And.intro) <;> first | rfl)) (H_F_R5_integer_l0 _ _ _ _ h)
      · replace h := ite_f hb h
        refine Ok_runB env [] rfl ?_
        exact Ok_loop_to (by kernel_rfl) (less_at (by simp [leFT, leV, leOs, leO, leC, rho, AV.ren, AV.ren1, AV.un, AV.un1, AV.closed, wkS] <;> (repeat' apply And.intro) <;> first | rfl) (by simp [leFT, leV, leOs, leO, leC, rho, AV.ren, AV.ren1, AV.un, AV.un1, AV.closed, wkS] <;> (repeat' apply And.intro) <;> first | rfl)) (H_F_R5_integer_l0 _ _ _ _ h)
    · replace h := ite_t hb h
      refine Ok_runB env [] rfl ?_
      cases h
      exact Ok_fin env rfl rfl (told_eq rfl)
  · replace h := ite_t hb h
    refine Ok_runB env [] rfl ?_
    cases h
    exact Ok_fin env rfl rfl (told_eq rfl)
/-- treemerge/treemergeref05.integer -/
theorem H_F_R5_integer (a0 : ByteArray) (r : Bool) (h : F_R5_integer a0 = some r) : M_F_R5_integer a0 r :=
  S_F_R5_integer a0 r (by rw [E_F_R5_integer] at h; exact h)
def F_R5_mark_l0 (t0 : Int) (t3 : ByteArray) (t4 : Int) : Option (Bool) :=
  if (decide (t4 < (t3.size : Int))) = true then
    sx t3 t4 >>= fun x1 =>
    if (decide (x1 = t0)) = true then
      some true
    else
      F_R5_mark_l0 (nofix t0) (nofix t3) (IntKind.i64.wrap (t4 + (1 : Int)))
  else
    some false
  partial_fixpoint
@[reducible] def M_F_R5_mark_l0 (t0 : Int) (t3 : ByteArray) (t4 : Int) (r : Bool) : Prop :=
  Ok Tryd.prog Gt tt 16 0 (Ret Tryd.prog [.tmp 2] (fun y H => Told Tryd.prog Gt H y (.bool r))) (.again (loopOf [] Tryd.f98 0).1 (loopOf [] Tryd.f98 0).2 (.n (.int .u8 t0) (.n .undef (.n (.str t3) .z .z) .z) (.n .undef (.n (.int .i64 t4) .z .z) .z)) 0 [])
theorem E_F_R5_mark_l0 (t0 : Int) (t3 : ByteArray) (t4 : Int) : F_R5_mark_l0 t0 t3 t4 = (
    if (decide (t4 < (t3.size : Int))) = true then
      sx t3 t4 >>= fun x1 =>
      if (decide (x1 = t0)) = true then
        some true
      else
        F_R5_mark_l0 t0 t3 (IntKind.i64.wrap (t4 + (1 : Int)))
    else
      some false
    : Option (Bool)) := F_R5_mark_l0.eq_def t0 t3 t4
set_option maxHeartbeats 4000000 in
theorem S_F_R5_mark_l0 (F_R5_mark_l0 : Int → ByteArray → Int → Option (Bool)) (H_F_R5_mark_l0 : ∀ (t0 : Int) (t3 : ByteArray) (t4 : Int) (r : Bool), F_R5_mark_l0 t0 t3 t4 = some r → M_F_R5_mark_l0 t0 t3 t4 r) (t0 : Int) (t3 : ByteArray) (t4 : Int) (r : Bool) (h : (
    if (decide (t4 < (t3.size : Int))) = true then
      sx t3 t4 >>= fun x1 =>
      if (decide (x1 = t0)) = true then
        some true
      else
        F_R5_mark_l0 t0 t3 (IntKind.i64.wrap (t4 + (1 : Int)))
    else
      some false
    : Option (Bool)) = some r) : M_F_R5_mark_l0 t0 t3 t4 r := by
  refine Ok_unroll ?_
  refine Ok_runB env [] rfl ?_
  refine Ok_cond (fun hb => ?_) (fun hb => ?_)
  · replace h := ite_t hb h
    refine Ok_runB env [] rfl ?_
    obtain ⟨x1, hx, h⟩ := bind_some h
    refine Ok_sxT env hx rfl rfl rfl rfl ?_
    refine Ok_runB env [] rfl ?_
    refine Ok_cond (fun hb => ?_) (fun hb => ?_)
    · replace h := ite_t hb h
      refine Ok_runB env [] rfl ?_
      cases h
      exact Ok_fin env rfl rfl (told_eq rfl)
    · replace h := ite_f hb h
      refine Ok_runB env [] rfl ?_
      exact Ok_again_to (by kernel_rfl) (less_at (by simp [leFT, leV, leOs, leO, leC, rho, AV.ren, AV.ren1, AV.un, AV.un1, AV.closed, wkS] <;> (repeat' apply And.intro) <;> first | rfl) (by simp [leFT, leV, leOs, leO, leC, rho, AV.ren, AV.ren1, AV.un, AV.un1, AV.closed, wkS] <;> (repeat' apply And.intro) <;> first | rfl)) (H_F_R5_mark_l0 _ _ _ _ h)
  · replace h := ite_f hb h
    refine Ok_runB env [] rfl ?_
    cases h
    exact Ok_fin env rfl rfl (told_eq rfl)
/-- treemerge/treemergeref05.mark -/
theorem H_F_R5_mark_l0 (t0 : Int) (t3 : ByteArray) (t4 : Int) (r : Bool) (h : F_R5_mark_l0 t0 t3 t4 = some r) : M_F_R5_mark_l0 t0 t3 t4 r :=
  F_R5_mark_l0.partial_correctness (fun t0 t3 t4 r => M_F_R5_mark_l0 t0 t3 t4 r) (fun F0 h0 => S_F_R5_mark_l0 F0 h0) t0 t3 t4 r h
def F_R5_mark (a0 : Int) : Option (Bool) :=
  F_R5_mark_l0 a0 (⟨#[40, 41, 123, 125, 44, 59, 58, 46, 61, 60, 43, 45, 42, 47, 33, 38, 124]⟩ : ByteArray) (0 : Int)
@[reducible] def M_F_R5_mark (a0 : Int) (r : Bool) : Prop :=
  Fn Tryd.prog Gt 98 [(.int .u8 a0)] (.bool r)
theorem E_F_R5_mark (a0 : Int) : F_R5_mark a0 = (
    F_R5_mark_l0 a0 (⟨#[40, 41, 123, 125, 44, 59, 58, 46, 61, 60, 43, 45, 42, 47, 33, 38, 124]⟩ : ByteArray) (0 : Int)
    : Option (Bool)) := F_R5_mark.eq_def a0
set_option maxHeartbeats 4000000 in
theorem S_F_R5_mark  (a0 : Int) (r : Bool) (h : (
    F_R5_mark_l0 a0 (⟨#[40, 41, 123, 125, 44, 59, 58, 46, 61, 60, 43, 45, 42, 47, 33, 38, 124]⟩ : ByteArray) (0 : Int)
    : Option (Bool)) = some r) : M_F_R5_mark a0 r := by
  refine Fn_run (T := tt) (N := 16) (rs := [.tmp 2]) (fun vs w => by simp) Tryd.func98 rfl rfl rfl rfl (by kernel_rfl) (all_pure3 rfl) (closed3_pure _ rfl) ?_
  refine Ok_runB env [] rfl ?_
  exact Ok_loop_to (by kernel_rfl) (less_at (by simp [leFT, leV, leOs, leO, leC, rho, AV.ren, AV.ren1, AV.un, AV.un1, AV.closed, wkS] <;> (repeat' apply And.intro) <;> first | rfl) (by simp [leFT, leV, leOs, leO, leC, rho, AV.ren, AV.ren1, AV.un, AV.un1, AV.closed, wkS] <;> (repeat' apply And.intro) <;> first | rfl)) (H_F_R5_mark_l0 _ _ _ _ h)
/-- treemerge/treemergeref05.mark -/
theorem H_F_R5_mark (a0 : Int) (r : Bool) (h : F_R5_mark a0 = some r) : M_F_R5_mark a0 r :=
  S_F_R5_mark a0 r (by rw [E_F_R5_mark] at h; exact h)
def F_R5_next_t79 (t1 : Int) : Option (Int × Int) :=
  some ((IntKind.i64.wrap (t1 + (1 : Int))), (3 : Int))
@[reducible] def M_F_R5_next_t79 (t1 : Int) (r : Int × Int) : Prop :=
  Ok Tryd.prog Gt tt 84 0 (Ret Tryd.prog [.tmp 4, .tmp 5] (fun y H => Told Tryd.prog Gt H y (.tup [(.int .i64 r.1), (.int .i64 r.2)]))) (.go [] (testOf [79] Tryd.f73 79) [] (.n .undef (.n (.int .i64 t1) .z .z) .z) 0 [])
theorem E_F_R5_next_t79 (t1 : Int) : F_R5_next_t79 t1 = (
    some ((IntKind.i64.wrap (t1 + (1 : Int))), (3 : Int))
    : Option (Int × Int)) := F_R5_next_t79.eq_def t1
set_option maxHeartbeats 4000000 in
theorem S_F_R5_next_t79  (t1 : Int) (r : Int × Int) (h : (
    some ((IntKind.i64.wrap (t1 + (1 : Int))), (3 : Int))
    : Option (Int × Int)) = some r) : M_F_R5_next_t79 t1 r := by
  refine Ok_runB env [79] rfl ?_
  cases h
  exact Ok_fin env rfl rfl (told_eq rfl)
/-- treemerge/treemergeref05.next -/
theorem H_F_R5_next_t79 (t1 : Int) (r : Int × Int) (h : F_R5_next_t79 t1 = some r) : M_F_R5_next_t79 t1 r :=
  S_F_R5_next_t79 t1 r (by rw [E_F_R5_next_t79] at h; exact h)
def F_R5_next (a0 : ByteArray) (a1 : Int) : Option (Int × Int) :=
  if (decide ((a0.size : Int) ≤ a1)) = true then
    some (a1, (0 : Int))
  else
    sx a0 a1 >>= fun x1 =>
    F_R5_Letter x1 >>= fun x2 =>
    if x2 = true then
      F_R5_run a0 a1 >>= fun x3 =>
      sx a0 a1 >>= fun x4 =>
      F_R5_Digit x4 >>= fun x5 =>
      if x5 = true then
        ssub a0 a1 x3 >>= fun x6 =>
        F_R5_integer x6 >>= fun x7 =>
        if x7 = true then
          some (x3, (2 : Int))
        else
          some (a1, (0 : Int))
      else
        if (decide ((IntKind.i64.wrap (x3 - a1)) ≤ (32 : Int))) = true then
          some (x3, (1 : Int))
        else
          some (a1, (0 : Int))
    else
      sx a0 a1 >>= fun x8 =>
      F_R5_mark x8 >>= fun x9 =>
      if (!x9) = true then
        some (a1, (0 : Int))
      else
        sx a0 a1 >>= fun x10 =>
        if (decide (x10 = (47 : Int))) = true then
          if (decide ((IntKind.i64.wrap (a1 + (1 : Int))) < (a0.size : Int))) = true then
            sx a0 (IntKind.i64.wrap (a1 + (1 : Int))) >>= fun x11 =>
            if (decide (x11 = (47 : Int))) = true then
              some (a1, (0 : Int))
            else
              sx a0 a1 >>= fun x12 =>
              if (decide (x12 = (61 : Int))) = true then
                if (decide ((IntKind.i64.wrap (a1 + (1 : Int))) < (a0.size : Int))) = true then
                  sx a0 (IntKind.i64.wrap (a1 + (1 : Int))) >>= fun x13 =>
                  if (decide (x13 = (61 : Int))) = true then
                    some ((IntKind.i64.wrap (a1 + (2 : Int))), (3 : Int))
                  else
                    F_R5_next_t79 a1
                else
                  F_R5_next_t79 a1
              else
                F_R5_next_t79 a1
          else
            sx a0 a1 >>= fun x14 =>
            if (decide (x14 = (61 : Int))) = true then
              if (decide ((IntKind.i64.wrap (a1 + (1 : Int))) < (a0.size : Int))) = true then
                sx a0 (IntKind.i64.wrap (a1 + (1 : Int))) >>= fun x15 =>
                if (decide (x15 = (61 : Int))) = true then
                  some ((IntKind.i64.wrap (a1 + (2 : Int))), (3 : Int))
                else
                  F_R5_next_t79 a1
              else
                F_R5_next_t79 a1
            else
              F_R5_next_t79 a1
        else
          sx a0 a1 >>= fun x16 =>
          if (decide (x16 = (61 : Int))) = true then
            if (decide ((IntKind.i64.wrap (a1 + (1 : Int))) < (a0.size : Int))) = true then
              sx a0 (IntKind.i64.wrap (a1 + (1 : Int))) >>= fun x17 =>
              if (decide (x17 = (61 : Int))) = true then
                some ((IntKind.i64.wrap (a1 + (2 : Int))), (3 : Int))
              else
                F_R5_next_t79 a1
            else
              F_R5_next_t79 a1
          else
            F_R5_next_t79 a1
@[reducible] def M_F_R5_next (a0 : ByteArray) (a1 : Int) (r : Int × Int) : Prop :=
  Fn Tryd.prog Gt 73 [(.str a0), (.int .i64 a1)] (.tup [(.int .i64 r.1), (.int .i64 r.2)])
theorem E_F_R5_next (a0 : ByteArray) (a1 : Int) : F_R5_next a0 a1 = (
    if (decide ((a0.size : Int) ≤ a1)) = true then
      some (a1, (0 : Int))
    else
      sx a0 a1 >>= fun x1 =>
      F_R5_Letter x1 >>= fun x2 =>
      if x2 = true then
        F_R5_run a0 a1 >>= fun x3 =>
        sx a0 a1 >>= fun x4 =>
        F_R5_Digit x4 >>= fun x5 =>
        if x5 = true then
          ssub a0 a1 x3 >>= fun x6 =>
          F_R5_integer x6 >>= fun x7 =>
          if x7 = true then
            some (x3, (2 : Int))
          else
            some (a1, (0 : Int))
        else
          if (decide ((IntKind.i64.wrap (x3 - a1)) ≤ (32 : Int))) = true then
            some (x3, (1 : Int))
          else
            some (a1, (0 : Int))
      else
        sx a0 a1 >>= fun x8 =>
        F_R5_mark x8 >>= fun x9 =>
        if (!x9) = true then
          some (a1, (0 : Int))
        else
          sx a0 a1 >>= fun x10 =>
          if (decide (x10 = (47 : Int))) = true then
            if (decide ((IntKind.i64.wrap (a1 + (1 : Int))) < (a0.size : Int))) = true then
              sx a0 (IntKind.i64.wrap (a1 + (1 : Int))) >>= fun x11 =>
              if (decide (x11 = (47 : Int))) = true then
                some (a1, (0 : Int))
              else
                sx a0 a1 >>= fun x12 =>
                if (decide (x12 = (61 : Int))) = true then
                  if (decide ((IntKind.i64.wrap (a1 + (1 : Int))) < (a0.size : Int))) = true then
                    sx a0 (IntKind.i64.wrap (a1 + (1 : Int))) >>= fun x13 =>
                    if (decide (x13 = (61 : Int))) = true then
                      some ((IntKind.i64.wrap (a1 + (2 : Int))), (3 : Int))
                    else
                      F_R5_next_t79 a1
                  else
                    F_R5_next_t79 a1
                else
                  F_R5_next_t79 a1
            else
              sx a0 a1 >>= fun x14 =>
              if (decide (x14 = (61 : Int))) = true then
                if (decide ((IntKind.i64.wrap (a1 + (1 : Int))) < (a0.size : Int))) = true then
                  sx a0 (IntKind.i64.wrap (a1 + (1 : Int))) >>= fun x15 =>
                  if (decide (x15 = (61 : Int))) = true then
                    some ((IntKind.i64.wrap (a1 + (2 : Int))), (3 : Int))
                  else
                    F_R5_next_t79 a1
                else
                  F_R5_next_t79 a1
              else
                F_R5_next_t79 a1
          else
            sx a0 a1 >>= fun x16 =>
            if (decide (x16 = (61 : Int))) = true then
              if (decide ((IntKind.i64.wrap (a1 + (1 : Int))) < (a0.size : Int))) = true then
                sx a0 (IntKind.i64.wrap (a1 + (1 : Int))) >>= fun x17 =>
                if (decide (x17 = (61 : Int))) = true then
                  some ((IntKind.i64.wrap (a1 + (2 : Int))), (3 : Int))
                else
                  F_R5_next_t79 a1
              else
                F_R5_next_t79 a1
            else
              F_R5_next_t79 a1
    : Option (Int × Int)) := F_R5_next.eq_def a0 a1
set_option maxHeartbeats 4000000 in
theorem S_F_R5_next  (a0 : ByteArray) (a1 : Int) (r : Int × Int) (h : (
    if (decide ((a0.size : Int) ≤ a1)) = true then
      some (a1, (0 : Int))
    else
      sx a0 a1 >>= fun x1 =>
      F_R5_Letter x1 >>= fun x2 =>
      if x2 = true then
        F_R5_run a0 a1 >>= fun x3 =>
        sx a0 a1 >>= fun x4 =>
        F_R5_Digit x4 >>= fun x5 =>
        if x5 = true then
          ssub a0 a1 x3 >>= fun x6 =>
          F_R5_integer x6 >>= fun x7 =>
          if x7 = true then
            some (x3, (2 : Int))
          else
            some (a1, (0 : Int))
        else
          if (decide ((IntKind.i64.wrap (x3 - a1)) ≤ (32 : Int))) = true then
            some (x3, (1 : Int))
          else
            some (a1, (0 : Int))
      else
        sx a0 a1 >>= fun x8 =>
        F_R5_mark x8 >>= fun x9 =>
        if (!x9) = true then
          some (a1, (0 : Int))
        else
          sx a0 a1 >>= fun x10 =>
          if (decide (x10 = (47 : Int))) = true then
            if (decide ((IntKind.i64.wrap (a1 + (1 : Int))) < (a0.size : Int))) = true then
              sx a0 (IntKind.i64.wrap (a1 + (1 : Int))) >>= fun x11 =>
              if (decide (x11 = (47 : Int))) = true then
                some (a1, (0 : Int))
              else
                sx a0 a1 >>= fun x12 =>
                if (decide (x12 = (61 : Int))) = true then
                  if (decide ((IntKind.i64.wrap (a1 + (1 : Int))) < (a0.size : Int))) = true then
                    sx a0 (IntKind.i64.wrap (a1 + (1 : Int))) >>= fun x13 =>
                    if (decide (x13 = (61 : Int))) = true then
                      some ((IntKind.i64.wrap (a1 + (2 : Int))), (3 : Int))
                    else
                      F_R5_next_t79 a1
                  else
                    F_R5_next_t79 a1
                else
                  F_R5_next_t79 a1
            else
              sx a0 a1 >>= fun x14 =>
              if (decide (x14 = (61 : Int))) = true then
                if (decide ((IntKind.i64.wrap (a1 + (1 : Int))) < (a0.size : Int))) = true then
                  sx a0 (IntKind.i64.wrap (a1 + (1 : Int))) >>= fun x15 =>
                  if (decide (x15 = (61 : Int))) = true then
                    some ((IntKind.i64.wrap (a1 + (2 : Int))), (3 : Int))
                  else
                    F_R5_next_t79 a1
                else
                  F_R5_next_t79 a1
              else
                F_R5_next_t79 a1
          else
            sx a0 a1 >>= fun x16 =>
            if (decide (x16 = (61 : Int))) = true then
              if (decide ((IntKind.i64.wrap (a1 + (1 : Int))) < (a0.size : Int))) = true then
                sx a0 (IntKind.i64.wrap (a1 + (1 : Int))) >>= fun x17 =>
                if (decide (x17 = (61 : Int))) = true then
                  some ((IntKind.i64.wrap (a1 + (2 : Int))), (3 : Int))
                else
                  F_R5_next_t79 a1
              else
                F_R5_next_t79 a1
            else
              F_R5_next_t79 a1
    : Option (Int × Int)) = some r) : M_F_R5_next a0 a1 r := by
  refine Fn_run (T := tt) (N := 84) (rs := [.tmp 4, .tmp 5]) (fun vs w => by simp) Tryd.func73 rfl rfl rfl rfl (by kernel_rfl) (all_pure3 rfl) (closed3_pure _ rfl) ?_
  refine Ok_runB env [79] rfl ?_
  refine Ok_cond (fun hb => ?_) (fun hb => ?_)
  · replace h := ite_t hb h
    refine Ok_runB env [79] rfl ?_
    cases h
    exact Ok_fin env rfl rfl (told_eq rfl)
  · replace h := ite_f hb h
    refine Ok_runB env [79] rfl ?_
    obtain ⟨x1, hx, h⟩ := bind_some h
    refine Ok_sxT env hx rfl rfl rfl rfl ?_
    refine Ok_runB env [79] rfl ?_
    obtain ⟨x2, hx, h⟩ := bind_some h
    refine Ok_call (H_F_R5_Letter _ _ hx) ?_
    refine Ok_runB env [79] rfl ?_
    refine Ok_cond (fun hb => ?_) (fun hb => ?_)
    · replace h := ite_t hb h
      refine Ok_runB env [79] rfl ?_
      obtain ⟨x3, hx, h⟩ := bind_some h
      refine Ok_call (H_F_R5_run _ _ _ hx) ?_
      refine Ok_runB env [79] rfl ?_
      obtain ⟨x4, hx, h⟩ := bind_some h
      refine Ok_sxT env hx rfl rfl rfl rfl ?_
      refine Ok_runB env [79] rfl ?_
      obtain ⟨x5, hx, h⟩ := bind_some h
      refine Ok_call (H_F_R5_Digit _ _ hx) ?_
      refine Ok_runB env [79] rfl ?_
      refine Ok_cond (fun hb => ?_) (fun hb => ?_)
      · replace h := ite_t hb h
        refine Ok_runB env [79] rfl ?_
        obtain ⟨x6, hx, h⟩ := bind_some h
        refine Ok_ssubT env hx rfl rfl rfl rfl rfl ?_
        refine Ok_runB env [79] rfl ?_
        obtain ⟨x7, hx, h⟩ := bind_some h
        refine Ok_call (H_F_R5_integer _ _ hx) ?_
        refine Ok_runB env [79] rfl ?_
        refine Ok_cond (fun hb => ?_) (fun hb => ?_)
        · replace h := ite_t hb h
          refine Ok_runB env [79] rfl ?_
          cases h
          exact Ok_fin env rfl rfl (told_eq rfl)
        · replace h := ite_f hb h
          refine Ok_runB env [79] rfl ?_
          cases h
          exact Ok_fin env rfl rfl (told_eq rfl)
      · replace h := ite_f hb h
        refine Ok_runB env [79] rfl ?_
        refine Ok_cond (fun hb => ?_) (fun hb => ?_)
        · replace h := ite_t hb h
          refine Ok_runB env [79] rfl ?_
          cases h
          exact Ok_fin env rfl rfl (told_eq rfl)
        · replace h := ite_f hb h
          refine Ok_runB env [79] rfl ?_
          cases h
          exact Ok_fin env rfl rfl (told_eq rfl)
    · replace h := ite_f hb h
      refine Ok_runB env [79] rfl ?_
      obtain ⟨x8, hx, h⟩ := bind_some h
      refine Ok_sxT env hx rfl rfl rfl rfl ?_
      refine Ok_runB env [79] rfl ?_
      obtain ⟨x9, hx, h⟩ := bind_some h
      refine Ok_call (H_F_R5_mark _ _ hx) ?_
      refine Ok_runB env [79] rfl ?_
      refine Ok_guard_f (fun hb => ?_) (fun hb => ?_)
      · replace h := ite_f hb h
        refine Ok_runB env [79] rfl ?_
        obtain ⟨x10, hx, h⟩ := bind_some h
        refine Ok_sxT env hx rfl rfl rfl rfl ?_
        refine Ok_runB env [79] rfl ?_
        refine Ok_guard_t (fun hb => ?_) (fun hb => ?_)
        · replace h := ite_t hb h
          refine Ok_runB env [79] rfl ?_
          refine Ok_guard_t (fun hb => ?_) (fun hb => ?_)
          · replace h := ite_t hb h
            refine Ok_runB env [79] rfl ?_
            obtain ⟨x11, hx, h⟩ := bind_some h
            refine Ok_sxT env hx rfl rfl rfl rfl ?_
            refine Ok_runB env [79] rfl ?_
            refine Ok_cond (fun hb => ?_) (fun hb => ?_)
            · replace h := ite_t hb h
              refine Ok_runB env [79] rfl ?_
              cases h
              exact Ok_fin env rfl rfl (told_eq rfl)
            · replace h := ite_f hb h
              refine Ok_runB env [79] rfl ?_
              obtain ⟨x12, hx, h⟩ := bind_some h
              refine Ok_sxT env hx rfl rfl rfl rfl ?_
              refine Ok_runB env [79] rfl ?_
              refine Ok_guard_t (fun hb => ?_) (fun hb => ?_)
              · replace h := ite_t hb h
                refine Ok_runB env [79] rfl ?_
                refine Ok_guard_t (fun hb => ?_) (fun hb => ?_)
                · replace h := ite_t hb h
                  refine Ok_runB env [79] rfl ?_
                  obtain ⟨x13, hx, h⟩ := bind_some h
                  refine Ok_sxT env hx rfl rfl rfl rfl ?_
                  refine Ok_runB env [79] rfl ?_
                  refine Ok_cond (fun hb => ?_) (fun hb => ?_)
                  · replace h := ite_t hb h
                    refine Ok_runB env [79] rfl ?_
                    cases h
                    exact Ok_fin env rfl rfl (told_eq rfl)
                  · replace h := ite_f hb h
                    refine Ok_runB env [79] rfl ?_
                    exact Ok_bar_to (by kernel_rfl) rfl (less_at (by simp [leFT, leV, leOs, leO, leC, rho, AV.ren, AV.ren1, AV.un, AV.un1, AV.closed, wkS] <;> (repeat' apply And.intro) <;> first | rfl) (by simp [leFT, leV, leOs, leO, leC, rho, AV.ren, AV.ren1, AV.un, AV.un1, AV.closed, wkS] <;> (repeat' apply And.intro) <;> first | rfl)) (H_F_R5_next_t79 _ _ h)
                · replace h := ite_f hb h
                  refine Ok_runB env [79] rfl ?_
                  exact Ok_bar_to (by kernel_rfl) rfl (less_at (by simp [leFT, leV, leOs, leO, leC, rho, AV.ren, AV.ren1, AV.un, AV.un1, AV.closed, wkS] <;> (repeat' apply And.intro) <;> first | rfl) (by simp [leFT, leV, leOs, leO, leC, rho, AV.ren, AV.ren1, AV.un, AV.un1, AV.closed, wkS] <;> (repeat' apply And.intro) <;> first | rfl)) (H_F_R5_next_t79 _ _ h)
              · replace h := ite_f hb h
                refine Ok_runB env [79] rfl ?_
                exact Ok_bar_to (by kernel_rfl) rfl (less_at (by simp [leFT, leV, leOs, leO, leC, rho, AV.ren, AV.ren1, AV.un, AV.un1, AV.closed, wkS] <;> (repeat' apply And.intro) <;> first | rfl) (by simp [leFT, leV, leOs, leO, leC, rho, AV.ren, AV.ren1, AV.un, AV.un1, AV.closed, wkS] <;> (repeat' apply And.intro) <;> first | rfl)) (H_F_R5_next_t79 _ _ h)
          · replace h := ite_f hb h
            refine Ok_runB env [79] rfl ?_
            obtain ⟨x14, hx, h⟩ := bind_some h
            refine Ok_sxT env hx rfl rfl rfl rfl ?_
            refine Ok_runB env [79] rfl ?_
            refine Ok_guard_t (fun hb => ?_) (fun hb => ?_)
            · replace h := ite_t hb h
              refine Ok_runB env [79] rfl ?_
              refine Ok_guard_t (fun hb => ?_) (fun hb => ?_)
              · replace h := ite_t hb h
                refine Ok_runB env [79] rfl ?_
                obtain ⟨x15, hx, h⟩ := bind_some h
                refine Ok_sxT env hx rfl rfl rfl rfl ?_
                refine Ok_runB env [79] rfl ?_
                refine Ok_cond (fun hb => ?_) (fun hb => ?_)
                · replace h := ite_t hb h
                  refine Ok_runB env [79] rfl ?_
                  cases h
                  exact Ok_fin env rfl rfl (told_eq rfl)
                · replace h := ite_f hb h
                  refine Ok_runB env [79] rfl ?_
                  exact Ok_bar_to (by kernel_rfl) rfl (less_at (by simp [leFT, leV, leOs, leO, leC, rho, AV.ren, AV.ren1, AV.un, AV.un1, AV.closed, wkS] <;> (repeat' apply And.intro) <;> first | rfl) (by simp [leFT, leV, leOs, leO, leC, rho, AV.ren, AV.ren1, AV.un, AV.un1, AV.closed, wkS] <;> (repeat' apply And.intro) <;> first | rfl)) (H_F_R5_next_t79 _ _ h)
              · replace h := ite_f hb h
                refine Ok_runB env [79] rfl ?_
                exact Ok_bar_to (by kernel_rfl) rfl (less_at (by simp [leFT, leV, leOs, leO, leC, rho, AV.ren, AV.ren1, AV.un, AV.un1, AV.closed, wkS] <;> (repeat' apply And.intro) <;> first | rfl) (by simp [leFT, leV, leOs, leO, leC, rho, AV.ren, AV.ren1, AV.un, AV.un1, AV.closed, wkS] <;> (repeat' apply And.intro) <;> first | rfl)) (H_F_R5_next_t79 _ _ h)
            · replace h := ite_f hb h
              refine Ok_runB env [79] rfl ?_
              exact Ok_bar_to (by kernel_rfl) rfl (less_at (by simp [leFT, leV, leOs, leO, leC, rho, AV.ren, AV.ren1, AV.un, AV.un1, AV.closed, wkS] <;> (repeat' apply And.intro) <;> first | rfl) (by simp [leFT, leV, leOs, leO, leC, rho, AV.ren, AV.ren1, AV.un, AV.un1, AV.closed, wkS] <;> (repeat' apply And.intro) <;> first | rfl)) (H_F_R5_next_t79 _ _ h)
        · replace h := ite_f hb h
          refine Ok_runB env [79] rfl ?_
          obtain ⟨x16, hx, h⟩ := bind_some h
          refine Ok_sxT env hx rfl rfl rfl rfl ?_
          refine Ok_runB env [79] rfl ?_
          refine Ok_guard_t (fun hb => ?_) (fun hb => ?_)
          · replace h := ite_t hb h
            refine Ok_runB env [79] rfl ?_
            refine Ok_guard_t (fun hb => ?_) (fun hb => ?_)
            · replace h := ite_t hb h
              refine Ok_runB env [79] rfl ?_
              obtain ⟨x17, hx, h⟩ := bind_some h
              refine Ok_sxT env hx rfl rfl rfl rfl ?_
              refine Ok_runB env [79] rfl ?_
              refine Ok_cond (fun hb => ?_) (fun hb => ?_)
              · replace h := ite_t hb h
                refine Ok_runB env [79] rfl ?_
                cases h
                exact Ok_fin env rfl rfl (told_eq rfl)
              · replace h := ite_f hb h
                refine Ok_runB env [79] rfl ?_
                exact Ok_bar_to (by kernel_rfl) rfl (less_at (by simp [leFT, leV, leOs, leO, leC, rho, AV.ren, AV.ren1, AV.un, AV.un1, AV.closed, wkS] <;> (repeat' apply And.intro) <;> first | rfl) (by simp [leFT, leV, leOs, leO, leC, rho, AV.ren, AV.ren1, AV.un, AV.un1, AV.closed, wkS] <;> (repeat' apply And.intro) <;> first | rfl)) (H_F_R5_next_t79 _ _ h)
            · replace h := ite_f hb h
              refine Ok_runB env [79] rfl ?_
              exact Ok_bar_to (by kernel_rfl) rfl (less_at (by simp [leFT, leV, leOs, leO, leC, rho, AV.ren, AV.ren1, AV.un, AV.un1, AV.closed, wkS] <;> (repeat' apply And.intro) <;> first | rfl) (by simp [leFT, leV, leOs, leO, leC, rho, AV.ren, AV.ren1, AV.un, AV.un1, AV.closed, wkS] <;> (repeat' apply And.intro) <;> first | rfl)) (H_F_R5_next_t79 _ _ h)
          · replace h := ite_f hb h
            refine Ok_runB env [79] rfl ?_
            exact Ok_bar_to (by kernel_rfl) rfl (less_at (by simp [leFT, leV, leOs, leO, leC, rho, AV.ren, AV.ren1, AV.un, AV.un1, AV.closed, wkS] <;> (repeat' apply And.intro) <;> first | rfl) (by simp [leFT, leV, leOs, leO, leC, rho, AV.ren, AV.ren1, AV.un, AV.un1, AV.closed, wkS] <;> (repeat' apply And.intro) <;> first | rfl)) (H_F_R5_next_t79 _ _ h)
      · replace h := ite_t hb h
        refine Ok_runB env [79] rfl ?_
        cases h
        exact Ok_fin env rfl rfl (told_eq rfl)
/-- treemerge/treemergeref05.next -/
theorem H_F_R5_next (a0 : ByteArray) (a1 : Int) (r : Int × Int) (h : F_R5_next a0 a1 = some r) : M_F_R5_next a0 a1 r :=
  S_F_R5_next a0 a1 r (by rw [E_F_R5_next] at h; exact h)
def F_R5_Tokens_l0 (t0 : ByteArray) (t5 : (List Token)) (t6 : Int) : Option ((List Token) × Int × Int) :=
  if (decide (t6 ≤ (t0.size : Int))) = true then
    F_R4_End (nofix t0) (nofix t6) >>= fun x1 =>
    if (decide ((t0.size : Int) ≤ x1)) = true then
      ssub t0 t6 (t0.size : Int) >>= fun x2 =>
      app 48 t5 ([(Token.mk (4 : Int) x2 (⟨#[]⟩) (t0.size : Int))]) >>= fun x3 =>
      some (x3, (0 : Int), (0 : Int))
    else
      F_R5_next (nofix t0) (nofix x1) >>= fun x4 =>
      if (decide (x4.2 = (0 : Int))) = true then
        some (([] : (List Token)), (1 : Int), x1)
      else
        ssub t0 t6 x1 >>= fun x5 =>
        ssub t0 x1 x4.1 >>= fun x6 =>
        app 48 t5 ([(Token.mk x4.2 x5 x6 x1)]) >>= fun x7 =>
        F_R5_Tokens_l0 (nofix t0) (nofix x7) x4.1
  else
    some (t5, (0 : Int), (0 : Int))
  partial_fixpoint
@[reducible] def M_F_R5_Tokens_l0 (t0 : ByteArray) (t5 : (List Token)) (t6 : Int) (r : (List Token) × Int × Int) : Prop :=
  Ok Tryd.prog Gt tt 59 0 (Ret Tryd.prog [.tmp 2, .tmp 3, .tmp 4] (fun y H => Told Tryd.prog Gt H y (.tup [(.sl 4 false (r.1.map Token.cells)), (.int .i64 r.2.1), (.int .i64 r.2.2)]))) (.again (loopOf [] Tryd.f39 0).1 (loopOf [] Tryd.f39 0).2 (.n (.str t0) (.n .undef .z (.n (.bs 4 0 0 0 t5.length) .z .z)) (.n .undef .z (.n (.int .i64 t6) .z .z))) 1 [(0, .row 56 (t5.map Token.cells).flatten)])
theorem E_F_R5_Tokens_l0 (t0 : ByteArray) (t5 : (List Token)) (t6 : Int) : F_R5_Tokens_l0 t0 t5 t6 = (
    if (decide (t6 ≤ (t0.size : Int))) = true then
      F_R4_End t0 t6 >>= fun x1 =>
      if (decide ((t0.size : Int) ≤ x1)) = true then
        ssub t0 t6 (t0.size : Int) >>= fun x2 =>
        app 48 t5 ([(Token.mk (4 : Int) x2 (⟨#[]⟩) (t0.size : Int))]) >>= fun x3 =>
        some (x3, (0 : Int), (0 : Int))
      else
        F_R5_next t0 x1 >>= fun x4 =>
        if (decide (x4.2 = (0 : Int))) = true then
          some (([] : (List Token)), (1 : Int), x1)
        else
          ssub t0 t6 x1 >>= fun x5 =>
          ssub t0 x1 x4.1 >>= fun x6 =>
          app 48 t5 ([(Token.mk x4.2 x5 x6 x1)]) >>= fun x7 =>
          F_R5_Tokens_l0 t0 x7 x4.1
    else
      some (t5, (0 : Int), (0 : Int))
    : Option ((List Token) × Int × Int)) := F_R5_Tokens_l0.eq_def t0 t5 t6
set_option maxHeartbeats 4000000 in
theorem S_F_R5_Tokens_l0 (F_R5_Tokens_l0 : ByteArray → (List Token) → Int → Option ((List Token) × Int × Int)) (H_F_R5_Tokens_l0 : ∀ (t0 : ByteArray) (t5 : (List Token)) (t6 : Int) (r : (List Token) × Int × Int), F_R5_Tokens_l0 t0 t5 t6 = some r → M_F_R5_Tokens_l0 t0 t5 t6 r) (t0 : ByteArray) (t5 : (List Token)) (t6 : Int) (r : (List Token) × Int × Int) (h : (
    if (decide (t6 ≤ (t0.size : Int))) = true then
      F_R4_End t0 t6 >>= fun x1 =>
      if (decide ((t0.size : Int) ≤ x1)) = true then
        ssub t0 t6 (t0.size : Int) >>= fun x2 =>
        app 48 t5 ([(Token.mk (4 : Int) x2 (⟨#[]⟩) (t0.size : Int))]) >>= fun x3 =>
        some (x3, (0 : Int), (0 : Int))
      else
        F_R5_next t0 x1 >>= fun x4 =>
        if (decide (x4.2 = (0 : Int))) = true then
          some (([] : (List Token)), (1 : Int), x1)
        else
          ssub t0 t6 x1 >>= fun x5 =>
          ssub t0 x1 x4.1 >>= fun x6 =>
          app 48 t5 ([(Token.mk x4.2 x5 x6 x1)]) >>= fun x7 =>
          F_R5_Tokens_l0 t0 x7 x4.1
    else
      some (t5, (0 : Int), (0 : Int))
    : Option ((List Token) × Int × Int)) = some r) : M_F_R5_Tokens_l0 t0 t5 t6 r := by
  refine Ok_unroll ?_
  refine Ok_runB env [] rfl ?_
  refine Ok_cond (fun hb => ?_) (fun hb => ?_)
  · replace h := ite_t hb h
    refine Ok_runB env [] rfl ?_
    obtain ⟨x1, hx, h⟩ := bind_some h
    refine Ok_call (H_F_R4_End _ _ _ hx) ?_
    refine Ok_runB env [] rfl ?_
    refine Ok_cond (fun hb => ?_) (fun hb => ?_)
    · replace h := ite_t hb h
      refine Ok_runB env [] rfl ?_
      obtain ⟨x2, hx, h⟩ := bind_some h
      refine Ok_ssubT env hx rfl rfl rfl rfl rfl ?_
      refine Ok_runB env [] rfl ?_
      obtain ⟨x3, hx, h⟩ := bind_some h
      have hp_x3 := app_pos hx (by simp)
      refine Ok_appO env hx rfl rfl (by simp) (fun _ => rfl) rfl rfl rfl rfl rfl (by decide) rfl rfl rfl ?_
      refine Ok_runB env [] rfl ?_
      cases h
      exact Ok_fin env rfl rfl (told_view (viewT_tup (viewLs_cons (view_one (view_own Token_ok rfl) (by simp)) (viewLs_cons (view_one (view1_int rfl) (by simp)) (viewLs_cons (view_one (view1_int rfl) (by simp)) viewLs_nil)))))
    · replace h := ite_f hb h
      refine Ok_runB env [] rfl ?_
      obtain ⟨x4, hx, h⟩ := bind_some h
      refine Ok_call (H_F_R5_next _ _ _ hx) ?_
      refine Ok_runB env [] rfl ?_
      refine Ok_cond (fun hb => ?_) (fun hb => ?_)
      · replace h := ite_t hb h
        refine Ok_runB env [] rfl ?_
        cases h
        exact Ok_fin env rfl rfl (told_view (viewT_tup (viewLs_cons (view_one (view1_sl (.inr rfl)) (by simp)) (viewLs_cons (view_one (view1_int rfl) (by simp)) (viewLs_cons (view_one (view1_int rfl) (by simp)) viewLs_nil)))))
      · replace h := ite_f hb h
        refine Ok_runB env [] rfl ?_
        obtain ⟨x5, hx, h⟩ := bind_some h
        refine Ok_ssubT env hx rfl rfl rfl rfl rfl ?_
        refine Ok_runB env [] rfl ?_
        obtain ⟨x6, hx, h⟩ := bind_some h
        refine Ok_ssubT env hx rfl rfl rfl rfl rfl ?_
        refine Ok_runB env [] rfl ?_
        obtain ⟨x7, hx, h⟩ := bind_some h
        have hp_x7 := app_pos hx (by simp)
        refine Ok_appO env hx rfl rfl (by simp) (fun _ => rfl) rfl rfl rfl rfl rfl (by decide) rfl rfl rfl ?_
        refine Ok_runB env [] rfl ?_
        exact Ok_again_to (by kernel_rfl) (less_at (by simp [leFT, leV, leOs, leO, leC, rho, AV.ren, AV.ren1, AV.un, AV.un1, AV.closed, wkS] <;> (repeat' apply And.intro) <;> first | rfl | exact fun x a _ h => (Token_ok.all a x h).2) (by simp [leFT, leV, leOs, leO, leC, rho, AV.ren, AV.ren1, AV.un, AV.un1, AV.closed, wkS] <;> (repeat' apply And.intro) <;> first | rfl | exact fun x a _ h => (Token_ok.all a x h).2)) (H_F_R5_Tokens_l0 _ _ _ _ h)
  · replace h := ite_f hb h
    refine Ok_runB env [] rfl ?_
    cases h
    exact Ok_fin env rfl rfl (told_view (viewT_tup (viewLs_cons (view_one (view_own Token_ok rfl) (by simp)) (viewLs_cons (view_one (view1_int rfl) (by simp)) (viewLs_cons (view_one (view1_int rfl) (by simp)) viewLs_nil)))))
/-- treemerge/treemergeref05.Tokens -/
theorem H_F_R5_Tokens_l0 (t0 : ByteArray) (t5 : (List Token)) (t6 : Int) (r : (List Token) × Int × Int) (h : F_R5_Tokens_l0 t0 t5 t6 = some r) : M_F_R5_Tokens_l0 t0 t5 t6 r :=
  F_R5_Tokens_l0.partial_correctness (fun t0 t5 t6 r => M_F_R5_Tokens_l0 t0 t5 t6 r) (fun F0 h0 => S_F_R5_Tokens_l0 F0 h0) t0 t5 t6 r h
def F_R5_Tokens (a0 : ByteArray) : Option ((List Token) × Int × Int) :=
  if (decide ((65536 : Int) < (a0.size : Int))) = true then
    some (([] : (List Token)), (3 : Int), (0 : Int))
  else
    F_R5_Tokens_l0 a0 ([] : List Token) (0 : Int)
@[reducible] def M_F_R5_Tokens (a0 : ByteArray) (r : (List Token) × Int × Int) : Prop :=
  Fn Tryd.prog Gt 39 [(.str a0)] (.tup [(.sl 4 false (r.1.map Token.cells)), (.int .i64 r.2.1), (.int .i64 r.2.2)])
theorem E_F_R5_Tokens (a0 : ByteArray) : F_R5_Tokens a0 = (
    if (decide ((65536 : Int) < (a0.size : Int))) = true then
      some (([] : (List Token)), (3 : Int), (0 : Int))
    else
      F_R5_Tokens_l0 a0 ([] : List Token) (0 : Int)
    : Option ((List Token) × Int × Int)) := F_R5_Tokens.eq_def a0
set_option maxHeartbeats 4000000 in
theorem S_F_R5_Tokens  (a0 : ByteArray) (r : (List Token) × Int × Int) (h : (
    if (decide ((65536 : Int) < (a0.size : Int))) = true then
      some (([] : (List Token)), (3 : Int), (0 : Int))
    else
      F_R5_Tokens_l0 a0 ([] : List Token) (0 : Int)
    : Option ((List Token) × Int × Int)) = some r) : M_F_R5_Tokens a0 r := by
  refine Fn_run (T := tt) (N := 59) (rs := [.tmp 2, .tmp 3, .tmp 4]) (fun vs w => by simp) Tryd.func39 rfl rfl rfl rfl (by kernel_rfl) (all_pure3 rfl) (closed3_pure _ rfl) ?_
  refine Ok_runB env [] rfl ?_
  refine Ok_cond (fun hb => ?_) (fun hb => ?_)
  · replace h := ite_t hb h
    refine Ok_runB env [] rfl ?_
    cases h
    exact Ok_fin env rfl rfl (told_view (viewT_tup (viewLs_cons (view_one (view1_sl (.inr rfl)) (by simp)) (viewLs_cons (view_one (view1_int rfl) (by simp)) (viewLs_cons (view_one (view1_int rfl) (by simp)) viewLs_nil)))))
  · replace h := ite_f hb h
    refine Ok_runB env [] rfl ?_
    refine Ok_own 5 _ 4 56 rfl rfl ?_
    exact Ok_loop_to (by kernel_rfl) (less_at (by simp [leFT, leV, leOs, leO, leC, rho, AV.ren, AV.ren1, AV.un, AV.un1, AV.closed, wkS] <;> (repeat' apply And.intro) <;> first | rfl | exact fun x a _ h => (Token_ok.all a x h).2) (by simp [leFT, leV, leOs, leO, leC, rho, AV.ren, AV.ren1, AV.un, AV.un1, AV.closed, wkS] <;> (repeat' apply And.intro) <;> first | rfl | exact fun x a _ h => (Token_ok.all a x h).2)) (H_F_R5_Tokens_l0 _ _ _ _ h)
/-- treemerge/treemergeref05.Tokens -/
theorem H_F_R5_Tokens (a0 : ByteArray) (r : (List Token) × Int × Int) (h : F_R5_Tokens a0 = some r) : M_F_R5_Tokens a0 r :=
  S_F_R5_Tokens a0 r (by rw [E_F_R5_Tokens] at h; exact h)
def F_R5_Same_l0 (t0 : (List Token)) (t1 : (List Token)) (t5 : Int) : Option (Bool) :=
  if (decide (t5 < ((t0.map Token.cells).length : Int))) = true then
    ix t0 t5 >>= fun x1 =>
    ix t1 t5 >>= fun x2 =>
    if (!(decide (x1.Kind = x2.Kind) && (decide (x1.Lead = x2.Lead) && (decide (x1.Text = x2.Text) && (decide (x1.At = x2.At) && true))))) = true then
      some false
    else
      F_R5_Same_l0 (nofix t0) (nofix t1) (IntKind.i64.wrap (t5 + (1 : Int)))
  else
    some true
  partial_fixpoint
@[reducible] def M_F_R5_Same_l0 (t0 : (List Token)) (t1 : (List Token)) (t5 : Int) (r : Bool) : Prop :=
  Ok Tryd.prog Gt tt 26 0 (Ret Tryd.prog [.tmp 4] (fun y H => Told Tryd.prog Gt H y (.bool r))) (.again (loopOf [] Tryd.f40 0).1 (loopOf [] Tryd.f40 0).2 (.n (.sl 4 false (t0.map Token.cells)) (.n (.sl 4 false (t1.map Token.cells)) .z (.n (.int .i64 t5) .z .z)) .z) 0 [])
theorem E_F_R5_Same_l0 (t0 : (List Token)) (t1 : (List Token)) (t5 : Int) : F_R5_Same_l0 t0 t1 t5 = (
    if (decide (t5 < ((t0.map Token.cells).length : Int))) = true then
      ix t0 t5 >>= fun x1 =>
      ix t1 t5 >>= fun x2 =>
      if (!(decide (x1.Kind = x2.Kind) && (decide (x1.Lead = x2.Lead) && (decide (x1.Text = x2.Text) && (decide (x1.At = x2.At) && true))))) = true then
        some false
      else
        F_R5_Same_l0 t0 t1 (IntKind.i64.wrap (t5 + (1 : Int)))
    else
      some true
    : Option (Bool)) := F_R5_Same_l0.eq_def t0 t1 t5
set_option maxHeartbeats 4000000 in
theorem S_F_R5_Same_l0 (F_R5_Same_l0 : (List Token) → (List Token) → Int → Option (Bool)) (H_F_R5_Same_l0 : ∀ (t0 : (List Token)) (t1 : (List Token)) (t5 : Int) (r : Bool), F_R5_Same_l0 t0 t1 t5 = some r → M_F_R5_Same_l0 t0 t1 t5 r) (t0 : (List Token)) (t1 : (List Token)) (t5 : Int) (r : Bool) (h : (
    if (decide (t5 < ((t0.map Token.cells).length : Int))) = true then
      ix t0 t5 >>= fun x1 =>
      ix t1 t5 >>= fun x2 =>
      if (!(decide (x1.Kind = x2.Kind) && (decide (x1.Lead = x2.Lead) && (decide (x1.Text = x2.Text) && (decide (x1.At = x2.At) && true))))) = true then
        some false
      else
        F_R5_Same_l0 t0 t1 (IntKind.i64.wrap (t5 + (1 : Int)))
    else
      some true
    : Option (Bool)) = some r) : M_F_R5_Same_l0 t0 t1 t5 r := by
  refine Ok_unroll ?_
  refine Ok_runB env [] rfl ?_
  refine Ok_cond (fun hb => ?_) (fun hb => ?_)
  · replace h := ite_t hb h
    refine Ok_runB env [] rfl ?_
    obtain ⟨x1, hx, h⟩ := bind_some h
    refine Ok_ixT env hx rfl rfl rfl rfl rfl ?_
    refine Ok_runB env [] rfl ?_
    obtain ⟨x2, hx, h⟩ := bind_some h
    refine Ok_ixT env hx rfl rfl rfl rfl rfl ?_
    refine Ok_runB env [] rfl ?_
    refine Ok_cond (fun hb => ?_) (fun hb => ?_)
    · replace h := ite_t hb h
      refine Ok_runB env [] rfl ?_
      cases h
      exact Ok_fin env rfl rfl (told_eq rfl)
    · replace h := ite_f hb h
      refine Ok_runB env [] rfl ?_
      exact Ok_again_to (by kernel_rfl) (less_at (by simp [leFT, leV, leOs, leO, leC, rho, AV.ren, AV.ren1, AV.un, AV.un1, AV.closed, wkS] <;> (repeat' apply And.intro) <;> first | rfl) (by simp [leFT, leV, leOs, leO, leC, rho, AV.ren, AV.ren1, AV.un, AV.un1, AV.closed, wkS] <;> (repeat' apply And.intro) <;> first | rfl)) (H_F_R5_Same_l0 _ _ _ _ h)
  · replace h := ite_f hb h
    refine Ok_runB env [] rfl ?_
    cases h
    exact Ok_fin env rfl rfl (told_eq rfl)
/-- treemerge/treemergeref05.Same -/
theorem H_F_R5_Same_l0 (t0 : (List Token)) (t1 : (List Token)) (t5 : Int) (r : Bool) (h : F_R5_Same_l0 t0 t1 t5 = some r) : M_F_R5_Same_l0 t0 t1 t5 r :=
  F_R5_Same_l0.partial_correctness (fun t0 t1 t5 r => M_F_R5_Same_l0 t0 t1 t5 r) (fun F0 h0 => S_F_R5_Same_l0 F0 h0) t0 t1 t5 r h
def F_R5_Same (a0 : (List Token)) (a1 : (List Token)) : Option (Bool) :=
  if (!decide (((a0.map Token.cells).length : Int) = ((a1.map Token.cells).length : Int))) = true then
    some false
  else
    F_R5_Same_l0 a0 a1 (0 : Int)
@[reducible] def M_F_R5_Same (a0 : (List Token)) (a1 : (List Token)) (r : Bool) : Prop :=
  Fn Tryd.prog Gt 40 [(.sl 4 false (a0.map Token.cells)), (.sl 4 false (a1.map Token.cells))] (.bool r)
theorem E_F_R5_Same (a0 : (List Token)) (a1 : (List Token)) : F_R5_Same a0 a1 = (
    if (!decide (((a0.map Token.cells).length : Int) = ((a1.map Token.cells).length : Int))) = true then
      some false
    else
      F_R5_Same_l0 a0 a1 (0 : Int)
    : Option (Bool)) := F_R5_Same.eq_def a0 a1
set_option maxHeartbeats 4000000 in
theorem S_F_R5_Same  (a0 : (List Token)) (a1 : (List Token)) (r : Bool) (h : (
    if (!decide (((a0.map Token.cells).length : Int) = ((a1.map Token.cells).length : Int))) = true then
      some false
    else
      F_R5_Same_l0 a0 a1 (0 : Int)
    : Option (Bool)) = some r) : M_F_R5_Same a0 a1 r := by
  refine Fn_run (T := tt) (N := 26) (rs := [.tmp 4]) (fun vs w => by simp) Tryd.func40 rfl rfl rfl rfl (by kernel_rfl) (all_pure3 rfl) (closed3_pure _ rfl) ?_
  refine Ok_runB env [] rfl ?_
  refine Ok_cond (fun hb => ?_) (fun hb => ?_)
  · replace h := ite_t hb h
    refine Ok_runB env [] rfl ?_
    cases h
    exact Ok_fin env rfl rfl (told_eq rfl)
  · replace h := ite_f hb h
    refine Ok_runB env [] rfl ?_
    exact Ok_loop_to (by kernel_rfl) (less_at (by simp [leFT, leV, leOs, leO, leC, rho, AV.ren, AV.ren1, AV.un, AV.un1, AV.closed, wkS] <;> (repeat' apply And.intro) <;> first | rfl) (by simp [leFT, leV, leOs, leO, leC, rho, AV.ren, AV.ren1, AV.un, AV.un1, AV.closed, wkS] <;> (repeat' apply And.intro) <;> first | rfl)) (H_F_R5_Same_l0 _ _ _ _ h)
/-- treemerge/treemergeref05.Same -/
theorem H_F_R5_Same (a0 : (List Token)) (a1 : (List Token)) (r : Bool) (h : F_R5_Same a0 a1 = some r) : M_F_R5_Same a0 a1 r :=
  S_F_R5_Same a0 a1 r (by rw [E_F_R5_Same] at h; exact h)
def F_L5_TokenReads (a0 : ByteArray) : Option (Bool) :=
  if (decide ((1000 : Int) < (a0.size : Int))) = true then
    F_L5_awake >>= fun x1 =>
    some x1
  else
    F_token_Tokens a0 >>= fun x2 =>
    F_R5_Tokens a0 >>= fun x3 =>
    F_R5_Same x2.1 x3.1 >>= fun x4 =>
    if x4 = true then
      if (decide (x2.2.1 = x3.2.1)) = true then
        if (decide (x2.2.2 = x3.2.2)) = true then
          F_L5_awake >>= fun x5 =>
          some x5
        else
          some false
      else
        some false
    else
      some false
@[reducible] def M_F_L5_TokenReads (a0 : ByteArray) (r : Bool) : Prop :=
  Fn Tryd.prog Gt 9 [(.str a0)] (.bool r)
theorem E_F_L5_TokenReads (a0 : ByteArray) : F_L5_TokenReads a0 = (
    if (decide ((1000 : Int) < (a0.size : Int))) = true then
      F_L5_awake >>= fun x1 =>
      some x1
    else
      F_token_Tokens a0 >>= fun x2 =>
      F_R5_Tokens a0 >>= fun x3 =>
      F_R5_Same x2.1 x3.1 >>= fun x4 =>
      if x4 = true then
        if (decide (x2.2.1 = x3.2.1)) = true then
          if (decide (x2.2.2 = x3.2.2)) = true then
            F_L5_awake >>= fun x5 =>
            some x5
          else
            some false
        else
          some false
      else
        some false
    : Option (Bool)) := F_L5_TokenReads.eq_def a0
set_option maxHeartbeats 4000000 in
theorem S_F_L5_TokenReads  (a0 : ByteArray) (r : Bool) (h : (
    if (decide ((1000 : Int) < (a0.size : Int))) = true then
      F_L5_awake >>= fun x1 =>
      some x1
    else
      F_token_Tokens a0 >>= fun x2 =>
      F_R5_Tokens a0 >>= fun x3 =>
      F_R5_Same x2.1 x3.1 >>= fun x4 =>
      if x4 = true then
        if (decide (x2.2.1 = x3.2.1)) = true then
          if (decide (x2.2.2 = x3.2.2)) = true then
            F_L5_awake >>= fun x5 =>
            some x5
          else
            some false
        else
          some false
      else
        some false
    : Option (Bool)) = some r) : M_F_L5_TokenReads a0 r := by
  refine Fn_run (T := tt) (N := 41) (rs := [.tmp 2]) (fun vs w => by simp) Tryd.func9 rfl rfl rfl rfl (by kernel_rfl) (all_pure3 rfl) (closed3_pure _ rfl) ?_
  refine Ok_runB env [] rfl ?_
  refine Ok_cond (fun hb => ?_) (fun hb => ?_)
  · replace h := ite_t hb h
    refine Ok_runB env [] rfl ?_
    obtain ⟨x1, hx, h⟩ := bind_some h
    refine Ok_call (H_F_L5_awake _ hx) ?_
    refine Ok_runB env [] rfl ?_
    cases h
    exact Ok_fin env rfl rfl (told_eq rfl)
  · replace h := ite_f hb h
    refine Ok_runB env [] rfl ?_
    obtain ⟨x2, hx, h⟩ := bind_some h
    refine Ok_call (H_F_token_Tokens _ _ hx) ?_
    refine Ok_runB env [] rfl ?_
    obtain ⟨x3, hx, h⟩ := bind_some h
    refine Ok_call (H_F_R5_Tokens _ _ hx) ?_
    refine Ok_runB env [] rfl ?_
    obtain ⟨x4, hx, h⟩ := bind_some h
    refine Ok_call (H_F_R5_Same _ _ _ hx) ?_
    refine Ok_runB env [] rfl ?_
    refine Ok_guard_t (fun hb => ?_) (fun hb => ?_)
    · replace h := ite_t hb h
      refine Ok_runB env [] rfl ?_
      refine Ok_guard_t (fun hb => ?_) (fun hb => ?_)
      · replace h := ite_t hb h
        refine Ok_runB env [] rfl ?_
        refine Ok_guard_t (fun hb => ?_) (fun hb => ?_)
        · replace h := ite_t hb h
          refine Ok_runB env [] rfl ?_
          obtain ⟨x5, hx, h⟩ := bind_some h
          refine Ok_call (H_F_L5_awake _ hx) ?_
          refine Ok_runB env [] rfl ?_
          cases h
          exact Ok_fin env rfl rfl (told_eq rfl)
        · replace h := ite_f hb h
          refine Ok_runB env [] rfl ?_
          cases h
          exact Ok_fin env rfl rfl (told_eq rfl)
      · replace h := ite_f hb h
        refine Ok_runB env [] rfl ?_
        cases h
        exact Ok_fin env rfl rfl (told_eq rfl)
    · replace h := ite_f hb h
      refine Ok_runB env [] rfl ?_
      cases h
      exact Ok_fin env rfl rfl (told_eq rfl)
/-- treemerge/treemergelaw05.TokenReads -/
theorem H_F_L5_TokenReads (a0 : ByteArray) (r : Bool) (h : F_L5_TokenReads a0 = some r) : M_F_L5_TokenReads a0 r :=
  S_F_L5_TokenReads a0 r (by rw [E_F_L5_TokenReads] at h; exact h)
def F_R5_Glue_t21 (t0 : ByteArray) (t1 : ByteArray) : Option (Bool) :=
  if (decide (t0 = (⟨#[61]⟩ : ByteArray))) = true then
    if (decide (t1 = (⟨#[61]⟩ : ByteArray))) = true then
      some true
    else
      if (decide (t1 = (⟨#[61, 61]⟩ : ByteArray))) = true then
        some true
      else
        if (decide (t0 = (⟨#[47]⟩ : ByteArray))) = true then
          some (decide (t1 = (⟨#[47]⟩ : ByteArray)))
        else
          some false
  else
    if (decide (t0 = (⟨#[47]⟩ : ByteArray))) = true then
      some (decide (t1 = (⟨#[47]⟩ : ByteArray)))
    else
      some false
@[reducible] def M_F_R5_Glue_t21 (t0 : ByteArray) (t1 : ByteArray) (r : Bool) : Prop :=
  Ok Tryd.prog Gt tt 40 0 (Ret Tryd.prog [.tmp 4] (fun y H => Told Tryd.prog Gt H y (.bool r))) (.go [] (testOf [21] Tryd.f42 21) [] (.n (.str t0) (.n (.str t1) .z .z) .z) 0 [])
theorem E_F_R5_Glue_t21 (t0 : ByteArray) (t1 : ByteArray) : F_R5_Glue_t21 t0 t1 = (
    if (decide (t0 = (⟨#[61]⟩ : ByteArray))) = true then
      if (decide (t1 = (⟨#[61]⟩ : ByteArray))) = true then
        some true
      else
        if (decide (t1 = (⟨#[61, 61]⟩ : ByteArray))) = true then
          some true
        else
          if (decide (t0 = (⟨#[47]⟩ : ByteArray))) = true then
            some (decide (t1 = (⟨#[47]⟩ : ByteArray)))
          else
            some false
    else
      if (decide (t0 = (⟨#[47]⟩ : ByteArray))) = true then
        some (decide (t1 = (⟨#[47]⟩ : ByteArray)))
      else
        some false
    : Option (Bool)) := F_R5_Glue_t21.eq_def t0 t1
set_option maxHeartbeats 4000000 in
theorem S_F_R5_Glue_t21  (t0 : ByteArray) (t1 : ByteArray) (r : Bool) (h : (
    if (decide (t0 = (⟨#[61]⟩ : ByteArray))) = true then
      if (decide (t1 = (⟨#[61]⟩ : ByteArray))) = true then
        some true
      else
        if (decide (t1 = (⟨#[61, 61]⟩ : ByteArray))) = true then
          some true
        else
          if (decide (t0 = (⟨#[47]⟩ : ByteArray))) = true then
            some (decide (t1 = (⟨#[47]⟩ : ByteArray)))
          else
            some false
    else
      if (decide (t0 = (⟨#[47]⟩ : ByteArray))) = true then
        some (decide (t1 = (⟨#[47]⟩ : ByteArray)))
      else
        some false
    : Option (Bool)) = some r) : M_F_R5_Glue_t21 t0 t1 r := by
  refine Ok_runB env [21] rfl ?_
  refine Ok_guard_t (fun hb => ?_) (fun hb => ?_)
  · replace h := ite_t hb h
    refine Ok_runB env [21] rfl ?_
    refine Ok_guard_f (fun hb => ?_) (fun hb => ?_)
    · replace h := ite_f hb h
      refine Ok_runB env [21] rfl ?_
      refine Ok_guard_f (fun hb => ?_) (fun hb => ?_)
      · replace h := ite_f hb h
        refine Ok_runB env [21] rfl ?_
        refine Ok_guard_t (fun hb => ?_) (fun hb => ?_)
        · replace h := ite_t hb h
          refine Ok_runB env [21] rfl ?_
          cases h
          exact Ok_fin env rfl rfl (told_eq rfl)
        · replace h := ite_f hb h
          refine Ok_runB env [21] rfl ?_
          cases h
          exact Ok_fin env rfl rfl (told_eq rfl)
      · replace h := ite_t hb h
        refine Ok_runB env [21] rfl ?_
        cases h
        exact Ok_fin env rfl rfl (told_eq rfl)
    · replace h := ite_t hb h
      refine Ok_runB env [21] rfl ?_
      cases h
      exact Ok_fin env rfl rfl (told_eq rfl)
  · replace h := ite_f hb h
    refine Ok_runB env [21] rfl ?_
    refine Ok_guard_t (fun hb => ?_) (fun hb => ?_)
    · replace h := ite_t hb h
      refine Ok_runB env [21] rfl ?_
      cases h
      exact Ok_fin env rfl rfl (told_eq rfl)
    · replace h := ite_f hb h
      refine Ok_runB env [21] rfl ?_
      cases h
      exact Ok_fin env rfl rfl (told_eq rfl)
/-- treemerge/treemergeref05.Glue -/
theorem H_F_R5_Glue_t21 (t0 : ByteArray) (t1 : ByteArray) (r : Bool) (h : F_R5_Glue_t21 t0 t1 = some r) : M_F_R5_Glue_t21 t0 t1 r :=
  S_F_R5_Glue_t21 t0 t1 r (by rw [E_F_R5_Glue_t21] at h; exact h)
def F_R5_Glue (a0 : ByteArray) (a1 : ByteArray) : Option (Bool) :=
  if (decide (a0 = (⟨#[]⟩ : ByteArray))) = true then
    some false
  else
    if (decide (a1 = (⟨#[]⟩ : ByteArray))) = true then
      some false
    else
      sx a0 (IntKind.i64.wrap ((a0.size : Int) - (1 : Int))) >>= fun x1 =>
      F_R5_Letter x1 >>= fun x2 =>
      if x2 = true then
        sx a1 (0 : Int) >>= fun x3 =>
        F_R5_Letter x3 >>= fun x4 =>
        if x4 = true then
          some true
        else
          F_R5_Glue_t21 a0 a1
      else
        F_R5_Glue_t21 a0 a1
@[reducible] def M_F_R5_Glue (a0 : ByteArray) (a1 : ByteArray) (r : Bool) : Prop :=
  Fn Tryd.prog Gt 42 [(.str a0), (.str a1)] (.bool r)
theorem E_F_R5_Glue (a0 : ByteArray) (a1 : ByteArray) : F_R5_Glue a0 a1 = (
    if (decide (a0 = (⟨#[]⟩ : ByteArray))) = true then
      some false
    else
      if (decide (a1 = (⟨#[]⟩ : ByteArray))) = true then
        some false
      else
        sx a0 (IntKind.i64.wrap ((a0.size : Int) - (1 : Int))) >>= fun x1 =>
        F_R5_Letter x1 >>= fun x2 =>
        if x2 = true then
          sx a1 (0 : Int) >>= fun x3 =>
          F_R5_Letter x3 >>= fun x4 =>
          if x4 = true then
            some true
          else
            F_R5_Glue_t21 a0 a1
        else
          F_R5_Glue_t21 a0 a1
    : Option (Bool)) := F_R5_Glue.eq_def a0 a1
set_option maxHeartbeats 4000000 in
theorem S_F_R5_Glue  (a0 : ByteArray) (a1 : ByteArray) (r : Bool) (h : (
    if (decide (a0 = (⟨#[]⟩ : ByteArray))) = true then
      some false
    else
      if (decide (a1 = (⟨#[]⟩ : ByteArray))) = true then
        some false
      else
        sx a0 (IntKind.i64.wrap ((a0.size : Int) - (1 : Int))) >>= fun x1 =>
        F_R5_Letter x1 >>= fun x2 =>
        if x2 = true then
          sx a1 (0 : Int) >>= fun x3 =>
          F_R5_Letter x3 >>= fun x4 =>
          if x4 = true then
            some true
          else
            F_R5_Glue_t21 a0 a1
        else
          F_R5_Glue_t21 a0 a1
    : Option (Bool)) = some r) : M_F_R5_Glue a0 a1 r := by
  refine Fn_run (T := tt) (N := 40) (rs := [.tmp 4]) (fun vs w => by simp) Tryd.func42 rfl rfl rfl rfl (by kernel_rfl) (all_pure3 rfl) (closed3_pure _ rfl) ?_
  refine Ok_runB env [21] rfl ?_
  refine Ok_guard_f (fun hb => ?_) (fun hb => ?_)
  · replace h := ite_f hb h
    refine Ok_runB env [21] rfl ?_
    refine Ok_cond (fun hb => ?_) (fun hb => ?_)
    · replace h := ite_t hb h
      refine Ok_runB env [21] rfl ?_
      cases h
      exact Ok_fin env rfl rfl (told_eq rfl)
    · replace h := ite_f hb h
      refine Ok_runB env [21] rfl ?_
      obtain ⟨x1, hx, h⟩ := bind_some h
      refine Ok_sxT env hx rfl rfl rfl rfl ?_
      refine Ok_runB env [21] rfl ?_
      obtain ⟨x2, hx, h⟩ := bind_some h
      refine Ok_call (H_F_R5_Letter _ _ hx) ?_
      refine Ok_runB env [21] rfl ?_
      refine Ok_guard_t (fun hb => ?_) (fun hb => ?_)
      · replace h := ite_t hb h
        refine Ok_runB env [21] rfl ?_
        obtain ⟨x3, hx, h⟩ := bind_some h
        refine Ok_sxT env hx rfl rfl rfl rfl ?_
        refine Ok_runB env [21] rfl ?_
        obtain ⟨x4, hx, h⟩ := bind_some h
        refine Ok_call (H_F_R5_Letter _ _ hx) ?_
        refine Ok_runB env [21] rfl ?_
        refine Ok_cond (fun hb => ?_) (fun hb => ?_)
        · replace h := ite_t hb h
          refine Ok_runB env [21] rfl ?_
          cases h
          exact Ok_fin env rfl rfl (told_eq rfl)
        · replace h := ite_f hb h
          refine Ok_runB env [21] rfl ?_
          exact Ok_bar_to (by kernel_rfl) rfl (less_at (by simp [leFT, leV, leOs, leO, leC, rho, AV.ren, AV.ren1, AV.un, AV.un1, AV.closed, wkS] <;> (repeat' apply And.intro) <;> first | rfl) (by simp [leFT, leV, leOs, leO, leC, rho, AV.ren, AV.ren1, AV.un, AV.un1, AV.closed, wkS] <;> (repeat' apply And.intro) <;> first | rfl)) (H_F_R5_Glue_t21 _ _ _ h)
      · replace h := ite_f hb h
        refine Ok_runB env [21] rfl ?_
        exact Ok_bar_to (by kernel_rfl) rfl (less_at (by simp [leFT, leV, leOs, leO, leC, rho, AV.ren, AV.ren1, AV.un, AV.un1, AV.closed, wkS] <;> (repeat' apply And.intro) <;> first | rfl) (by simp [leFT, leV, leOs, leO, leC, rho, AV.ren, AV.ren1, AV.un, AV.un1, AV.closed, wkS] <;> (repeat' apply And.intro) <;> first | rfl)) (H_F_R5_Glue_t21 _ _ _ h)
  · replace h := ite_t hb h
    refine Ok_runB env [21] rfl ?_
    cases h
    exact Ok_fin env rfl rfl (told_eq rfl)
/-- treemerge/treemergeref05.Glue -/
theorem H_F_R5_Glue (a0 : ByteArray) (a1 : ByteArray) (r : Bool) (h : F_R5_Glue a0 a1 = some r) : M_F_R5_Glue a0 a1 r :=
  S_F_R5_Glue a0 a1 r (by rw [E_F_R5_Glue] at h; exact h)
def F_R5_Kind (a0 : ByteArray) : Option (Int) :=
  F_R5_next a0 (0 : Int) >>= fun x1 =>
  if (!decide (x1.1 = (a0.size : Int))) = true then
    some (0 : Int)
  else
    some x1.2
@[reducible] def M_F_R5_Kind (a0 : ByteArray) (r : Int) : Prop :=
  Fn Tryd.prog Gt 44 [(.str a0)] (.int .i64 r)
theorem E_F_R5_Kind (a0 : ByteArray) : F_R5_Kind a0 = (
    F_R5_next a0 (0 : Int) >>= fun x1 =>
    if (!decide (x1.1 = (a0.size : Int))) = true then
      some (0 : Int)
    else
      some x1.2
    : Option (Int)) := F_R5_Kind.eq_def a0
set_option maxHeartbeats 4000000 in
theorem S_F_R5_Kind  (a0 : ByteArray) (r : Int) (h : (
    F_R5_next a0 (0 : Int) >>= fun x1 =>
    if (!decide (x1.1 = (a0.size : Int))) = true then
      some (0 : Int)
    else
      some x1.2
    : Option (Int)) = some r) : M_F_R5_Kind a0 r := by
  refine Fn_run (T := tt) (N := 15) (rs := [.tmp 2]) (fun vs w => by simp) Tryd.func44 rfl rfl rfl rfl (by kernel_rfl) (all_pure3 rfl) (closed3_pure _ rfl) ?_
  refine Ok_runB env [] rfl ?_
  obtain ⟨x1, hx, h⟩ := bind_some h
  refine Ok_call (H_F_R5_next _ _ _ hx) ?_
  refine Ok_runB env [] rfl ?_
  refine Ok_cond (fun hb => ?_) (fun hb => ?_)
  · replace h := ite_t hb h
    refine Ok_runB env [] rfl ?_
    cases h
    exact Ok_fin env rfl rfl (told_eq rfl)
  · replace h := ite_f hb h
    refine Ok_runB env [] rfl ?_
    cases h
    exact Ok_fin env rfl rfl (told_eq rfl)
/-- treemerge/treemergeref05.Kind -/
theorem H_F_R5_Kind (a0 : ByteArray) (r : Int) (h : F_R5_Kind a0 = some r) : M_F_R5_Kind a0 r :=
  S_F_R5_Kind a0 r (by rw [E_F_R5_Kind] at h; exact h)
def F_L5_TokenKinds (a0 : ByteArray) (a1 : ByteArray) : Option (Bool) :=
  if (decide ((100 : Int) < (a0.size : Int))) = true then
    F_L5_awake >>= fun x7 =>
    some x7
  else
    if (decide ((100 : Int) < (a1.size : Int))) = true then
      F_L5_awake >>= fun x1 =>
      some x1
    else
      F_token_Glue a0 a1 >>= fun x2 =>
      F_R5_Glue a0 a1 >>= fun x3 =>
      if (x2 == x3) = true then
        F_token_Kind a0 >>= fun x4 =>
        F_R5_Kind a0 >>= fun x5 =>
        if (decide (x4 = x5)) = true then
          F_L5_awake >>= fun x6 =>
          some x6
        else
          some false
      else
        some false
@[reducible] def M_F_L5_TokenKinds (a0 : ByteArray) (a1 : ByteArray) (r : Bool) : Prop :=
  Fn Tryd.prog Gt 10 [(.str a0), (.str a1)] (.bool r)
theorem E_F_L5_TokenKinds (a0 : ByteArray) (a1 : ByteArray) : F_L5_TokenKinds a0 a1 = (
    if (decide ((100 : Int) < (a0.size : Int))) = true then
      F_L5_awake >>= fun x7 =>
      some x7
    else
      if (decide ((100 : Int) < (a1.size : Int))) = true then
        F_L5_awake >>= fun x1 =>
        some x1
      else
        F_token_Glue a0 a1 >>= fun x2 =>
        F_R5_Glue a0 a1 >>= fun x3 =>
        if (x2 == x3) = true then
          F_token_Kind a0 >>= fun x4 =>
          F_R5_Kind a0 >>= fun x5 =>
          if (decide (x4 = x5)) = true then
            F_L5_awake >>= fun x6 =>
            some x6
          else
            some false
        else
          some false
    : Option (Bool)) := F_L5_TokenKinds.eq_def a0 a1
set_option maxHeartbeats 4000000 in
theorem S_F_L5_TokenKinds  (a0 : ByteArray) (a1 : ByteArray) (r : Bool) (h : (
    if (decide ((100 : Int) < (a0.size : Int))) = true then
      F_L5_awake >>= fun x7 =>
      some x7
    else
      if (decide ((100 : Int) < (a1.size : Int))) = true then
        F_L5_awake >>= fun x1 =>
        some x1
      else
        F_token_Glue a0 a1 >>= fun x2 =>
        F_R5_Glue a0 a1 >>= fun x3 =>
        if (x2 == x3) = true then
          F_token_Kind a0 >>= fun x4 =>
          F_R5_Kind a0 >>= fun x5 =>
          if (decide (x4 = x5)) = true then
            F_L5_awake >>= fun x6 =>
            some x6
          else
            some false
        else
          some false
    : Option (Bool)) = some r) : M_F_L5_TokenKinds a0 a1 r := by
  refine Fn_run (T := tt) (N := 31) (rs := [.tmp 4]) (fun vs w => by simp) Tryd.func10 rfl rfl rfl rfl (by kernel_rfl) (all_pure3 rfl) (closed3_pure _ rfl) ?_
  refine Ok_runB env [] rfl ?_
  refine Ok_guard_f (fun hb => ?_) (fun hb => ?_)
  · replace h := ite_f hb h
    refine Ok_runB env [] rfl ?_
    refine Ok_cond (fun hb => ?_) (fun hb => ?_)
    · replace h := ite_t hb h
      refine Ok_runB env [] rfl ?_
      obtain ⟨x1, hx, h⟩ := bind_some h
      refine Ok_call (H_F_L5_awake _ hx) ?_
      refine Ok_runB env [] rfl ?_
      cases h
      exact Ok_fin env rfl rfl (told_eq rfl)
    · replace h := ite_f hb h
      refine Ok_runB env [] rfl ?_
      obtain ⟨x2, hx, h⟩ := bind_some h
      refine Ok_call (H_F_token_Glue _ _ _ hx) ?_
      refine Ok_runB env [] rfl ?_
      obtain ⟨x3, hx, h⟩ := bind_some h
      refine Ok_call (H_F_R5_Glue _ _ _ hx) ?_
      refine Ok_runB env [] rfl ?_
      refine Ok_guard_t (fun hb => ?_) (fun hb => ?_)
      · replace h := ite_t hb h
        refine Ok_runB env [] rfl ?_
        obtain ⟨x4, hx, h⟩ := bind_some h
        refine Ok_call (H_F_token_Kind _ _ hx) ?_
        refine Ok_runB env [] rfl ?_
        obtain ⟨x5, hx, h⟩ := bind_some h
        refine Ok_call (H_F_R5_Kind _ _ hx) ?_
        refine Ok_runB env [] rfl ?_
        refine Ok_guard_t (fun hb => ?_) (fun hb => ?_)
        · replace h := ite_t hb h
          refine Ok_runB env [] rfl ?_
          obtain ⟨x6, hx, h⟩ := bind_some h
          refine Ok_call (H_F_L5_awake _ hx) ?_
          refine Ok_runB env [] rfl ?_
          cases h
          exact Ok_fin env rfl rfl (told_eq rfl)
        · replace h := ite_f hb h
          refine Ok_runB env [] rfl ?_
          cases h
          exact Ok_fin env rfl rfl (told_eq rfl)
      · replace h := ite_f hb h
        refine Ok_runB env [] rfl ?_
        cases h
        exact Ok_fin env rfl rfl (told_eq rfl)
  · replace h := ite_t hb h
    refine Ok_runB env [] rfl ?_
    obtain ⟨x7, hx, h⟩ := bind_some h
    refine Ok_call (H_F_L5_awake _ hx) ?_
    refine Ok_runB env [] rfl ?_
    cases h
    exact Ok_fin env rfl rfl (told_eq rfl)
/-- treemerge/treemergelaw05.TokenKinds -/
theorem H_F_L5_TokenKinds (a0 : ByteArray) (a1 : ByteArray) (r : Bool) (h : F_L5_TokenKinds a0 a1 = some r) : M_F_L5_TokenKinds a0 a1 r :=
  S_F_L5_TokenKinds a0 a1 r (by rw [E_F_L5_TokenKinds] at h; exact h)
def F_R5_Join_l0 (t0 : (List Token)) (t3 : ByteArray) (t4 : Int) : Option (ByteArray) :=
  if (decide (t4 < ((t0.map Token.cells).length : Int))) = true then
    ix t0 t4 >>= fun x1 =>
    cat t3 x1.Lead >>= fun x2 =>
    ix t0 t4 >>= fun x3 =>
    cat x2 x3.Text >>= fun x4 =>
    F_R5_Join_l0 (nofix t0) (nofix x4) (IntKind.i64.wrap (t4 + (1 : Int)))
  else
    some t3
  partial_fixpoint
@[reducible] def M_F_R5_Join_l0 (t0 : (List Token)) (t3 : ByteArray) (t4 : Int) (r : ByteArray) : Prop :=
  Ok Tryd.prog Gt tt 25 0 (Ret Tryd.prog [.tmp 2] (fun y H => Told Tryd.prog Gt H y (.str r))) (.again (loopOf [] Tryd.f46 0).1 (loopOf [] Tryd.f46 0).2 (.n (.sl 4 false (t0.map Token.cells)) (.n .undef (.n (.str t3) .z .z) .z) (.n .undef (.n (.int .i64 t4) .z .z) .z)) 0 [])
theorem E_F_R5_Join_l0 (t0 : (List Token)) (t3 : ByteArray) (t4 : Int) : F_R5_Join_l0 t0 t3 t4 = (
    if (decide (t4 < ((t0.map Token.cells).length : Int))) = true then
      ix t0 t4 >>= fun x1 =>
      cat t3 x1.Lead >>= fun x2 =>
      ix t0 t4 >>= fun x3 =>
      cat x2 x3.Text >>= fun x4 =>
      F_R5_Join_l0 t0 x4 (IntKind.i64.wrap (t4 + (1 : Int)))
    else
      some t3
    : Option (ByteArray)) := F_R5_Join_l0.eq_def t0 t3 t4
set_option maxHeartbeats 4000000 in
theorem S_F_R5_Join_l0 (F_R5_Join_l0 : (List Token) → ByteArray → Int → Option (ByteArray)) (H_F_R5_Join_l0 : ∀ (t0 : (List Token)) (t3 : ByteArray) (t4 : Int) (r : ByteArray), F_R5_Join_l0 t0 t3 t4 = some r → M_F_R5_Join_l0 t0 t3 t4 r) (t0 : (List Token)) (t3 : ByteArray) (t4 : Int) (r : ByteArray) (h : (
    if (decide (t4 < ((t0.map Token.cells).length : Int))) = true then
      ix t0 t4 >>= fun x1 =>
      cat t3 x1.Lead >>= fun x2 =>
      ix t0 t4 >>= fun x3 =>
      cat x2 x3.Text >>= fun x4 =>
      F_R5_Join_l0 t0 x4 (IntKind.i64.wrap (t4 + (1 : Int)))
    else
      some t3
    : Option (ByteArray)) = some r) : M_F_R5_Join_l0 t0 t3 t4 r := by
  refine Ok_unroll ?_
  refine Ok_runB env [] rfl ?_
  refine Ok_cond (fun hb => ?_) (fun hb => ?_)
  · replace h := ite_t hb h
    refine Ok_runB env [] rfl ?_
    obtain ⟨x1, hx, h⟩ := bind_some h
    refine Ok_ixT env hx rfl rfl rfl rfl rfl ?_
    refine Ok_runB env [] rfl ?_
    obtain ⟨x2, hx, h⟩ := bind_some h
    refine Ok_catT env hx rfl rfl ?_
    refine Ok_runB env [] rfl ?_
    obtain ⟨x3, hx, h⟩ := bind_some h
    refine Ok_ixT env hx rfl rfl rfl rfl rfl ?_
    refine Ok_runB env [] rfl ?_
    obtain ⟨x4, hx, h⟩ := bind_some h
    refine Ok_catT env hx rfl rfl ?_
    refine Ok_runB env [] rfl ?_
    exact Ok_again_to (by kernel_rfl) (less_at (by simp [leFT, leV, leOs, leO, leC, rho, AV.ren, AV.ren1, AV.un, AV.un1, AV.closed, wkS] <;> (repeat' apply And.intro) <;> first | rfl) (by simp [leFT, leV, leOs, leO, leC, rho, AV.ren, AV.ren1, AV.un, AV.un1, AV.closed, wkS] <;> (repeat' apply And.intro) <;> first | rfl)) (H_F_R5_Join_l0 _ _ _ _ h)
  · replace h := ite_f hb h
    refine Ok_runB env [] rfl ?_
    cases h
    exact Ok_fin env rfl rfl (told_eq rfl)
/-- treemerge/treemergeref05.Join -/
theorem H_F_R5_Join_l0 (t0 : (List Token)) (t3 : ByteArray) (t4 : Int) (r : ByteArray) (h : F_R5_Join_l0 t0 t3 t4 = some r) : M_F_R5_Join_l0 t0 t3 t4 r :=
  F_R5_Join_l0.partial_correctness (fun t0 t3 t4 r => M_F_R5_Join_l0 t0 t3 t4 r) (fun F0 h0 => S_F_R5_Join_l0 F0 h0) t0 t3 t4 r h
def F_R5_Join (a0 : (List Token)) : Option (ByteArray) :=
  F_R5_Join_l0 a0 (⟨#[]⟩ : ByteArray) (0 : Int)
@[reducible] def M_F_R5_Join (a0 : (List Token)) (r : ByteArray) : Prop :=
  Fn Tryd.prog Gt 46 [(.sl 4 false (a0.map Token.cells))] (.str r)
theorem E_F_R5_Join (a0 : (List Token)) : F_R5_Join a0 = (
    F_R5_Join_l0 a0 (⟨#[]⟩ : ByteArray) (0 : Int)
    : Option (ByteArray)) := F_R5_Join.eq_def a0
set_option maxHeartbeats 4000000 in
theorem S_F_R5_Join  (a0 : (List Token)) (r : ByteArray) (h : (
    F_R5_Join_l0 a0 (⟨#[]⟩ : ByteArray) (0 : Int)
    : Option (ByteArray)) = some r) : M_F_R5_Join a0 r := by
  refine Fn_run (T := tt) (N := 25) (rs := [.tmp 2]) (fun vs w => by simp) Tryd.func46 rfl rfl rfl rfl (by kernel_rfl) (all_pure3 rfl) (closed3_pure _ rfl) ?_
  refine Ok_runB env [] rfl ?_
  exact Ok_loop_to (by kernel_rfl) (less_at (by simp [leFT, leV, leOs, leO, leC, rho, AV.ren, AV.ren1, AV.un, AV.un1, AV.closed, wkS] <;> (repeat' apply And.intro) <;> first | rfl) (by simp [leFT, leV, leOs, leO, leC, rho, AV.ren, AV.ren1, AV.un, AV.un1, AV.closed, wkS] <;> (repeat' apply And.intro) <;> first | rfl)) (H_F_R5_Join_l0 _ _ _ _ h)
/-- treemerge/treemergeref05.Join -/
theorem H_F_R5_Join (a0 : (List Token)) (r : ByteArray) (h : F_R5_Join a0 = some r) : M_F_R5_Join a0 r :=
  S_F_R5_Join a0 r (by rw [E_F_R5_Join] at h; exact h)
end Go.Proofs.YtimdjillcaichaaDoorW.Ex.Gr
