/- The program's functions, printed as functions on numbers, strings, lists and trees, with the proofs that they are what the code computes. Conditions: those in each theorem. -/
import Derived.Test.YtimdjillcaichaaDoorU0
namespace Go.Proofs.YtimdjillcaichaaDoorW.Ex.Gr
open Go Go.Proofs.YtimdjillcaichaaDoorW.Ex
set_option linter.all false
set_option maxRecDepth 100000
def F_token_class_t3  : Option (Int) :=
  some (0 : Int)
@[reducible] def M_F_token_class_t3  (r : Int) : Prop :=
  Ok Tryd.prog Gt tt 29 0 (Ret Tryd.prog [.tmp 2] (fun y H => Told Tryd.prog Gt H y (.int .i64 r))) (.go [] (testOf [3] Tryd.f90 3) [] .z 0 [])
theorem E_F_token_class_t3  : F_token_class_t3  = (
    some (0 : Int)
    : Option (Int)) := F_token_class_t3.eq_def 
set_option maxHeartbeats 4000000 in
theorem S_F_token_class_t3   (r : Int) (h : (
    some (0 : Int)
    : Option (Int)) = some r) : M_F_token_class_t3  r := by
  refine Ok_runB env [3] rfl ?_
  cases h
  exact Ok_fin env rfl rfl (told_eq rfl)
/-- treemerge/token.class -/
theorem H_F_token_class_t3  (r : Int) (h : F_token_class_t3  = some r) : M_F_token_class_t3  r :=
  S_F_token_class_t3  r (by rw [E_F_token_class_t3] at h; exact h)
def F_token_class (a0 : Int) : Option (Int) :=
  if (decide ((48 : Int) ≤ a0)) = true then
    if (decide (a0 ≤ (57 : Int))) = true then
      some (1 : Int)
    else
      if (decide ((97 : Int) ≤ a0)) = true then
        if (decide (a0 ≤ (122 : Int))) = true then
          some (2 : Int)
        else
          if (decide ((65 : Int) ≤ a0)) = true then
            if (decide (a0 ≤ (90 : Int))) = true then
              some (2 : Int)
            else
              if (decide (a0 = (95 : Int))) = true then
                some (2 : Int)
              else
                F_strings_IndexByte (⟨#[40, 41, 123, 125, 44, 59, 58, 46, 61, 60, 43, 45, 42, 47, 33, 38, 124]⟩ : ByteArray) a0 >>= fun x1 =>
                if (decide ((0 : Int) ≤ x1)) = true then
                  some (3 : Int)
                else
                  F_token_class_t3 
          else
            if (decide (a0 = (95 : Int))) = true then
              some (2 : Int)
            else
              F_strings_IndexByte (⟨#[40, 41, 123, 125, 44, 59, 58, 46, 61, 60, 43, 45, 42, 47, 33, 38, 124]⟩ : ByteArray) a0 >>= fun x2 =>
              if (decide ((0 : Int) ≤ x2)) = true then
                some (3 : Int)
              else
                F_token_class_t3 
      else
        if (decide ((65 : Int) ≤ a0)) = true then
          if (decide (a0 ≤ (90 : Int))) = true then
            some (2 : Int)
          else
            if (decide (a0 = (95 : Int))) = true then
              some (2 : Int)
            else
              F_strings_IndexByte (⟨#[40, 41, 123, 125, 44, 59, 58, 46, 61, 60, 43, 45, 42, 47, 33, 38, 124]⟩ : ByteArray) a0 >>= fun x3 =>
              if (decide ((0 : Int) ≤ x3)) = true then
                some (3 : Int)
              else
                F_token_class_t3 
        else
          if (decide (a0 = (95 : Int))) = true then
            some (2 : Int)
          else
            F_strings_IndexByte (⟨#[40, 41, 123, 125, 44, 59, 58, 46, 61, 60, 43, 45, 42, 47, 33, 38, 124]⟩ : ByteArray) a0 >>= fun x4 =>
            if (decide ((0 : Int) ≤ x4)) = true then
              some (3 : Int)
            else
              F_token_class_t3 
  else
    if (decide ((97 : Int) ≤ a0)) = true then
      if (decide (a0 ≤ (122 : Int))) = true then
        some (2 : Int)
      else
        if (decide ((65 : Int) ≤ a0)) = true then
          if (decide (a0 ≤ (90 : Int))) = true then
            some (2 : Int)
          else
            if (decide (a0 = (95 : Int))) = true then
              some (2 : Int)
            else
              F_strings_IndexByte (⟨#[40, 41, 123, 125, 44, 59, 58, 46, 61, 60, 43, 45, 42, 47, 33, 38, 124]⟩ : ByteArray) a0 >>= fun x5 =>
              if (decide ((0 : Int) ≤ x5)) = true then
                some (3 : Int)
              else
                F_token_class_t3 
        else
          if (decide (a0 = (95 : Int))) = true then
            some (2 : Int)
          else
            F_strings_IndexByte (⟨#[40, 41, 123, 125, 44, 59, 58, 46, 61, 60, 43, 45, 42, 47, 33, 38, 124]⟩ : ByteArray) a0 >>= fun x6 =>
            if (decide ((0 : Int) ≤ x6)) = true then
              some (3 : Int)
            else
              F_token_class_t3 
    else
      if (decide ((65 : Int) ≤ a0)) = true then
        if (decide (a0 ≤ (90 : Int))) = true then
          some (2 : Int)
        else
          if (decide (a0 = (95 : Int))) = true then
            some (2 : Int)
          else
            F_strings_IndexByte (⟨#[40, 41, 123, 125, 44, 59, 58, 46, 61, 60, 43, 45, 42, 47, 33, 38, 124]⟩ : ByteArray) a0 >>= fun x7 =>
            if (decide ((0 : Int) ≤ x7)) = true then
              some (3 : Int)
            else
              F_token_class_t3 
      else
        if (decide (a0 = (95 : Int))) = true then
          some (2 : Int)
        else
          F_strings_IndexByte (⟨#[40, 41, 123, 125, 44, 59, 58, 46, 61, 60, 43, 45, 42, 47, 33, 38, 124]⟩ : ByteArray) a0 >>= fun x8 =>
          if (decide ((0 : Int) ≤ x8)) = true then
            some (3 : Int)
          else
            F_token_class_t3 
@[reducible] def M_F_token_class (a0 : Int) (r : Int) : Prop :=
  Fn Tryd.prog Gt 90 [(.int .u8 a0)] (.int .i64 r)
theorem E_F_token_class (a0 : Int) : F_token_class a0 = (
    if (decide ((48 : Int) ≤ a0)) = true then
      if (decide (a0 ≤ (57 : Int))) = true then
        some (1 : Int)
      else
        if (decide ((97 : Int) ≤ a0)) = true then
          if (decide (a0 ≤ (122 : Int))) = true then
            some (2 : Int)
          else
            if (decide ((65 : Int) ≤ a0)) = true then
              if (decide (a0 ≤ (90 : Int))) = true then
                some (2 : Int)
              else
                if (decide (a0 = (95 : Int))) = true then
                  some (2 : Int)
                else
                  F_strings_IndexByte (⟨#[40, 41, 123, 125, 44, 59, 58, 46, 61, 60, 43, 45, 42, 47, 33, 38, 124]⟩ : ByteArray) a0 >>= fun x1 =>
                  if (decide ((0 : Int) ≤ x1)) = true then
                    some (3 : Int)
                  else
                    F_token_class_t3 
            else
              if (decide (a0 = (95 : Int))) = true then
                some (2 : Int)
              else
                F_strings_IndexByte (⟨#[40, 41, 123, 125, 44, 59, 58, 46, 61, 60, 43, 45, 42, 47, 33, 38, 124]⟩ : ByteArray) a0 >>= fun x2 =>
                if (decide ((0 : Int) ≤ x2)) = true then
                  some (3 : Int)
                else
                  F_token_class_t3 
        else
          if (decide ((65 : Int) ≤ a0)) = true then
            if (decide (a0 ≤ (90 : Int))) = true then
              some (2 : Int)
            else
              if (decide (a0 = (95 : Int))) = true then
                some (2 : Int)
              else
                F_strings_IndexByte (⟨#[40, 41, 123, 125, 44, 59, 58, 46, 61, 60, 43, 45, 42, 47, 33, 38, 124]⟩ : ByteArray) a0 >>= fun x3 =>
                if (decide ((0 : Int) ≤ x3)) = true then
                  some (3 : Int)
                else
                  F_token_class_t3 
          else
            if (decide (a0 = (95 : Int))) = true then
              some (2 : Int)
            else
              F_strings_IndexByte (⟨#[40, 41, 123, 125, 44, 59, 58, 46, 61, 60, 43, 45, 42, 47, 33, 38, 124]⟩ : ByteArray) a0 >>= fun x4 =>
              if (decide ((0 : Int) ≤ x4)) = true then
                some (3 : Int)
              else
                F_token_class_t3 
    else
      if (decide ((97 : Int) ≤ a0)) = true then
        if (decide (a0 ≤ (122 : Int))) = true then
          some (2 : Int)
        else
          if (decide ((65 : Int) ≤ a0)) = true then
            if (decide (a0 ≤ (90 : Int))) = true then
              some (2 : Int)
            else
              if (decide (a0 = (95 : Int))) = true then
                some (2 : Int)
              else
                F_strings_IndexByte (⟨#[40, 41, 123, 125, 44, 59, 58, 46, 61, 60, 43, 45, 42, 47, 33, 38, 124]⟩ : ByteArray) a0 >>= fun x5 =>
                if (decide ((0 : Int) ≤ x5)) = true then
                  some (3 : Int)
                else
                  F_token_class_t3 
          else
            if (decide (a0 = (95 : Int))) = true then
              some (2 : Int)
            else
              F_strings_IndexByte (⟨#[40, 41, 123, 125, 44, 59, 58, 46, 61, 60, 43, 45, 42, 47, 33, 38, 124]⟩ : ByteArray) a0 >>= fun x6 =>
              if (decide ((0 : Int) ≤ x6)) = true then
                some (3 : Int)
              else
                F_token_class_t3 
      else
        if (decide ((65 : Int) ≤ a0)) = true then
          if (decide (a0 ≤ (90 : Int))) = true then
            some (2 : Int)
          else
            if (decide (a0 = (95 : Int))) = true then
              some (2 : Int)
            else
              F_strings_IndexByte (⟨#[40, 41, 123, 125, 44, 59, 58, 46, 61, 60, 43, 45, 42, 47, 33, 38, 124]⟩ : ByteArray) a0 >>= fun x7 =>
              if (decide ((0 : Int) ≤ x7)) = true then
                some (3 : Int)
              else
                F_token_class_t3 
        else
          if (decide (a0 = (95 : Int))) = true then
            some (2 : Int)
          else
            F_strings_IndexByte (⟨#[40, 41, 123, 125, 44, 59, 58, 46, 61, 60, 43, 45, 42, 47, 33, 38, 124]⟩ : ByteArray) a0 >>= fun x8 =>
            if (decide ((0 : Int) ≤ x8)) = true then
              some (3 : Int)
            else
              F_token_class_t3 
    : Option (Int)) := F_token_class.eq_def a0
set_option maxHeartbeats 4000000 in
theorem S_F_token_class  (a0 : Int) (r : Int) (h : (
    if (decide ((48 : Int) ≤ a0)) = true then
      if (decide (a0 ≤ (57 : Int))) = true then
        some (1 : Int)
      else
        if (decide ((97 : Int) ≤ a0)) = true then
          if (decide (a0 ≤ (122 : Int))) = true then
            some (2 : Int)
          else
            if (decide ((65 : Int) ≤ a0)) = true then
              if (decide (a0 ≤ (90 : Int))) = true then
                some (2 : Int)
              else
                if (decide (a0 = (95 : Int))) = true then
                  some (2 : Int)
                else
                  F_strings_IndexByte (⟨#[40, 41, 123, 125, 44, 59, 58, 46, 61, 60, 43, 45, 42, 47, 33, 38, 124]⟩ : ByteArray) a0 >>= fun x1 =>
                  if (decide ((0 : Int) ≤ x1)) = true then
                    some (3 : Int)
                  else
                    F_token_class_t3 
            else
              if (decide (a0 = (95 : Int))) = true then
                some (2 : Int)
              else
                F_strings_IndexByte (⟨#[40, 41, 123, 125, 44, 59, 58, 46, 61, 60, 43, 45, 42, 47, 33, 38, 124]⟩ : ByteArray) a0 >>= fun x2 =>
                if (decide ((0 : Int) ≤ x2)) = true then
                  some (3 : Int)
                else
                  F_token_class_t3 
        else
          if (decide ((65 : Int) ≤ a0)) = true then
            if (decide (a0 ≤ (90 : Int))) = true then
              some (2 : Int)
            else
              if (decide (a0 = (95 : Int))) = true then
                some (2 : Int)
              else
                F_strings_IndexByte (⟨#[40, 41, 123, 125, 44, 59, 58, 46, 61, 60, 43, 45, 42, 47, 33, 38, 124]⟩ : ByteArray) a0 >>= fun x3 =>
                if (decide ((0 : Int) ≤ x3)) = true then
                  some (3 : Int)
                else
                  F_token_class_t3 
          else
            if (decide (a0 = (95 : Int))) = true then
              some (2 : Int)
            else
              F_strings_IndexByte (⟨#[40, 41, 123, 125, 44, 59, 58, 46, 61, 60, 43, 45, 42, 47, 33, 38, 124]⟩ : ByteArray) a0 >>= fun x4 =>
              if (decide ((0 : Int) ≤ x4)) = true then
                some (3 : Int)
              else
                F_token_class_t3 
    else
      if (decide ((97 : Int) ≤ a0)) = true then
        if (decide (a0 ≤ (122 : Int))) = true then
          some (2 : Int)
        else
          if (decide ((65 : Int) ≤ a0)) = true then
            if (decide (a0 ≤ (90 : Int))) = true then
              some (2 : Int)
            else
              if (decide (a0 = (95 : Int))) = true then
                some (2 : Int)
              else
                F_strings_IndexByte (⟨#[40, 41, 123, 125, 44, 59, 58, 46, 61, 60, 43, 45, 42, 47, 33, 38, 124]⟩ : ByteArray) a0 >>= fun x5 =>
                if (decide ((0 : Int) ≤ x5)) = true then
                  some (3 : Int)
                else
                  F_token_class_t3 
          else
            if (decide (a0 = (95 : Int))) = true then
              some (2 : Int)
            else
              F_strings_IndexByte (⟨#[40, 41, 123, 125, 44, 59, 58, 46, 61, 60, 43, 45, 42, 47, 33, 38, 124]⟩ : ByteArray) a0 >>= fun x6 =>
              if (decide ((0 : Int) ≤ x6)) = true then
                some (3 : Int)
              else
                F_token_class_t3 
      else
        if (decide ((65 : Int) ≤ a0)) = true then
          if (decide (a0 ≤ (90 : Int))) = true then
            some (2 : Int)
          else
            if (decide (a0 = (95 : Int))) = true then
              some (2 : Int)
            else
              F_strings_IndexByte (⟨#[40, 41, 123, 125, 44, 59, 58, 46, 61, 60, 43, 45, 42, 47, 33, 38, 124]⟩ : ByteArray) a0 >>= fun x7 =>
              if (decide ((0 : Int) ≤ x7)) = true then
                some (3 : Int)
              else
                F_token_class_t3 
        else
          if (decide (a0 = (95 : Int))) = true then
            some (2 : Int)
          else
            F_strings_IndexByte (⟨#[40, 41, 123, 125, 44, 59, 58, 46, 61, 60, 43, 45, 42, 47, 33, 38, 124]⟩ : ByteArray) a0 >>= fun x8 =>
            if (decide ((0 : Int) ≤ x8)) = true then
              some (3 : Int)
            else
              F_token_class_t3 
    : Option (Int)) = some r) : M_F_token_class a0 r := by
  refine Fn_run (T := tt) (N := 29) (rs := [.tmp 2]) (fun vs w => by simp) Tryd.func90 rfl rfl rfl rfl (by kernel_rfl) (all_pure3 rfl) (closed3_pure _ rfl) ?_
  refine Ok_runB env [3] rfl ?_
  refine Ok_guard_t (fun hb => ?_) (fun hb => ?_)
  · replace h := ite_t hb h
    refine Ok_runB env [3] rfl ?_
    refine Ok_cond (fun hb => ?_) (fun hb => ?_)
    · replace h := ite_t hb h
      refine Ok_runB env [3] rfl ?_
      cases h
      exact Ok_fin env rfl rfl (told_eq rfl)
    · replace h := ite_f hb h
      refine Ok_runB env [3] rfl ?_
      refine Ok_guard_t (fun hb => ?_) (fun hb => ?_)
      · replace h := ite_t hb h
        refine Ok_runB env [3] rfl ?_
        refine Ok_cond (fun hb => ?_) (fun hb => ?_)
        · replace h := ite_t hb h
          refine Ok_runB env [3] rfl ?_
          cases h
          exact Ok_fin env rfl rfl (told_eq rfl)
        · replace h := ite_f hb h
          refine Ok_runB env [3] rfl ?_
          refine Ok_guard_t (fun hb => ?_) (fun hb => ?_)
          · replace h := ite_t hb h
            refine Ok_runB env [3] rfl ?_
            refine Ok_cond (fun hb => ?_) (fun hb => ?_)
            · replace h := ite_t hb h
              refine Ok_runB env [3] rfl ?_
              cases h
              exact Ok_fin env rfl rfl (told_eq rfl)
            · replace h := ite_f hb h
              refine Ok_runB env [3] rfl ?_
              refine Ok_cond (fun hb => ?_) (fun hb => ?_)
              · replace h := ite_t hb h
                refine Ok_runB env [3] rfl ?_
                cases h
                exact Ok_fin env rfl rfl (told_eq rfl)
              · replace h := ite_f hb h
                refine Ok_runB env [3] rfl ?_
                obtain ⟨x1, hx, h⟩ := bind_some h
                refine Ok_call (H_F_strings_IndexByte _ _ _ hx) ?_
                refine Ok_runB env [3] rfl ?_
                refine Ok_cond (fun hb => ?_) (fun hb => ?_)
                · replace h := ite_t hb h
                  refine Ok_runB env [3] rfl ?_
                  cases h
                  exact Ok_fin env rfl rfl (told_eq rfl)
                · replace h := ite_f hb h
                  refine Ok_runB env [3] rfl ?_
                  exact Ok_bar_to (by kernel_rfl) rfl (less_at (by simp [leFT, leV, leOs, leO, leC, rho, AV.ren, AV.ren1, AV.un, AV.un1, AV.closed, wkS] <;> (repeat' apply And.intro) <;> first | rfl) (by simp [leFT, leV, leOs, leO, leC, rho, AV.ren, AV.ren1, AV.un, AV.un1, AV.closed, wkS] <;> (repeat' apply And.intro) <;> first | rfl)) (H_F_token_class_t3 _ h)
          · replace h := ite_f hb h
            refine Ok_runB env [3] rfl ?_
            refine Ok_cond (fun hb => ?_) (fun hb => ?_)
            · replace h := ite_t hb h
              refine Ok_runB env [3] rfl ?_
              cases h
              exact Ok_fin env rfl rfl (told_eq rfl)
            · replace h := ite_f hb h
              refine Ok_runB env [3] rfl ?_
              obtain ⟨x2, hx, h⟩ := bind_some h
              refine Ok_call (H_F_strings_IndexByte _ _ _ hx) ?_
              refine Ok_runB env [3] rfl ?_
              refine Ok_cond (fun hb => ?_) (fun hb => ?_)
              · replace h := ite_t hb h
                refine Ok_runB env [3] rfl ?_
                cases h
                exact Ok_fin env rfl rfl (told_eq rfl)
              · replace h := ite_f hb h
                refine Ok_runB env [3] rfl ?_
                exact Ok_bar_to (by kernel_rfl) rfl (less_at (by simp [leFT, leV, leOs, leO, leC, rho, AV.ren, AV.ren1, AV.un, AV.un1, AV.closed, wkS] <;> (repeat' apply And.intro) <;> first | rfl) (by simp [leFT, leV, leOs, leO, leC, rho, AV.ren, AV.ren1, AV.un, AV.un1, AV.closed, wkS] <;> (repeat' apply And.intro) <;> first | rfl)) (H_F_token_class_t3 _ h)
      · replace h := ite_f hb h
        refine Ok_runB env [3] rfl ?_
        refine Ok_guard_t (fun hb => ?_) (fun hb => ?_)
        · replace h := ite_t hb h
          refine Ok_runB env [3] rfl ?_
          refine Ok_cond (fun hb => ?_) (fun hb => ?_)
          · replace h := ite_t hb h
            refine Ok_runB env [3] rfl ?_
            cases h
            exact Ok_fin env rfl rfl (told_eq rfl)
          · replace h := ite_f hb h
            refine Ok_runB env [3] rfl ?_
            refine Ok_cond (fun hb => ?_) (fun hb => ?_)
            · replace h := ite_t hb h
              refine Ok_runB env [3] rfl ?_
              cases h
              exact Ok_fin env rfl rfl (told_eq rfl)
            · replace h := ite_f hb h
              refine Ok_runB env [3] rfl ?_
              obtain ⟨x3, hx, h⟩ := bind_some h
              refine Ok_call (H_F_strings_IndexByte _ _ _ hx) ?_
              refine Ok_runB env [3] rfl ?_
              refine Ok_cond (fun hb => ?_) (fun hb => ?_)
              · replace h := ite_t hb h
                refine Ok_runB env [3] rfl ?_
                cases h
                exact Ok_fin env rfl rfl (told_eq rfl)
              · replace h := ite_f hb h
                refine Ok_runB env [3] rfl ?_
                exact Ok_bar_to (by kernel_rfl) rfl (less_at (by simp [leFT, leV, leOs, leO, leC, rho, AV.ren, AV.ren1, AV.un, AV.un1, AV.closed, wkS] <;> (repeat' apply And.intro) <;> first | rfl) (by simp [leFT, leV, leOs, leO, leC, rho, AV.ren, AV.ren1, AV.un, AV.un1, AV.closed, wkS] <;> (repeat' apply And.intro) <;> first | rfl)) (H_F_token_class_t3 _ h)
        · replace h := ite_f hb h
          refine Ok_runB env [3] rfl ?_
          refine Ok_cond (fun hb => ?_) (fun hb => ?_)
          · replace h := ite_t hb h
            refine Ok_runB env [3] rfl ?_
            cases h
            exact Ok_fin env rfl rfl (told_eq rfl)
          · replace h := ite_f hb h
            refine Ok_runB env [3] rfl ?_
            obtain ⟨x4, hx, h⟩ := bind_some h
            refine Ok_call (H_F_strings_IndexByte _ _ _ hx) ?_
            refine Ok_runB env [3] rfl ?_
            refine Ok_cond (fun hb => ?_) (fun hb => ?_)
            · replace h := ite_t hb h
              refine Ok_runB env [3] rfl ?_
              cases h
              exact Ok_fin env rfl rfl (told_eq rfl)
            · replace h := ite_f hb h
              refine Ok_runB env [3] rfl ?_
              exact Ok_bar_to (by kernel_rfl) rfl (less_at (by simp [leFT, leV, leOs, leO, leC, rho, AV.ren, AV.ren1, AV.un, AV.un1, AV.closed, wkS] <;> (repeat' apply And.intro) <;> first | rfl) (by simp [leFT, leV, leOs, leO, leC, rho, AV.ren, AV.ren1, AV.un, AV.un1, AV.closed, wkS] <;> (repeat' apply And.intro) <;> first | rfl)) (H_F_token_class_t3 _ h)
  · replace h := ite_f hb h
    refine Ok_runB env [3] rfl ?_
    refine Ok_guard_t (fun hb => ?_) (fun hb => ?_)
    · replace h := ite_t hb h
      refine Ok_runB env [3] rfl ?_
      refine Ok_cond (fun hb => ?_) (fun hb => ?_)
      · replace h := ite_t hb h
        refine Ok_runB env [3] rfl ?_
        cases h
        exact Ok_fin env rfl rfl (told_eq rfl)
      · replace h := ite_f hb h
        refine Ok_runB env [3] rfl ?_
        refine Ok_guard_t (fun hb => ?_) (fun hb => ?_)
        · replace h := ite_t hb h
          refine Ok_runB env [3] rfl ?_
          refine Ok_cond (fun hb => ?_) (fun hb => ?_)
          · replace h := ite_t hb h
            refine Ok_runB env [3] rfl ?_
            cases h
            exact Ok_fin env rfl rfl (told_eq rfl)
          · replace h := ite_f hb h
            refine Ok_runB env [3] rfl ?_
            refine Ok_cond (fun hb => ?_) (fun hb => ?_)
            · replace h := ite_t hb h
              refine Ok_runB env [3] rfl ?_
              cases h
              exact Ok_fin env rfl rfl (told_eq rfl)
            · replace h := ite_f hb h
              refine Ok_runB env [3] rfl ?_
              obtain ⟨x5, hx, h⟩ := bind_some h
              refine Ok_call (H_F_strings_IndexByte _ _ _ hx) ?_
              refine Ok_runB env [3] rfl ?_
              refine Ok_cond (fun hb => ?_) (fun hb => ?_)
              · replace h := ite_t hb h
                refine Ok_runB env [3] rfl ?_
                cases h
                exact Ok_fin env rfl rfl (told_eq rfl)
              · replace h := ite_f hb h
                refine Ok_runB env [3] rfl ?_
                exact Ok_bar_to (by kernel_rfl) rfl (less_at (by simp [leFT, leV, leOs, leO, leC, rho, AV.ren, AV.ren1, AV.un, AV.un1, AV.closed, wkS] <;> (repeat' apply And.intro) <;> first | rfl) (by simp [leFT, leV, leOs, leO, leC, rho, AV.ren, AV.ren1, AV.un, AV.un1, AV.closed, wkS] <;> (repeat' apply And.intro) <;> first | rfl)) (H_F_token_class_t3 _ h)
        · replace h := ite_f hb h
          refine Ok_runB env [3] rfl ?_
          refine Ok_cond (fun hb => ?_) (fun hb => ?_)
          · replace h := ite_t hb h
            refine Ok_runB env [3] rfl ?_
            cases h
            exact Ok_fin env rfl rfl (told_eq rfl)
          · replace h := ite_f hb h
            refine Ok_runB env [3] rfl ?_
            obtain ⟨x6, hx, h⟩ := bind_some h
            refine Ok_call (H_F_strings_IndexByte _ _ _ hx) ?_
            refine Ok_runB env [3] rfl ?_
            refine Ok_cond (fun hb => ?_) (fun hb => ?_)
            · replace h := ite_t hb h
              refine Ok_runB env [3] rfl ?_
              cases h
              exact Ok_fin env rfl rfl (told_eq rfl)
            · replace h := ite_f hb h
              refine Ok_runB env [3] rfl ?_
              exact Ok_bar_to (by kernel_rfl) rfl (less_at (by simp [leFT, leV, leOs, leO, leC, rho, AV.ren, AV.ren1, AV.un, AV.un1, AV.closed, wkS] <;> (repeat' apply And.intro) <;> first | rfl) (by simp [leFT, leV, leOs, leO, leC, rho, AV.ren, AV.ren1, AV.un, AV.un1, AV.closed, wkS] <;> (repeat' apply And.intro) <;> first | rfl)) (H_F_token_class_t3 _ h)
    · replace h := ite_f hb h
      refine Ok_runB env [3] rfl ?_
      refine Ok_guard_t (fun hb => ?_) (fun hb => ?_)
      · replace h := ite_t hb h
        refine Ok_runB env [3] rfl ?_
        refine Ok_cond (fun hb => ?_) (fun hb => ?_)
        · replace h := ite_t hb h
          refine Ok_runB env [3] rfl ?_
          cases h
          exact Ok_fin env rfl rfl (told_eq rfl)
        · replace h := ite_f hb h
          refine Ok_runB env [3] rfl ?_
          refine Ok_cond (fun hb => ?_) (fun hb => ?_)
          · replace h := ite_t hb h
            refine Ok_runB env [3] rfl ?_
            cases h
            exact Ok_fin env rfl rfl (told_eq rfl)
          · replace h := ite_f hb h
            refine Ok_runB env [3] rfl ?_
            obtain ⟨x7, hx, h⟩ := bind_some h
            refine Ok_call (H_F_strings_IndexByte _ _ _ hx) ?_
            refine Ok_runB env [3] rfl ?_
            refine Ok_cond (fun hb => ?_) (fun hb => ?_)
            · replace h := ite_t hb h
              refine Ok_runB env [3] rfl ?_
              cases h
              exact Ok_fin env rfl rfl (told_eq rfl)
            · replace h := ite_f hb h
              refine Ok_runB env [3] rfl ?_
              exact Ok_bar_to (by kernel_rfl) rfl (less_at (by simp [leFT, leV, leOs, leO, leC, rho, AV.ren, AV.ren1, AV.un, AV.un1, AV.closed, wkS] <;> (repeat' apply And.intro) <;> first | rfl) (by simp [leFT, leV, leOs, leO, leC, rho, AV.ren, AV.ren1, AV.un, AV.un1, AV.closed, wkS] <;> (repeat' apply And.intro) <;> first | rfl)) (H_F_token_class_t3 _ h)
      · replace h := ite_f hb h
        refine Ok_runB env [3] rfl ?_
        refine Ok_cond (fun hb => ?_) (fun hb => ?_)
        · replace h := ite_t hb h
          refine Ok_runB env [3] rfl ?_
          cases h
          exact Ok_fin env rfl rfl (told_eq rfl)
        · replace h := ite_f hb h
          refine Ok_runB env [3] rfl ?_
          obtain ⟨x8, hx, h⟩ := bind_some h
          refine Ok_call (H_F_strings_IndexByte _ _ _ hx) ?_
          refine Ok_runB env [3] rfl ?_
          refine Ok_cond (fun hb => ?_) (fun hb => ?_)
          · replace h := ite_t hb h
            refine Ok_runB env [3] rfl ?_
            cases h
            exact Ok_fin env rfl rfl (told_eq rfl)
          · replace h := ite_f hb h
            refine Ok_runB env [3] rfl ?_
            exact Ok_bar_to (by kernel_rfl) rfl (less_at (by simp [leFT, leV, leOs, leO, leC, rho, AV.ren, AV.ren1, AV.un, AV.un1, AV.closed, wkS] <;> (repeat' apply And.intro) <;> first | rfl) (by simp [leFT, leV, leOs, leO, leC, rho, AV.ren, AV.ren1, AV.un, AV.un1, AV.closed, wkS] <;> (repeat' apply And.intro) <;> first | rfl)) (H_F_token_class_t3 _ h)
/-- treemerge/token.class -/
theorem H_F_token_class (a0 : Int) (r : Int) (h : F_token_class a0 = some r) : M_F_token_class a0 r :=
  S_F_token_class a0 r (by rw [E_F_token_class] at h; exact h)
def F_token_wordy (a0 : Int) : Option (Bool) :=
  F_token_class a0 >>= fun x1 =>
  if (decide (x1 = (2 : Int))) = true then
    some true
  else
    F_token_class a0 >>= fun x2 =>
    some (decide (x2 = (1 : Int)))
@[reducible] def M_F_token_wordy (a0 : Int) (r : Bool) : Prop :=
  Fn Tryd.prog Gt 74 [(.int .u8 a0)] (.bool r)
theorem E_F_token_wordy (a0 : Int) : F_token_wordy a0 = (
    F_token_class a0 >>= fun x1 =>
    if (decide (x1 = (2 : Int))) = true then
      some true
    else
      F_token_class a0 >>= fun x2 =>
      some (decide (x2 = (1 : Int)))
    : Option (Bool)) := F_token_wordy.eq_def a0
set_option maxHeartbeats 4000000 in
theorem S_F_token_wordy  (a0 : Int) (r : Bool) (h : (
    F_token_class a0 >>= fun x1 =>
    if (decide (x1 = (2 : Int))) = true then
      some true
    else
      F_token_class a0 >>= fun x2 =>
      some (decide (x2 = (1 : Int)))
    : Option (Bool)) = some r) : M_F_token_wordy a0 r := by
  refine Fn_run (T := tt) (N := 11) (rs := [.tmp 2]) (fun vs w => by simp) Tryd.func74 rfl rfl rfl rfl (by kernel_rfl) (all_pure3 rfl) (closed3_pure _ rfl) ?_
  refine Ok_runB env [] rfl ?_
  obtain ⟨x1, hx, h⟩ := bind_some h
  refine Ok_call (H_F_token_class _ _ hx) ?_
  refine Ok_runB env [] rfl ?_
  refine Ok_guard_f (fun hb => ?_) (fun hb => ?_)
  · replace h := ite_f hb h
    refine Ok_runB env [] rfl ?_
    obtain ⟨x2, hx, h⟩ := bind_some h
    refine Ok_call (H_F_token_class _ _ hx) ?_
    refine Ok_runB env [] rfl ?_
    cases h
    exact Ok_fin env rfl rfl (told_eq rfl)
  · replace h := ite_t hb h
    refine Ok_runB env [] rfl ?_
    cases h
    exact Ok_fin env rfl rfl (told_eq rfl)
/-- treemerge/token.wordy -/
theorem H_F_token_wordy (a0 : Int) (r : Bool) (h : F_token_wordy a0 = some r) : M_F_token_wordy a0 r :=
  S_F_token_wordy a0 r (by rw [E_F_token_wordy] at h; exact h)
def F_token_run_b0 (t3 : Int) : Option (Int) :=
  some t3
@[reducible] def M_F_token_run_b0 (t3 : Int) (r : Int) : Prop :=
  Ok Tryd.prog Gt tt 17 0 (Ret Tryd.prog [.tmp 2] (fun y H => Told Tryd.prog Gt H y (.int .i64 r))) (.go [] (blockOf [1000000] Tryd.f91 0) [] (.n .undef (.n .undef (.n (.int .i64 t3) .z .z) .z) .z) 0 [])
theorem E_F_token_run_b0 (t3 : Int) : F_token_run_b0 t3 = (
    some t3
    : Option (Int)) := F_token_run_b0.eq_def t3
set_option maxHeartbeats 4000000 in
theorem S_F_token_run_b0  (t3 : Int) (r : Int) (h : (
    some t3
    : Option (Int)) = some r) : M_F_token_run_b0 t3 r := by
  refine Ok_runB env [1000000] rfl ?_
  cases h
  exact Ok_fin env rfl rfl (told_eq rfl)
/-- treemerge/token.run -/
theorem H_F_token_run_b0 (t3 : Int) (r : Int) (h : F_token_run_b0 t3 = some r) : M_F_token_run_b0 t3 r :=
  S_F_token_run_b0 t3 r (by rw [E_F_token_run_b0] at h; exact h)
def F_token_run_l0 (t0 : ByteArray) (t3 : Int) : Option (Int) :=
  if (decide (t3 < (t0.size : Int))) = true then
    sx t0 t3 >>= fun x1 =>
    F_token_wordy (nofix x1) >>= fun x2 =>
    if x2 = true then
      F_token_run_l0 (nofix t0) (IntKind.i64.wrap (t3 + (1 : Int)))
    else
      F_token_run_b0 (nofix t3)
  else
    F_token_run_b0 (nofix t3)
  partial_fixpoint
@[reducible] def M_F_token_run_l0 (t0 : ByteArray) (t3 : Int) (r : Int) : Prop :=
  Ok Tryd.prog Gt tt 17 0 (Ret Tryd.prog [.tmp 2] (fun y H => Told Tryd.prog Gt H y (.int .i64 r))) (.again (loopOf [1000000] Tryd.f91 0).1 (loopOf [1000000] Tryd.f91 0).2 (.n (.str t0) (.n .undef (.n (.int .i64 t3) .z .z) .z) .z) 0 [])
theorem E_F_token_run_l0 (t0 : ByteArray) (t3 : Int) : F_token_run_l0 t0 t3 = (
    if (decide (t3 < (t0.size : Int))) = true then
      sx t0 t3 >>= fun x1 =>
      F_token_wordy x1 >>= fun x2 =>
      if x2 = true then
        F_token_run_l0 t0 (IntKind.i64.wrap (t3 + (1 : Int)))
      else
        F_token_run_b0 t3
    else
      F_token_run_b0 t3
    : Option (Int)) := F_token_run_l0.eq_def t0 t3
set_option maxHeartbeats 4000000 in
theorem S_F_token_run_l0 (F_token_run_l0 : ByteArray → Int → Option (Int)) (H_F_token_run_l0 : ∀ (t0 : ByteArray) (t3 : Int) (r : Int), F_token_run_l0 t0 t3 = some r → M_F_token_run_l0 t0 t3 r) (t0 : ByteArray) (t3 : Int) (r : Int) (h : (
    if (decide (t3 < (t0.size : Int))) = true then
      sx t0 t3 >>= fun x1 =>
      F_token_wordy x1 >>= fun x2 =>
      if x2 = true then
        F_token_run_l0 t0 (IntKind.i64.wrap (t3 + (1 : Int)))
      else
        F_token_run_b0 t3
    else
      F_token_run_b0 t3
    : Option (Int)) = some r) : M_F_token_run_l0 t0 t3 r := by
  refine Ok_unroll ?_
  refine Ok_runB env [1000000] rfl ?_
  refine Ok_guard_t (fun hb => ?_) (fun hb => ?_)
  · replace h := ite_t hb h
    refine Ok_runB env [1000000] rfl ?_
    obtain ⟨x1, hx, h⟩ := bind_some h
    refine Ok_sxT env hx rfl rfl rfl rfl ?_
    refine Ok_runB env [1000000] rfl ?_
    obtain ⟨x2, hx, h⟩ := bind_some h
    refine Ok_call (H_F_token_wordy _ _ hx) ?_
    refine Ok_runB env [1000000] rfl ?_
    refine Ok_cond (fun hb => ?_) (fun hb => ?_)
    · replace h := ite_t hb h
      refine Ok_runB env [1000000] rfl ?_
      exact Ok_again_to (by kernel_rfl) (less_at (by simp [leFT, leV, leOs, leO, leC, rho, AV.ren, AV.ren1, AV.un, AV.un1, AV.closed, wkS] <;> (repeat' apply And.intro) <;> first | rfl) (by simp [leFT, leV, leOs, leO, leC, rho, AV.ren, AV.ren1, AV.un, AV.un1, AV.closed, wkS] <;> (repeat' apply And.intro) <;> first | rfl)) (H_F_token_run_l0 _ _ _ h)
    · replace h := ite_f hb h
      refine Ok_runB env [1000000] rfl ?_
      exact Ok_bar_to (by kernel_rfl) rfl (less_at (by simp [leFT, leV, leOs, leO, leC, rho, AV.ren, AV.ren1, AV.un, AV.un1, AV.closed, wkS] <;> (repeat' apply And.intro) <;> first | rfl) (by simp [leFT, leV, leOs, leO, leC, rho, AV.ren, AV.ren1, AV.un, AV.un1, AV.closed, wkS] <;> (repeat' apply And.intro) <;> first | rfl)) (H_F_token_run_b0 _ _ h)
  · replace h := ite_f hb h
    refine Ok_runB env [1000000] rfl ?_
    exact Ok_bar_to (by kernel_rfl) rfl (less_at (by simp [leFT, leV, leOs, leO, leC, rho, AV.ren, AV.ren1, AV.un, AV.un1, AV.closed, wkS] <;> (repeat' apply And.intro) <;> first | rfl) (by simp [leFT, leV, leOs, leO, leC, rho, AV.ren, AV.ren1, AV.un, AV.un1, AV.closed, wkS] <;> (repeat' apply And.intro) <;> first | rfl)) (H_F_token_run_b0 _ _ h)
/-- treemerge/token.run -/
theorem H_F_token_run_l0 (t0 : ByteArray) (t3 : Int) (r : Int) (h : F_token_run_l0 t0 t3 = some r) : M_F_token_run_l0 t0 t3 r :=
  F_token_run_l0.partial_correctness (fun t0 t3 r => M_F_token_run_l0 t0 t3 r) (fun F0 h0 => S_F_token_run_l0 F0 h0) t0 t3 r h
def F_token_run (a0 : ByteArray) : Option (Int) :=
  F_token_run_l0 a0 (0 : Int)
@[reducible] def M_F_token_run (a0 : ByteArray) (r : Int) : Prop :=
  Fn Tryd.prog Gt 91 [(.str a0)] (.int .i64 r)
theorem E_F_token_run (a0 : ByteArray) : F_token_run a0 = (
    F_token_run_l0 a0 (0 : Int)
    : Option (Int)) := F_token_run.eq_def a0
set_option maxHeartbeats 4000000 in
theorem S_F_token_run  (a0 : ByteArray) (r : Int) (h : (
    F_token_run_l0 a0 (0 : Int)
    : Option (Int)) = some r) : M_F_token_run a0 r := by
  refine Fn_run (T := tt) (N := 17) (rs := [.tmp 2]) (fun vs w => by simp) Tryd.func91 rfl rfl rfl rfl (by kernel_rfl) (all_pure3 rfl) (closed3_pure _ rfl) ?_
  refine Ok_runB env [1000000] rfl ?_
  exact Ok_loop_to (by kernel_rfl) (less_at (by simp [leFT, leV, leOs, leO, leC, rho, AV.ren, AV.ren1, AV.un, AV.un1, AV.closed, wkS] <;> (repeat' apply And.intro) <;> first | rfl) (by simp [leFT, leV, leOs, leO, leC, rho, AV.ren, AV.ren1, AV.un, AV.un1, AV.closed, wkS] <;> (repeat' apply And.intro) <;> first | rfl)) (H_F_token_run_l0 _ _ _ h)
/-- treemerge/token.run -/
theorem H_F_token_run (a0 : ByteArray) (r : Int) (h : F_token_run a0 = some r) : M_F_token_run a0 r :=
  S_F_token_run a0 r (by rw [E_F_token_run] at h; exact h)
def F_token_first_t11  : Option (Int × Int) :=
  some ((0 : Int), (0 : Int))
@[reducible] def M_F_token_first_t11  (r : Int × Int) : Prop :=
  Ok Tryd.prog Gt tt 33 0 (Ret Tryd.prog [.tmp 2, .tmp 3] (fun y H => Told Tryd.prog Gt H y (.tup [(.int .i64 r.1), (.int .i64 r.2)]))) (.go [] (testOf [11, 20] Tryd.f71 11) [] .z 0 [])
theorem E_F_token_first_t11  : F_token_first_t11  = (
    some ((0 : Int), (0 : Int))
    : Option (Int × Int)) := F_token_first_t11.eq_def 
set_option maxHeartbeats 4000000 in
theorem S_F_token_first_t11   (r : Int × Int) (h : (
    some ((0 : Int), (0 : Int))
    : Option (Int × Int)) = some r) : M_F_token_first_t11  r := by
  refine Ok_runB env [11, 20] rfl ?_
  cases h
  exact Ok_fin env rfl rfl (told_eq rfl)
/-- treemerge/token.first -/
theorem H_F_token_first_t11  (r : Int × Int) (h : F_token_first_t11  = some r) : M_F_token_first_t11  r :=
  S_F_token_first_t11  r (by rw [E_F_token_first_t11] at h; exact h)
def F_token_first_t20  : Option (Int × Int) :=
  F_token_first_t11 
@[reducible] def M_F_token_first_t20  (r : Int × Int) : Prop :=
  Ok Tryd.prog Gt tt 33 0 (Ret Tryd.prog [.tmp 2, .tmp 3] (fun y H => Told Tryd.prog Gt H y (.tup [(.int .i64 r.1), (.int .i64 r.2)]))) (.go [] (testOf [11, 20] Tryd.f71 20) [] .z 0 [])
theorem E_F_token_first_t20  : F_token_first_t20  = (
    F_token_first_t11 
    : Option (Int × Int)) := F_token_first_t20.eq_def 
set_option maxHeartbeats 4000000 in
theorem S_F_token_first_t20   (r : Int × Int) (h : (
    F_token_first_t11 
    : Option (Int × Int)) = some r) : M_F_token_first_t20  r := by
  refine Ok_runB env [11, 20] rfl ?_
  exact Ok_bar_to (by kernel_rfl) rfl (less_at (by simp [leFT, leV, leOs, leO, leC, rho, AV.ren, AV.ren1, AV.un, AV.un1, AV.closed, wkS] <;> (repeat' apply And.intro) <;> first | rfl) (by simp [leFT, leV, leOs, leO, leC, rho, AV.ren, AV.ren1, AV.un, AV.un1, AV.closed, wkS] <;> (repeat' apply And.intro) <;> first | rfl)) (H_F_token_first_t11 _ h)
/-- treemerge/token.first -/
theorem H_F_token_first_t20  (r : Int × Int) (h : F_token_first_t20  = some r) : M_F_token_first_t20  r :=
  S_F_token_first_t20  r (by rw [E_F_token_first_t20] at h; exact h)
def F_token_first (a0 : ByteArray) : Option (Int × Int) :=
  if (decide (a0 = (⟨#[]⟩ : ByteArray))) = true then
    some ((0 : Int), (0 : Int))
  else
    sx a0 (0 : Int) >>= fun x1 =>
    F_token_class x1 >>= fun x2 =>
    if (decide (x2 = (1 : Int))) = true then
      F_token_run a0 >>= fun x3 =>
      ssub a0 (0 : Int) x3 >>= fun x4 =>
      F_token_integer x4 >>= fun x5 =>
      if x5 = true then
        some (x3, (2 : Int))
      else
        F_token_first_t11 
    else
      if (decide (x2 = (2 : Int))) = true then
        F_token_run a0 >>= fun x6 =>
        if (decide (x6 ≤ (32 : Int))) = true then
          some (x6, (1 : Int))
        else
          F_token_first_t20 
      else
        if (decide (x2 = (3 : Int))) = true then
          F_strings_HasPrefix a0 (⟨#[47, 47]⟩ : ByteArray) >>= fun x7 =>
          if x7 = true then
            some ((0 : Int), (0 : Int))
          else
            F_strings_HasPrefix a0 (⟨#[61, 61]⟩ : ByteArray) >>= fun x8 =>
            if x8 = true then
              some ((2 : Int), (3 : Int))
            else
              some ((1 : Int), (3 : Int))
        else
          F_token_first_t20 
@[reducible] def M_F_token_first (a0 : ByteArray) (r : Int × Int) : Prop :=
  Fn Tryd.prog Gt 71 [(.str a0)] (.tup [(.int .i64 r.1), (.int .i64 r.2)])
theorem E_F_token_first (a0 : ByteArray) : F_token_first a0 = (
    if (decide (a0 = (⟨#[]⟩ : ByteArray))) = true then
      some ((0 : Int), (0 : Int))
    else
      sx a0 (0 : Int) >>= fun x1 =>
      F_token_class x1 >>= fun x2 =>
      if (decide (x2 = (1 : Int))) = true then
        F_token_run a0 >>= fun x3 =>
        ssub a0 (0 : Int) x3 >>= fun x4 =>
        F_token_integer x4 >>= fun x5 =>
        if x5 = true then
          some (x3, (2 : Int))
        else
          F_token_first_t11 
      else
        if (decide (x2 = (2 : Int))) = true then
          F_token_run a0 >>= fun x6 =>
          if (decide (x6 ≤ (32 : Int))) = true then
            some (x6, (1 : Int))
          else
            F_token_first_t20 
        else
          if (decide (x2 = (3 : Int))) = true then
            F_strings_HasPrefix a0 (⟨#[47, 47]⟩ : ByteArray) >>= fun x7 =>
            if x7 = true then
              some ((0 : Int), (0 : Int))
            else
              F_strings_HasPrefix a0 (⟨#[61, 61]⟩ : ByteArray) >>= fun x8 =>
              if x8 = true then
                some ((2 : Int), (3 : Int))
              else
                some ((1 : Int), (3 : Int))
          else
            F_token_first_t20 
    : Option (Int × Int)) := F_token_first.eq_def a0
set_option maxHeartbeats 4000000 in
theorem S_F_token_first  (a0 : ByteArray) (r : Int × Int) (h : (
    if (decide (a0 = (⟨#[]⟩ : ByteArray))) = true then
      some ((0 : Int), (0 : Int))
    else
      sx a0 (0 : Int) >>= fun x1 =>
      F_token_class x1 >>= fun x2 =>
      if (decide (x2 = (1 : Int))) = true then
        F_token_run a0 >>= fun x3 =>
        ssub a0 (0 : Int) x3 >>= fun x4 =>
        F_token_integer x4 >>= fun x5 =>
        if x5 = true then
          some (x3, (2 : Int))
        else
          F_token_first_t11 
      else
        if (decide (x2 = (2 : Int))) = true then
          F_token_run a0 >>= fun x6 =>
          if (decide (x6 ≤ (32 : Int))) = true then
            some (x6, (1 : Int))
          else
            F_token_first_t20 
        else
          if (decide (x2 = (3 : Int))) = true then
            F_strings_HasPrefix a0 (⟨#[47, 47]⟩ : ByteArray) >>= fun x7 =>
            if x7 = true then
              some ((0 : Int), (0 : Int))
            else
              F_strings_HasPrefix a0 (⟨#[61, 61]⟩ : ByteArray) >>= fun x8 =>
              if x8 = true then
                some ((2 : Int), (3 : Int))
              else
                some ((1 : Int), (3 : Int))
          else
            F_token_first_t20 
    : Option (Int × Int)) = some r) : M_F_token_first a0 r := by
  refine Fn_run (T := tt) (N := 33) (rs := [.tmp 2, .tmp 3]) (fun vs w => by simp) Tryd.func71 rfl rfl rfl rfl (by kernel_rfl) (all_pure3 rfl) (closed3_pure _ rfl) ?_
  refine Ok_runB env [11, 20] rfl ?_
  refine Ok_cond (fun hb => ?_) (fun hb => ?_)
  · replace h := ite_t hb h
    refine Ok_runB env [11, 20] rfl ?_
    cases h
    exact Ok_fin env rfl rfl (told_eq rfl)
  · replace h := ite_f hb h
    refine Ok_runB env [11, 20] rfl ?_
    obtain ⟨x1, hx, h⟩ := bind_some h
    refine Ok_sxT env hx rfl rfl rfl rfl ?_
    refine Ok_runB env [11, 20] rfl ?_
    obtain ⟨x2, hx, h⟩ := bind_some h
    refine Ok_call (H_F_token_class _ _ hx) ?_
    refine Ok_runB env [11, 20] rfl ?_
    refine Ok_cond (fun hb => ?_) (fun hb => ?_)
    · replace h := ite_t hb h
      refine Ok_runB env [11, 20] rfl ?_
      obtain ⟨x3, hx, h⟩ := bind_some h
      refine Ok_call (H_F_token_run _ _ hx) ?_
      refine Ok_runB env [11, 20] rfl ?_
      obtain ⟨x4, hx, h⟩ := bind_some h
      refine Ok_ssubT env hx rfl rfl rfl rfl rfl ?_
      refine Ok_runB env [11, 20] rfl ?_
      obtain ⟨x5, hx, h⟩ := bind_some h
      refine Ok_call (H_F_token_integer _ _ hx) ?_
      refine Ok_runB env [11, 20] rfl ?_
      refine Ok_cond (fun hb => ?_) (fun hb => ?_)
      · replace h := ite_t hb h
        refine Ok_runB env [11, 20] rfl ?_
        cases h
        exact Ok_fin env rfl rfl (told_eq rfl)
      · replace h := ite_f hb h
        refine Ok_runB env [11, 20] rfl ?_
        exact Ok_bar_to (by kernel_rfl) rfl (less_at (by simp [leFT, leV, leOs, leO, leC, rho, AV.ren, AV.ren1, AV.un, AV.un1, AV.closed, wkS] <;> (repeat' apply And.intro) <;> first | rfl) (by simp [leFT, leV, leOs, leO, leC, rho, AV.ren, AV.ren1, AV.un, AV.un1, AV.closed, wkS] <;> (repeat' apply And.intro) <;> first | rfl)) (H_F_token_first_t11 _ h)
    · replace h := ite_f hb h
      refine Ok_runB env [11, 20] rfl ?_
      refine Ok_cond (fun hb => ?_) (fun hb => ?_)
      · replace h := ite_t hb h
        refine Ok_runB env [11, 20] rfl ?_
        obtain ⟨x6, hx, h⟩ := bind_some h
        refine Ok_call (H_F_token_run _ _ hx) ?_
        refine Ok_runB env [11, 20] rfl ?_
        refine Ok_cond (fun hb => ?_) (fun hb => ?_)
        · replace h := ite_t hb h
          refine Ok_runB env [11, 20] rfl ?_
          cases h
          exact Ok_fin env rfl rfl (told_eq rfl)
        · replace h := ite_f hb h
          refine Ok_runB env [11, 20] rfl ?_
          exact Ok_bar_to (by kernel_rfl) rfl (less_at (by simp [leFT, leV, leOs, leO, leC, rho, AV.ren, AV.ren1, AV.un, AV.un1, AV.closed, wkS] <;> (repeat' apply And.intro) <;> first | rfl) (by simp [leFT, leV, leOs, leO, leC, rho, AV.ren, AV.ren1, AV.un, AV.un1, AV.closed, wkS] <;> (repeat' apply And.intro) <;> first | rfl)) (H_F_token_first_t20 _ h)
      · replace h := ite_f hb h
        refine Ok_runB env [11, 20] rfl ?_
        refine Ok_cond (fun hb => ?_) (fun hb => ?_)
        · replace h := ite_t hb h
          refine Ok_runB env [11, 20] rfl ?_
          obtain ⟨x7, hx, h⟩ := bind_some h
          refine Ok_call (H_F_strings_HasPrefix _ _ _ hx) ?_
          refine Ok_runB env [11, 20] rfl ?_
          refine Ok_cond (fun hb => ?_) (fun hb => ?_)
          · replace h := ite_t hb h
            refine Ok_runB env [11, 20] rfl ?_
            cases h
            exact Ok_fin env rfl rfl (told_eq rfl)
          · replace h := ite_f hb h
            refine Ok_runB env [11, 20] rfl ?_
            obtain ⟨x8, hx, h⟩ := bind_some h
            refine Ok_call (H_F_strings_HasPrefix _ _ _ hx) ?_
            refine Ok_runB env [11, 20] rfl ?_
            refine Ok_cond (fun hb => ?_) (fun hb => ?_)
            · replace h := ite_t hb h
              refine Ok_runB env [11, 20] rfl ?_
              cases h
              exact Ok_fin env rfl rfl (told_eq rfl)
            · replace h := ite_f hb h
              refine Ok_runB env [11, 20] rfl ?_
              cases h
              exact Ok_fin env rfl rfl (told_eq rfl)
        · replace h := ite_f hb h
          refine Ok_runB env [11, 20] rfl ?_
          exact Ok_bar_to (by kernel_rfl) rfl (less_at (by simp [leFT, leV, leOs, leO, leC, rho, AV.ren, AV.ren1, AV.un, AV.un1, AV.closed, wkS] <;> (repeat' apply And.intro) <;> first | rfl) (by simp [leFT, leV, leOs, leO, leC, rho, AV.ren, AV.ren1, AV.un, AV.un1, AV.closed, wkS] <;> (repeat' apply And.intro) <;> first | rfl)) (H_F_token_first_t20 _ h)
/-- treemerge/token.first -/
theorem H_F_token_first (a0 : ByteArray) (r : Int × Int) (h : F_token_first a0 = some r) : M_F_token_first a0 r :=
  S_F_token_first a0 r (by rw [E_F_token_first] at h; exact h)
def F_token_Tokens_l0 (t0 : ByteArray) (t5 : (List Token)) (t6 : Int) : Option ((List Token) × Int × Int) :=
  F_trivia_End (nofix t0) (nofix t6) >>= fun x1 =>
  if (decide (x1 = (t0.size : Int))) = true then
    ssub t0 t6 (t0.size : Int) >>= fun x2 =>
    app 48 t5 ([(Token.mk (4 : Int) x2 (⟨#[]⟩) (t0.size : Int))]) >>= fun x3 =>
    some (x3, (0 : Int), (0 : Int))
  else
    ssub t0 x1 (t0.size : Int) >>= fun x4 =>
    F_token_first (nofix x4) >>= fun x5 =>
    if (decide (x5.2 = (0 : Int))) = true then
      some (([] : (List Token)), (1 : Int), x1)
    else
      ssub t0 t6 x1 >>= fun x6 =>
      ssub t0 x1 (IntKind.i64.wrap (x1 + x5.1)) >>= fun x7 =>
      app 48 t5 ([(Token.mk x5.2 x6 x7 x1)]) >>= fun x8 =>
      F_token_Tokens_l0 (nofix t0) (nofix x8) (IntKind.i64.wrap (x1 + x5.1))
  partial_fixpoint
@[reducible] def M_F_token_Tokens_l0 (t0 : ByteArray) (t5 : (List Token)) (t6 : Int) (r : (List Token) × Int × Int) : Prop :=
  Ok Tryd.prog Gt tt 58 0 (Ret Tryd.prog [.tmp 2, .tmp 3, .tmp 4] (fun y H => Told Tryd.prog Gt H y (.tup [(.sl 4 false (r.1.map Token.cells)), (.int .i64 r.2.1), (.int .i64 r.2.2)]))) (.again (loopOf [] Tryd.f38 0).1 (loopOf [] Tryd.f38 0).2 (.n (.str t0) (.n .undef .z (.n (.bs 4 0 0 0 t5.length) .z .z)) (.n .undef .z (.n (.int .i64 t6) .z .z))) 1 [(0, .row 56 (t5.map Token.cells).flatten)])
theorem E_F_token_Tokens_l0 (t0 : ByteArray) (t5 : (List Token)) (t6 : Int) : F_token_Tokens_l0 t0 t5 t6 = (
    F_trivia_End t0 t6 >>= fun x1 =>
    if (decide (x1 = (t0.size : Int))) = true then
      ssub t0 t6 (t0.size : Int) >>= fun x2 =>
      app 48 t5 ([(Token.mk (4 : Int) x2 (⟨#[]⟩) (t0.size : Int))]) >>= fun x3 =>
      some (x3, (0 : Int), (0 : Int))
    else
      ssub t0 x1 (t0.size : Int) >>= fun x4 =>
      F_token_first x4 >>= fun x5 =>
      if (decide (x5.2 = (0 : Int))) = true then
        some (([] : (List Token)), (1 : Int), x1)
      else
        ssub t0 t6 x1 >>= fun x6 =>
        ssub t0 x1 (IntKind.i64.wrap (x1 + x5.1)) >>= fun x7 =>
        app 48 t5 ([(Token.mk x5.2 x6 x7 x1)]) >>= fun x8 =>
        F_token_Tokens_l0 t0 x8 (IntKind.i64.wrap (x1 + x5.1))
    : Option ((List Token) × Int × Int)) := F_token_Tokens_l0.eq_def t0 t5 t6
set_option maxHeartbeats 4000000 in
theorem S_F_token_Tokens_l0 (F_token_Tokens_l0 : ByteArray → (List Token) → Int → Option ((List Token) × Int × Int)) (H_F_token_Tokens_l0 : ∀ (t0 : ByteArray) (t5 : (List Token)) (t6 : Int) (r : (List Token) × Int × Int), F_token_Tokens_l0 t0 t5 t6 = some r → M_F_token_Tokens_l0 t0 t5 t6 r) (t0 : ByteArray) (t5 : (List Token)) (t6 : Int) (r : (List Token) × Int × Int) (h : (
    F_trivia_End t0 t6 >>= fun x1 =>
    if (decide (x1 = (t0.size : Int))) = true then
      ssub t0 t6 (t0.size : Int) >>= fun x2 =>
      app 48 t5 ([(Token.mk (4 : Int) x2 (⟨#[]⟩) (t0.size : Int))]) >>= fun x3 =>
      some (x3, (0 : Int), (0 : Int))
    else
      ssub t0 x1 (t0.size : Int) >>= fun x4 =>
      F_token_first x4 >>= fun x5 =>
      if (decide (x5.2 = (0 : Int))) = true then
        some (([] : (List Token)), (1 : Int), x1)
      else
        ssub t0 t6 x1 >>= fun x6 =>
        ssub t0 x1 (IntKind.i64.wrap (x1 + x5.1)) >>= fun x7 =>
        app 48 t5 ([(Token.mk x5.2 x6 x7 x1)]) >>= fun x8 =>
        F_token_Tokens_l0 t0 x8 (IntKind.i64.wrap (x1 + x5.1))
    : Option ((List Token) × Int × Int)) = some r) : M_F_token_Tokens_l0 t0 t5 t6 r := by
  refine Ok_unroll ?_
  refine Ok_runB env [] rfl ?_
  obtain ⟨x1, hx, h⟩ := bind_some h
  refine Ok_call (H_F_trivia_End _ _ _ hx) ?_
  refine Ok_runB env [] rfl ?_
  refine Ok_cond (fun hb => ?_) (fun hb => ?_)
  · replace h := ite_t hb h
    refine Ok_runB env [] rfl ?_
    obtain ⟨x2, hx, h⟩ := bind_some h
    refine Ok_ssubT env hx rfl rfl rfl rfl rfl ?_
    refine Ok_runB env [] rfl ?_
    obtain ⟨x3, hx, h⟩ := bind_some h
    have hp_x3 := app_pos hx (by simp)
    refine Ok_appO env hx rfl rfl (by simp) (fun _ => rfl) rfl rfl rfl rfl rfl (by decide) rfl rfl rfl ?_
    refine Ok_runB env [] rfl ?_
    cases h
    exact Ok_fin env rfl rfl (told_view (viewT_tup (viewLs_cons (view_one (view_own Token_ok rfl) (by simp)) (viewLs_cons (view_one (view1_int rfl) (by simp)) (viewLs_cons (view_one (view1_int rfl) (by simp)) viewLs_nil)))))
  · replace h := ite_f hb h
    refine Ok_runB env [] rfl ?_
    obtain ⟨x4, hx, h⟩ := bind_some h
    refine Ok_ssubT env hx rfl rfl rfl rfl rfl ?_
    refine Ok_runB env [] rfl ?_
    obtain ⟨x5, hx, h⟩ := bind_some h
    refine Ok_call (H_F_token_first _ _ hx) ?_
    refine Ok_runB env [] rfl ?_
    refine Ok_cond (fun hb => ?_) (fun hb => ?_)
    · replace h := ite_t hb h
      refine Ok_runB env [] rfl ?_
      cases h
      exact Ok_fin env rfl rfl (told_view (viewT_tup (viewLs_cons (view_one (view1_sl (.inr rfl)) (by simp)) (viewLs_cons (view_one (view1_int rfl) (by simp)) (viewLs_cons (view_one (view1_int rfl) (by simp)) viewLs_nil)))))
    · replace h := ite_f hb h
      refine Ok_runB env [] rfl ?_
      obtain ⟨x6, hx, h⟩ := bind_some h
      refine Ok_ssubT env hx rfl rfl rfl rfl rfl ?_
      refine Ok_runB env [] rfl ?_
      obtain ⟨x7, hx, h⟩ := bind_some h
      refine Ok_ssubT env hx rfl rfl rfl rfl rfl ?_
      refine Ok_runB env [] rfl ?_
      obtain ⟨x8, hx, h⟩ := bind_some h
      have hp_x8 := app_pos hx (by simp)
      refine Ok_appO env hx rfl rfl (by simp) (fun _ => rfl) rfl rfl rfl rfl rfl (by decide) rfl rfl rfl ?_
      refine Ok_runB env [] rfl ?_
      exact Ok_again_to (by kernel_rfl) (less_at (by simp [leFT, leV, leOs, leO, leC, rho, AV.ren, AV.ren1, AV.un, AV.un1, AV.closed, wkS] <;> (repeat' apply And.intro) <;> first | rfl | exact fun x a _ h => (Token_ok.all a x h).2) (by simp [leFT, leV, leOs, leO, leC, rho, AV.ren, AV.ren1, AV.un, AV.un1, AV.closed, wkS] <;> (repeat' apply And.intro) <;> first | rfl | exact fun x a _ h => (Token_ok.all a x h).2)) (H_F_token_Tokens_l0 _ _ _ _ h)
/-- treemerge/token.Tokens -/
theorem H_F_token_Tokens_l0 (t0 : ByteArray) (t5 : (List Token)) (t6 : Int) (r : (List Token) × Int × Int) (h : F_token_Tokens_l0 t0 t5 t6 = some r) : M_F_token_Tokens_l0 t0 t5 t6 r :=
  F_token_Tokens_l0.partial_correctness (fun t0 t5 t6 r => M_F_token_Tokens_l0 t0 t5 t6 r) (fun F0 h0 => S_F_token_Tokens_l0 F0 h0) t0 t5 t6 r h
def F_token_Tokens (a0 : ByteArray) : Option ((List Token) × Int × Int) :=
  if (decide ((65536 : Int) < (a0.size : Int))) = true then
    some (([] : (List Token)), (3 : Int), (0 : Int))
  else
    F_token_Tokens_l0 a0 ([] : List Token) (0 : Int)
@[reducible] def M_F_token_Tokens (a0 : ByteArray) (r : (List Token) × Int × Int) : Prop :=
  Fn Tryd.prog Gt 38 [(.str a0)] (.tup [(.sl 4 false (r.1.map Token.cells)), (.int .i64 r.2.1), (.int .i64 r.2.2)])
theorem E_F_token_Tokens (a0 : ByteArray) : F_token_Tokens a0 = (
    if (decide ((65536 : Int) < (a0.size : Int))) = true then
      some (([] : (List Token)), (3 : Int), (0 : Int))
    else
      F_token_Tokens_l0 a0 ([] : List Token) (0 : Int)
    : Option ((List Token) × Int × Int)) := F_token_Tokens.eq_def a0
set_option maxHeartbeats 4000000 in
theorem S_F_token_Tokens  (a0 : ByteArray) (r : (List Token) × Int × Int) (h : (
    if (decide ((65536 : Int) < (a0.size : Int))) = true then
      some (([] : (List Token)), (3 : Int), (0 : Int))
    else
      F_token_Tokens_l0 a0 ([] : List Token) (0 : Int)
    : Option ((List Token) × Int × Int)) = some r) : M_F_token_Tokens a0 r := by
  refine Fn_run (T := tt) (N := 58) (rs := [.tmp 2, .tmp 3, .tmp 4]) (fun vs w => by simp) Tryd.func38 rfl rfl rfl rfl (by kernel_rfl) (all_pure3 rfl) (closed3_pure _ rfl) ?_
  refine Ok_runB env [] rfl ?_
  refine Ok_cond (fun hb => ?_) (fun hb => ?_)
  · replace h := ite_t hb h
    refine Ok_runB env [] rfl ?_
    cases h
    exact Ok_fin env rfl rfl (told_view (viewT_tup (viewLs_cons (view_one (view1_sl (.inr rfl)) (by simp)) (viewLs_cons (view_one (view1_int rfl) (by simp)) (viewLs_cons (view_one (view1_int rfl) (by simp)) viewLs_nil)))))
  · replace h := ite_f hb h
    refine Ok_runB env [] rfl ?_
    refine Ok_own 5 _ 4 56 rfl rfl ?_
    exact Ok_loop_to (by kernel_rfl) (less_at (by simp [leFT, leV, leOs, leO, leC, rho, AV.ren, AV.ren1, AV.un, AV.un1, AV.closed, wkS] <;> (repeat' apply And.intro) <;> first | rfl | exact fun x a _ h => (Token_ok.all a x h).2) (by simp [leFT, leV, leOs, leO, leC, rho, AV.ren, AV.ren1, AV.un, AV.un1, AV.closed, wkS] <;> (repeat' apply And.intro) <;> first | rfl | exact fun x a _ h => (Token_ok.all a x h).2)) (H_F_token_Tokens_l0 _ _ _ _ h)
/-- treemerge/token.Tokens -/
theorem H_F_token_Tokens (a0 : ByteArray) (r : (List Token) × Int × Int) (h : F_token_Tokens a0 = some r) : M_F_token_Tokens a0 r :=
  S_F_token_Tokens a0 r (by rw [E_F_token_Tokens] at h; exact h)
def F_token_Glue_t11 (t0 : ByteArray) (t1 : ByteArray) : Option (Bool) :=
  if (decide (t0 = (⟨#[47]⟩ : ByteArray))) = true then
    some (decide (t1 = (⟨#[47]⟩ : ByteArray)))
  else
    some false
@[reducible] def M_F_token_Glue_t11 (t0 : ByteArray) (t1 : ByteArray) (r : Bool) : Prop :=
  Ok Tryd.prog Gt tt 38 0 (Ret Tryd.prog [.tmp 4] (fun y H => Told Tryd.prog Gt H y (.bool r))) (.go [] (testOf [11] Tryd.f41 11) [] (.n (.str t0) (.n (.str t1) .z .z) .z) 0 [])
theorem E_F_token_Glue_t11 (t0 : ByteArray) (t1 : ByteArray) : F_token_Glue_t11 t0 t1 = (
    if (decide (t0 = (⟨#[47]⟩ : ByteArray))) = true then
      some (decide (t1 = (⟨#[47]⟩ : ByteArray)))
    else
      some false
    : Option (Bool)) := F_token_Glue_t11.eq_def t0 t1
set_option maxHeartbeats 4000000 in
theorem S_F_token_Glue_t11  (t0 : ByteArray) (t1 : ByteArray) (r : Bool) (h : (
    if (decide (t0 = (⟨#[47]⟩ : ByteArray))) = true then
      some (decide (t1 = (⟨#[47]⟩ : ByteArray)))
    else
      some false
    : Option (Bool)) = some r) : M_F_token_Glue_t11 t0 t1 r := by
  refine Ok_runB env [11] rfl ?_
  refine Ok_guard_t (fun hb => ?_) (fun hb => ?_)
  · replace h := ite_t hb h
    refine Ok_runB env [11] rfl ?_
    cases h
    exact Ok_fin env rfl rfl (told_eq rfl)
  · replace h := ite_f hb h
    refine Ok_runB env [11] rfl ?_
    cases h
    exact Ok_fin env rfl rfl (told_eq rfl)
/-- treemerge/token.Glue -/
theorem H_F_token_Glue_t11 (t0 : ByteArray) (t1 : ByteArray) (r : Bool) (h : F_token_Glue_t11 t0 t1 = some r) : M_F_token_Glue_t11 t0 t1 r :=
  S_F_token_Glue_t11 t0 t1 r (by rw [E_F_token_Glue_t11] at h; exact h)
def F_token_Glue (a0 : ByteArray) (a1 : ByteArray) : Option (Bool) :=
  if (decide (a0 = (⟨#[]⟩ : ByteArray))) = true then
    some false
  else
    if (decide (a1 = (⟨#[]⟩ : ByteArray))) = true then
      some false
    else
      sx a0 (IntKind.i64.wrap ((a0.size : Int) - (1 : Int))) >>= fun x1 =>
      F_token_wordy x1 >>= fun x2 =>
      if x2 = true then
        sx a1 (0 : Int) >>= fun x3 =>
        F_token_wordy x3 >>= fun x4 =>
        if x4 = true then
          some true
        else
          if (decide (a0 = (⟨#[61]⟩ : ByteArray))) = true then
            if (decide (a1 = (⟨#[61]⟩ : ByteArray))) = true then
              some true
            else
              some (decide (a1 = (⟨#[61, 61]⟩ : ByteArray)))
          else
            F_token_Glue_t11 a0 a1
      else
        if (decide (a0 = (⟨#[61]⟩ : ByteArray))) = true then
          if (decide (a1 = (⟨#[61]⟩ : ByteArray))) = true then
            some true
          else
            some (decide (a1 = (⟨#[61, 61]⟩ : ByteArray)))
        else
          F_token_Glue_t11 a0 a1
@[reducible] def M_F_token_Glue (a0 : ByteArray) (a1 : ByteArray) (r : Bool) : Prop :=
  Fn Tryd.prog Gt 41 [(.str a0), (.str a1)] (.bool r)
theorem E_F_token_Glue (a0 : ByteArray) (a1 : ByteArray) : F_token_Glue a0 a1 = (
    if (decide (a0 = (⟨#[]⟩ : ByteArray))) = true then
      some false
    else
      if (decide (a1 = (⟨#[]⟩ : ByteArray))) = true then
        some false
      else
        sx a0 (IntKind.i64.wrap ((a0.size : Int) - (1 : Int))) >>= fun x1 =>
        F_token_wordy x1 >>= fun x2 =>
        if x2 = true then
          sx a1 (0 : Int) >>= fun x3 =>
          F_token_wordy x3 >>= fun x4 =>
          if x4 = true then
            some true
          else
            if (decide (a0 = (⟨#[61]⟩ : ByteArray))) = true then
              if (decide (a1 = (⟨#[61]⟩ : ByteArray))) = true then
                some true
              else
                some (decide (a1 = (⟨#[61, 61]⟩ : ByteArray)))
            else
              F_token_Glue_t11 a0 a1
        else
          if (decide (a0 = (⟨#[61]⟩ : ByteArray))) = true then
            if (decide (a1 = (⟨#[61]⟩ : ByteArray))) = true then
              some true
            else
              some (decide (a1 = (⟨#[61, 61]⟩ : ByteArray)))
          else
            F_token_Glue_t11 a0 a1
    : Option (Bool)) := F_token_Glue.eq_def a0 a1
set_option maxHeartbeats 4000000 in
theorem S_F_token_Glue  (a0 : ByteArray) (a1 : ByteArray) (r : Bool) (h : (
    if (decide (a0 = (⟨#[]⟩ : ByteArray))) = true then
      some false
    else
      if (decide (a1 = (⟨#[]⟩ : ByteArray))) = true then
        some false
      else
        sx a0 (IntKind.i64.wrap ((a0.size : Int) - (1 : Int))) >>= fun x1 =>
        F_token_wordy x1 >>= fun x2 =>
        if x2 = true then
          sx a1 (0 : Int) >>= fun x3 =>
          F_token_wordy x3 >>= fun x4 =>
          if x4 = true then
            some true
          else
            if (decide (a0 = (⟨#[61]⟩ : ByteArray))) = true then
              if (decide (a1 = (⟨#[61]⟩ : ByteArray))) = true then
                some true
              else
                some (decide (a1 = (⟨#[61, 61]⟩ : ByteArray)))
            else
              F_token_Glue_t11 a0 a1
        else
          if (decide (a0 = (⟨#[61]⟩ : ByteArray))) = true then
            if (decide (a1 = (⟨#[61]⟩ : ByteArray))) = true then
              some true
            else
              some (decide (a1 = (⟨#[61, 61]⟩ : ByteArray)))
          else
            F_token_Glue_t11 a0 a1
    : Option (Bool)) = some r) : M_F_token_Glue a0 a1 r := by
  refine Fn_run (T := tt) (N := 38) (rs := [.tmp 4]) (fun vs w => by simp) Tryd.func41 rfl rfl rfl rfl (by kernel_rfl) (all_pure3 rfl) (closed3_pure _ rfl) ?_
  refine Ok_runB env [11] rfl ?_
  refine Ok_guard_f (fun hb => ?_) (fun hb => ?_)
  · replace h := ite_f hb h
    refine Ok_runB env [11] rfl ?_
    refine Ok_cond (fun hb => ?_) (fun hb => ?_)
    · replace h := ite_t hb h
      refine Ok_runB env [11] rfl ?_
      cases h
      exact Ok_fin env rfl rfl (told_eq rfl)
    · replace h := ite_f hb h
      refine Ok_runB env [11] rfl ?_
      obtain ⟨x1, hx, h⟩ := bind_some h
      refine Ok_sxT env hx rfl rfl rfl rfl ?_
      refine Ok_runB env [11] rfl ?_
      obtain ⟨x2, hx, h⟩ := bind_some h
      refine Ok_call (H_F_token_wordy _ _ hx) ?_
      refine Ok_runB env [11] rfl ?_
      refine Ok_guard_t (fun hb => ?_) (fun hb => ?_)
      · replace h := ite_t hb h
        refine Ok_runB env [11] rfl ?_
        obtain ⟨x3, hx, h⟩ := bind_some h
        refine Ok_sxT env hx rfl rfl rfl rfl ?_
        refine Ok_runB env [11] rfl ?_
        obtain ⟨x4, hx, h⟩ := bind_some h
        refine Ok_call (H_F_token_wordy _ _ hx) ?_
        refine Ok_runB env [11] rfl ?_
        refine Ok_cond (fun hb => ?_) (fun hb => ?_)
        · replace h := ite_t hb h
          refine Ok_runB env [11] rfl ?_
          cases h
          exact Ok_fin env rfl rfl (told_eq rfl)
        · replace h := ite_f hb h
          refine Ok_runB env [11] rfl ?_
          refine Ok_cond (fun hb => ?_) (fun hb => ?_)
          · replace h := ite_t hb h
            refine Ok_runB env [11] rfl ?_
            refine Ok_guard_f (fun hb => ?_) (fun hb => ?_)
            · replace h := ite_f hb h
              refine Ok_runB env [11] rfl ?_
              cases h
              exact Ok_fin env rfl rfl (told_eq rfl)
            · replace h := ite_t hb h
              refine Ok_runB env [11] rfl ?_
              cases h
              exact Ok_fin env rfl rfl (told_eq rfl)
          · replace h := ite_f hb h
            refine Ok_runB env [11] rfl ?_
            exact Ok_bar_to (by kernel_rfl) rfl (less_at (by simp [leFT, leV, leOs, leO, leC, rho, AV.ren, AV.ren1, AV.un, AV.un1, AV.closed, wkS] <;> (repeat' apply And.intro) <;> first | rfl) (by simp [leFT, leV, leOs, leO, leC, rho, AV.ren, AV.ren1, AV.un, AV.un1, AV.closed, wkS] <;> (repeat' apply And.intro) <;> first | rfl)) (H_F_token_Glue_t11 _ _ _ h)
      · replace h := ite_f hb h
        refine Ok_runB env [11] rfl ?_
        refine Ok_cond (fun hb => ?_) (fun hb => ?_)
        · replace h := ite_t hb h
          refine Ok_runB env [11] rfl ?_
          refine Ok_guard_f (fun hb => ?_) (fun hb => ?_)
          · replace h := ite_f hb h
            refine Ok_runB env [11] rfl ?_
            cases h
            exact Ok_fin env rfl rfl (told_eq rfl)
          · replace h := ite_t hb h
            refine Ok_runB env [11] rfl ?_
            cases h
            exact Ok_fin env rfl rfl (told_eq rfl)
        · replace h := ite_f hb h
          refine Ok_runB env [11] rfl ?_
          exact Ok_bar_to (by kernel_rfl) rfl (less_at (by simp [leFT, leV, leOs, leO, leC, rho, AV.ren, AV.ren1, AV.un, AV.un1, AV.closed, wkS] <;> (repeat' apply And.intro) <;> first | rfl) (by simp [leFT, leV, leOs, leO, leC, rho, AV.ren, AV.ren1, AV.un, AV.un1, AV.closed, wkS] <;> (repeat' apply And.intro) <;> first | rfl)) (H_F_token_Glue_t11 _ _ _ h)
  · replace h := ite_t hb h
    refine Ok_runB env [11] rfl ?_
    cases h
    exact Ok_fin env rfl rfl (told_eq rfl)
/-- treemerge/token.Glue -/
theorem H_F_token_Glue (a0 : ByteArray) (a1 : ByteArray) (r : Bool) (h : F_token_Glue a0 a1 = some r) : M_F_token_Glue a0 a1 r :=
  S_F_token_Glue a0 a1 r (by rw [E_F_token_Glue] at h; exact h)
def F_token_Kind (a0 : ByteArray) : Option (Int) :=
  F_token_first a0 >>= fun x1 =>
  if (!decide (x1.1 = (a0.size : Int))) = true then
    some (0 : Int)
  else
    some x1.2
@[reducible] def M_F_token_Kind (a0 : ByteArray) (r : Int) : Prop :=
  Fn Tryd.prog Gt 43 [(.str a0)] (.int .i64 r)
theorem E_F_token_Kind (a0 : ByteArray) : F_token_Kind a0 = (
    F_token_first a0 >>= fun x1 =>
    if (!decide (x1.1 = (a0.size : Int))) = true then
      some (0 : Int)
    else
      some x1.2
    : Option (Int)) := F_token_Kind.eq_def a0
set_option maxHeartbeats 4000000 in
theorem S_F_token_Kind  (a0 : ByteArray) (r : Int) (h : (
    F_token_first a0 >>= fun x1 =>
    if (!decide (x1.1 = (a0.size : Int))) = true then
      some (0 : Int)
    else
      some x1.2
    : Option (Int)) = some r) : M_F_token_Kind a0 r := by
  refine Fn_run (T := tt) (N := 15) (rs := [.tmp 2]) (fun vs w => by simp) Tryd.func43 rfl rfl rfl rfl (by kernel_rfl) (all_pure3 rfl) (closed3_pure _ rfl) ?_
  refine Ok_runB env [] rfl ?_
  obtain ⟨x1, hx, h⟩ := bind_some h
  refine Ok_call (H_F_token_first _ _ hx) ?_
  refine Ok_runB env [] rfl ?_
  refine Ok_cond (fun hb => ?_) (fun hb => ?_)
  · replace h := ite_t hb h
    refine Ok_runB env [] rfl ?_
    cases h
    exact Ok_fin env rfl rfl (told_eq rfl)
  · replace h := ite_f hb h
    refine Ok_runB env [] rfl ?_
    cases h
    exact Ok_fin env rfl rfl (told_eq rfl)
/-- treemerge/token.Kind -/
theorem H_F_token_Kind (a0 : ByteArray) (r : Int) (h : F_token_Kind a0 = some r) : M_F_token_Kind a0 r :=
  S_F_token_Kind a0 r (by rw [E_F_token_Kind] at h; exact h)
def F_L5_awake  : Option (Bool) :=
  F_token_Tokens (⟨#[97, 61, 49, 59]⟩ : ByteArray) >>= fun x1 =>
  F_token_Tokens (⟨#[97, 32, 48, 49]⟩ : ByteArray) >>= fun x2 =>
  F_token_Tokens (⟨#[97, 32, 47, 47, 32, 120]⟩ : ByteArray) >>= fun x3 =>
  F_token_Tokens (⟨#[32]⟩ : ByteArray) >>= fun x4 =>
  if (decide (x1.2.1 = (0 : Int))) = true then
    if (decide (x1.2.2 = (0 : Int))) = true then
      if (decide (((x1.1.map Token.cells).length : Int) = (5 : Int))) = true then
        ix x1.1 (2 : Int) >>= fun x5 =>
        if (decide (x5.Text = (⟨#[49]⟩ : ByteArray))) = true then
          ix x1.1 (2 : Int) >>= fun x6 =>
          if (decide (x6.Kind = (2 : Int))) = true then
            ix x1.1 (4 : Int) >>= fun x7 =>
            if (decide (x7.Kind = (4 : Int))) = true then
              ix x1.1 (4 : Int) >>= fun x8 =>
              if (decide (x8.At = (4 : Int))) = true then
                if (decide (x2.2.1 = (1 : Int))) = true then
                  if (decide (x2.2.2 = (2 : Int))) = true then
                    if (decide (x3.2.1 = (1 : Int))) = true then
                      if (decide (x3.2.2 = (2 : Int))) = true then
                        if (decide (x4.2.1 = (0 : Int))) = true then
                          if (decide (((x4.1.map Token.cells).length : Int) = (1 : Int))) = true then
                            ix x4.1 (0 : Int) >>= fun x9 =>
                            if (decide (x9.Lead = (⟨#[32]⟩ : ByteArray))) = true then
                              F_token_Join x1.1 >>= fun x10 =>
                              if (decide (x10 = (⟨#[97, 61, 49, 59]⟩ : ByteArray))) = true then
                                F_token_Glue (⟨#[97]⟩ : ByteArray) (⟨#[49]⟩ : ByteArray) >>= fun x11 =>
                                if x11 = true then
                                  F_token_Glue (⟨#[61, 61]⟩ : ByteArray) (⟨#[61]⟩ : ByteArray) >>= fun x12 =>
                                  if (!x12) = true then
                                    F_token_Kind (⟨#[102, 110]⟩ : ByteArray) >>= fun x13 =>
                                    if (decide (x13 = (1 : Int))) = true then
                                      F_token_Kind (⟨#[49, 48, 48, 48, 48, 48, 48, 48, 48, 48, 48, 48, 49]⟩ : ByteArray) >>= fun x14 =>
                                      some (decide (x14 = (0 : Int)))
                                    else
                                      some false
                                  else
                                    some false
                                else
                                  some false
                              else
                                some false
                            else
                              some false
                          else
                            some false
                        else
                          some false
                      else
                        some false
                    else
                      some false
                  else
                    some false
                else
                  some false
              else
                some false
            else
              some false
          else
            some false
        else
          some false
      else
        some false
    else
      some false
  else
    some false
@[reducible] def M_F_L5_awake  (r : Bool) : Prop :=
  Fn Tryd.prog Gt 37 [] (.bool r)
theorem E_F_L5_awake  : F_L5_awake  = (
    F_token_Tokens (⟨#[97, 61, 49, 59]⟩ : ByteArray) >>= fun x1 =>
    F_token_Tokens (⟨#[97, 32, 48, 49]⟩ : ByteArray) >>= fun x2 =>
    F_token_Tokens (⟨#[97, 32, 47, 47, 32, 120]⟩ : ByteArray) >>= fun x3 =>
    F_token_Tokens (⟨#[32]⟩ : ByteArray) >>= fun x4 =>
    if (decide (x1.2.1 = (0 : Int))) = true then
      if (decide (x1.2.2 = (0 : Int))) = true then
        if (decide (((x1.1.map Token.cells).length : Int) = (5 : Int))) = true then
          ix x1.1 (2 : Int) >>= fun x5 =>
          if (decide (x5.Text = (⟨#[49]⟩ : ByteArray))) = true then
            ix x1.1 (2 : Int) >>= fun x6 =>
            if (decide (x6.Kind = (2 : Int))) = true then
              ix x1.1 (4 : Int) >>= fun x7 =>
              if (decide (x7.Kind = (4 : Int))) = true then
                ix x1.1 (4 : Int) >>= fun x8 =>
                if (decide (x8.At = (4 : Int))) = true then
                  if (decide (x2.2.1 = (1 : Int))) = true then
                    if (decide (x2.2.2 = (2 : Int))) = true then
                      if (decide (x3.2.1 = (1 : Int))) = true then
                        if (decide (x3.2.2 = (2 : Int))) = true then
                          if (decide (x4.2.1 = (0 : Int))) = true then
                            if (decide (((x4.1.map Token.cells).length : Int) = (1 : Int))) = true then
                              ix x4.1 (0 : Int) >>= fun x9 =>
                              if (decide (x9.Lead = (⟨#[32]⟩ : ByteArray))) = true then
                                F_token_Join x1.1 >>= fun x10 =>
                                if (decide (x10 = (⟨#[97, 61, 49, 59]⟩ : ByteArray))) = true then
                                  F_token_Glue (⟨#[97]⟩ : ByteArray) (⟨#[49]⟩ : ByteArray) >>= fun x11 =>
                                  if x11 = true then
                                    F_token_Glue (⟨#[61, 61]⟩ : ByteArray) (⟨#[61]⟩ : ByteArray) >>= fun x12 =>
                                    if (!x12) = true then
                                      F_token_Kind (⟨#[102, 110]⟩ : ByteArray) >>= fun x13 =>
                                      if (decide (x13 = (1 : Int))) = true then
                                        F_token_Kind (⟨#[49, 48, 48, 48, 48, 48, 48, 48, 48, 48, 48, 48, 49]⟩ : ByteArray) >>= fun x14 =>
                                        some (decide (x14 = (0 : Int)))
                                      else
                                        some false
                                    else
                                      some false
                                  else
                                    some false
                                else
                                  some false
                              else
                                some false
                            else
                              some false
                          else
                            some false
                        else
                          some false
                      else
                        some false
                    else
                      some false
                  else
                    some false
                else
                  some false
              else
                some false
            else
              some false
          else
            some false
        else
          some false
      else
        some false
    else
      some false
    : Option (Bool)) := F_L5_awake.eq_def 
set_option maxHeartbeats 4000000 in
theorem S_F_L5_awake   (r : Bool) (h : (
    F_token_Tokens (⟨#[97, 61, 49, 59]⟩ : ByteArray) >>= fun x1 =>
    F_token_Tokens (⟨#[97, 32, 48, 49]⟩ : ByteArray) >>= fun x2 =>
    F_token_Tokens (⟨#[97, 32, 47, 47, 32, 120]⟩ : ByteArray) >>= fun x3 =>
    F_token_Tokens (⟨#[32]⟩ : ByteArray) >>= fun x4 =>
    if (decide (x1.2.1 = (0 : Int))) = true then
      if (decide (x1.2.2 = (0 : Int))) = true then
        if (decide (((x1.1.map Token.cells).length : Int) = (5 : Int))) = true then
          ix x1.1 (2 : Int) >>= fun x5 =>
          if (decide (x5.Text = (⟨#[49]⟩ : ByteArray))) = true then
            ix x1.1 (2 : Int) >>= fun x6 =>
            if (decide (x6.Kind = (2 : Int))) = true then
              ix x1.1 (4 : Int) >>= fun x7 =>
              if (decide (x7.Kind = (4 : Int))) = true then
                ix x1.1 (4 : Int) >>= fun x8 =>
                if (decide (x8.At = (4 : Int))) = true then
                  if (decide (x2.2.1 = (1 : Int))) = true then
                    if (decide (x2.2.2 = (2 : Int))) = true then
                      if (decide (x3.2.1 = (1 : Int))) = true then
                        if (decide (x3.2.2 = (2 : Int))) = true then
                          if (decide (x4.2.1 = (0 : Int))) = true then
                            if (decide (((x4.1.map Token.cells).length : Int) = (1 : Int))) = true then
                              ix x4.1 (0 : Int) >>= fun x9 =>
                              if (decide (x9.Lead = (⟨#[32]⟩ : ByteArray))) = true then
                                F_token_Join x1.1 >>= fun x10 =>
                                if (decide (x10 = (⟨#[97, 61, 49, 59]⟩ : ByteArray))) = true then
                                  F_token_Glue (⟨#[97]⟩ : ByteArray) (⟨#[49]⟩ : ByteArray) >>= fun x11 =>
                                  if x11 = true then
                                    F_token_Glue (⟨#[61, 61]⟩ : ByteArray) (⟨#[61]⟩ : ByteArray) >>= fun x12 =>
                                    if (!x12) = true then
                                      F_token_Kind (⟨#[102, 110]⟩ : ByteArray) >>= fun x13 =>
                                      if (decide (x13 = (1 : Int))) = true then
                                        F_token_Kind (⟨#[49, 48, 48, 48, 48, 48, 48, 48, 48, 48, 48, 48, 49]⟩ : ByteArray) >>= fun x14 =>
                                        some (decide (x14 = (0 : Int)))
                                      else
                                        some false
                                    else
                                      some false
                                  else
                                    some false
                                else
                                  some false
                              else
                                some false
                            else
                              some false
                          else
                            some false
                        else
                          some false
                      else
                        some false
                    else
                      some false
                  else
                    some false
                else
                  some false
              else
                some false
            else
              some false
          else
            some false
        else
          some false
      else
        some false
    else
      some false
    : Option (Bool)) = some r) : M_F_L5_awake  r := by
  refine Fn_run (T := tt) (N := 124) (rs := [.tmp 0]) (fun vs w => by simp) Tryd.func37 rfl rfl rfl rfl (by kernel_rfl) (all_pure3 rfl) (closed3_pure _ rfl) ?_
  refine Ok_runB env [] rfl ?_
  obtain ⟨x1, hx, h⟩ := bind_some h
  refine Ok_call (H_F_token_Tokens _ _ hx) ?_
  refine Ok_runB env [] rfl ?_
  obtain ⟨x2, hx, h⟩ := bind_some h
  refine Ok_call (H_F_token_Tokens _ _ hx) ?_
  refine Ok_runB env [] rfl ?_
  obtain ⟨x3, hx, h⟩ := bind_some h
  refine Ok_call (H_F_token_Tokens _ _ hx) ?_
  refine Ok_runB env [] rfl ?_
  obtain ⟨x4, hx, h⟩ := bind_some h
  refine Ok_call (H_F_token_Tokens _ _ hx) ?_
  refine Ok_runB env [] rfl ?_
  refine Ok_guard_t (fun hb => ?_) (fun hb => ?_)
  · replace h := ite_t hb h
    refine Ok_runB env [] rfl ?_
    refine Ok_guard_t (fun hb => ?_) (fun hb => ?_)
    · replace h := ite_t hb h
      refine Ok_runB env [] rfl ?_
      refine Ok_guard_t (fun hb => ?_) (fun hb => ?_)
      · replace h := ite_t hb h
        refine Ok_runB env [] rfl ?_
        obtain ⟨x5, hx, h⟩ := bind_some h
        refine Ok_ixT env hx rfl rfl rfl rfl rfl ?_
        refine Ok_runB env [] rfl ?_
        refine Ok_guard_t (fun hb => ?_) (fun hb => ?_)
        · replace h := ite_t hb h
          refine Ok_runB env [] rfl ?_
          obtain ⟨x6, hx, h⟩ := bind_some h
          refine Ok_ixT env hx rfl rfl rfl rfl rfl ?_
          refine Ok_runB env [] rfl ?_
          refine Ok_guard_t (fun hb => ?_) (fun hb => ?_)
          · replace h := ite_t hb h
            refine Ok_runB env [] rfl ?_
            obtain ⟨x7, hx, h⟩ := bind_some h
            refine Ok_ixT env hx rfl rfl rfl rfl rfl ?_
            refine Ok_runB env [] rfl ?_
            refine Ok_guard_t (fun hb => ?_) (fun hb => ?_)
            · replace h := ite_t hb h
              refine Ok_runB env [] rfl ?_
              obtain ⟨x8, hx, h⟩ := bind_some h
              refine Ok_ixT env hx rfl rfl rfl rfl rfl ?_
              refine Ok_runB env [] rfl ?_
              refine Ok_guard_t (fun hb => ?_) (fun hb => ?_)
              · replace h := ite_t hb h
                refine Ok_runB env [] rfl ?_
                refine Ok_guard_t (fun hb => ?_) (fun hb => ?_)
                · replace h := ite_t hb h
                  refine Ok_runB env [] rfl ?_
                  refine Ok_guard_t (fun hb => ?_) (fun hb => ?_)
                  · replace h := ite_t hb h
                    refine Ok_runB env [] rfl ?_
                    refine Ok_guard_t (fun hb => ?_) (fun hb => ?_)
                    · replace h := ite_t hb h
                      refine Ok_runB env [] rfl ?_
                      refine Ok_guard_t (fun hb => ?_) (fun hb => ?_)
                      · replace h := ite_t hb h
                        refine Ok_runB env [] rfl ?_
                        refine Ok_guard_t (fun hb => ?_) (fun hb => ?_)
                        · replace h := ite_t hb h
                          refine Ok_runB env [] rfl ?_
                          refine Ok_guard_t (fun hb => ?_) (fun hb => ?_)
                          · replace h := ite_t hb h
                            refine Ok_runB env [] rfl ?_
                            obtain ⟨x9, hx, h⟩ := bind_some h
                            refine Ok_ixT env hx rfl rfl rfl rfl rfl ?_
                            refine Ok_runB env [] rfl ?_
                            refine Ok_guard_t (fun hb => ?_) (fun hb => ?_)
                            · replace h := ite_t hb h
                              refine Ok_runB env [] rfl ?_
                              obtain ⟨x10, hx, h⟩ := bind_some h
                              refine Ok_call (H_F_token_Join _ _ hx) ?_
                              refine Ok_runB env [] rfl ?_
                              refine Ok_guard_t (fun hb => ?_) (fun hb => ?_)
                              · replace h := ite_t hb h
                                refine Ok_runB env [] rfl ?_
                                obtain ⟨x11, hx, h⟩ := bind_some h
                                refine Ok_call (H_F_token_Glue _ _ _ hx) ?_
                                refine Ok_runB env [] rfl ?_
                                refine Ok_guard_t (fun hb => ?_) (fun hb => ?_)
                                · replace h := ite_t hb h
                                  refine Ok_runB env [] rfl ?_
                                  obtain ⟨x12, hx, h⟩ := bind_some h
                                  refine Ok_call (H_F_token_Glue _ _ _ hx) ?_
                                  refine Ok_runB env [] rfl ?_
                                  refine Ok_guard_t (fun hb => ?_) (fun hb => ?_)
                                  · replace h := ite_t hb h
                                    refine Ok_runB env [] rfl ?_
                                    obtain ⟨x13, hx, h⟩ := bind_some h
                                    refine Ok_call (H_F_token_Kind _ _ hx) ?_
                                    refine Ok_runB env [] rfl ?_
                                    refine Ok_guard_t (fun hb => ?_) (fun hb => ?_)
                                    · replace h := ite_t hb h
                                      refine Ok_runB env [] rfl ?_
                                      obtain ⟨x14, hx, h⟩ := bind_some h
                                      refine Ok_call (H_F_token_Kind _ _ hx) ?_
                                      refine Ok_runB env [] rfl ?_
                                      cases h
                                      exact Ok_fin env rfl rfl (told_eq rfl)
                                    · replace h := ite_f hb h
                                      refine Ok_runB env [] rfl ?_
                                      cases h
                                      exact Ok_fin env rfl rfl (told_eq rfl)
                                  · replace h := ite_f hb h
                                    refine Ok_runB env [] rfl ?_
                                    cases h
                                    exact Ok_fin env rfl rfl (told_eq rfl)
                                · replace h := ite_f hb h
                                  refine Ok_runB env [] rfl ?_
                                  cases h
                                  exact Ok_fin env rfl rfl (told_eq rfl)
                              · replace h := ite_f hb h
                                refine Ok_runB env [] rfl ?_
                                cases h
                                exact Ok_fin env rfl rfl (told_eq rfl)
                            · replace h := ite_f hb h
                              refine Ok_runB env [] rfl ?_
                              cases h
                              exact Ok_fin env rfl rfl (told_eq rfl)
                          · replace h := ite_f hb h
                            refine Ok_runB env [] rfl ?_
                            cases h
                            exact Ok_fin env rfl rfl (told_eq rfl)
                        · replace h := ite_f hb h
                          refine Ok_runB env [] rfl ?_
                          cases h
                          exact Ok_fin env rfl rfl (told_eq rfl)
                      · replace h := ite_f hb h
                        refine Ok_runB env [] rfl ?_
                        cases h
                        exact Ok_fin env rfl rfl (told_eq rfl)
                    · replace h := ite_f hb h
                      refine Ok_runB env [] rfl ?_
                      cases h
                      exact Ok_fin env rfl rfl (told_eq rfl)
                  · replace h := ite_f hb h
                    refine Ok_runB env [] rfl ?_
                    cases h
                    exact Ok_fin env rfl rfl (told_eq rfl)
                · replace h := ite_f hb h
                  refine Ok_runB env [] rfl ?_
                  cases h
                  exact Ok_fin env rfl rfl (told_eq rfl)
              · replace h := ite_f hb h
                refine Ok_runB env [] rfl ?_
                cases h
                exact Ok_fin env rfl rfl (told_eq rfl)
            · replace h := ite_f hb h
              refine Ok_runB env [] rfl ?_
              cases h
              exact Ok_fin env rfl rfl (told_eq rfl)
          · replace h := ite_f hb h
            refine Ok_runB env [] rfl ?_
            cases h
            exact Ok_fin env rfl rfl (told_eq rfl)
        · replace h := ite_f hb h
          refine Ok_runB env [] rfl ?_
          cases h
          exact Ok_fin env rfl rfl (told_eq rfl)
      · replace h := ite_f hb h
        refine Ok_runB env [] rfl ?_
        cases h
        exact Ok_fin env rfl rfl (told_eq rfl)
    · replace h := ite_f hb h
      refine Ok_runB env [] rfl ?_
      cases h
      exact Ok_fin env rfl rfl (told_eq rfl)
  · replace h := ite_f hb h
    refine Ok_runB env [] rfl ?_
    cases h
    exact Ok_fin env rfl rfl (told_eq rfl)
/-- treemerge/treemergelaw05.awake -/
theorem H_F_L5_awake  (r : Bool) (h : F_L5_awake  = some r) : M_F_L5_awake  r :=
  S_F_L5_awake  r (by rw [E_F_L5_awake] at h; exact h)
def F_R5_Digit (a0 : Int) : Option (Bool) :=
  if (decide ((48 : Int) ≤ a0)) = true then
    some (decide (a0 ≤ (57 : Int)))
  else
    some false
@[reducible] def M_F_R5_Digit (a0 : Int) (r : Bool) : Prop :=
  Fn Tryd.prog Gt 96 [(.int .u8 a0)] (.bool r)
theorem E_F_R5_Digit (a0 : Int) : F_R5_Digit a0 = (
    if (decide ((48 : Int) ≤ a0)) = true then
      some (decide (a0 ≤ (57 : Int)))
    else
      some false
    : Option (Bool)) := F_R5_Digit.eq_def a0
set_option maxHeartbeats 4000000 in
theorem S_F_R5_Digit  (a0 : Int) (r : Bool) (h : (
    if (decide ((48 : Int) ≤ a0)) = true then
      some (decide (a0 ≤ (57 : Int)))
    else
      some false
    : Option (Bool)) = some r) : M_F_R5_Digit a0 r := by
  refine Fn_run (T := tt) (N := 9) (rs := [.tmp 2]) (fun vs w => by simp) Tryd.func96 rfl rfl rfl rfl (by kernel_rfl) (all_pure3 rfl) (closed3_pure _ rfl) ?_
  refine Ok_runB env [] rfl ?_
  refine Ok_guard_t (fun hb => ?_) (fun hb => ?_)
  · replace h := ite_t hb h
    refine Ok_runB env [] rfl ?_
    cases h
    exact Ok_fin env rfl rfl (told_eq rfl)
  · replace h := ite_f hb h
    refine Ok_runB env [] rfl ?_
    cases h
    exact Ok_fin env rfl rfl (told_eq rfl)
/-- treemerge/treemergeref05.Digit -/
theorem H_F_R5_Digit (a0 : Int) (r : Bool) (h : F_R5_Digit a0 = some r) : M_F_R5_Digit a0 r :=
  S_F_R5_Digit a0 r (by rw [E_F_R5_Digit] at h; exact h)
end Go.Proofs.YtimdjillcaichaaDoorW.Ex.Gr
