/- The functions of the program's layer 8 and of its references, printed as functions on numbers, strings, lists and trees, with the proofs that they are what the code computes. Conditions: those in each theorem. -/
import Derived.Test.YtbdhekefhcjhaaaGreatDoorX9b
namespace Go.Proofs.YtbdhekefhcjhaaaGreatDoorW.Ex.Gr
open Go Go.Proofs.YtbdhekefhcjhaaaGreatDoorW.Ex
set_option linter.all false
set_option maxRecDepth 100000
set_option synthInstance.maxSize 4000
set_option maxHeartbeats 4000000
theorem H_F_R8_Order : PC1 M_F_R8_Order F_R8_Order := fun a0 r h => by
 rw [F_R8_Order.eq_def] at h
 refine zd (T := tt) (N := 138) (rs := [.tmp 2]) (fun vs w => by simp) Tryz.func49 rfl rfl rfl rfl (by kernel_rfl) (zt rfl) (zj _ rfl) ?_
 refine kr [14] ?_
 refine qb (fun hb => ?_) (fun hb => ?_)
 ·replace h := qm hb h
  refine kr [14] ?_
  obtain ⟨x1, hx, h⟩ := bind_some h
  have hp_x1 := zo hx (by simp)
  refine ji (C := ic) env hx rfl (.inr rfl) rfl (by simp) rfl rfl rfl rfl rfl (by decide) rfl rfl ?_
  refine kr [14] ?_
  refine qb (fun hb => ?_) (fun hb => ?_)
  ·replace h := qm hb h
   refine kr [14] ?_
   obtain ⟨x2, hx, h⟩ := bind_some h
   have hp_x2 := zo hx (by simp)
   refine ye (C := ic) env hx rfl rfl (by simp) (fun _ => rfl) rfl rfl rfl rfl rfl (by decide) rfl rfl rfl ?_
   refine kr [14] ?_
   exact q7 (by kernel_rfl) rfl lA (H_F_R8_Order_t14 _ _ _ h)
  ·replace h := qn hb h
   refine kr [14] ?_
   exact q7 (by kernel_rfl) rfl lA (H_F_R8_Order_t14 _ _ _ h)
 ·replace h := qn hb h
  refine kr [14] ?_
  refine qb (fun hb => ?_) (fun hb => ?_)
  ·replace h := qm hb h
   refine kr [14] ?_
   obtain ⟨x3, hx, h⟩ := bind_some h
   have hp_x3 := zo hx (by simp)
   refine ji (C := ic) env hx rfl (.inr rfl) rfl (by simp) rfl rfl rfl rfl rfl (by decide) rfl rfl ?_
   refine kr [14] ?_
   refine qb (fun hb => ?_) (fun hb => ?_)
   ·replace h := qm hb h
    refine kr [14] ?_
    obtain ⟨x4, hx, h⟩ := bind_some h
    have hp_x4 := zo hx (by simp)
    refine ye (C := ic) env hx rfl rfl (by simp) (fun _ => rfl) rfl rfl rfl rfl rfl (by decide) rfl rfl rfl ?_
    refine kr [14] ?_
    exact q7 (by kernel_rfl) rfl lA (H_F_R8_Order_t14 _ _ _ h)
   ·replace h := qn hb h
    refine kr [14] ?_
    exact q7 (by kernel_rfl) rfl lA (H_F_R8_Order_t14 _ _ _ h)
  ·replace h := qn hb h
   refine kr [14] ?_
   refine qb (fun hb => ?_) (fun hb => ?_)
   ·replace h := qm hb h
    refine kr [14] ?_
    obtain ⟨x5, hx, h⟩ := bind_some h
    have hp_x5 := zo hx (by simp)
    refine ji (C := ic) env hx rfl (.inr rfl) rfl (by simp) rfl rfl rfl rfl rfl (by decide) rfl rfl ?_
    refine kr [14] ?_
    obtain ⟨x6, hx, h⟩ := bind_some h
    refine qc (ACalls.ghost (e := 3) (AC.g9 (H_F_R8_commass2 _ _ _ _ hx) [1, 2] [1, 2])) ?_
    refine kr [14] ?_
    obtain ⟨x7, hx, h⟩ := bind_some h
    have hp_x7 := zo hx (by simp)
    refine ye (C := ic) env hx rfl rfl (by simp) (fun _ => rfl) rfl rfl rfl rfl rfl (by decide) rfl rfl rfl ?_
    refine kr [14] ?_
    cases h
    exact q8 env rfl rfl (zm (zp (zw (zu yw rfl) (by simp)) (by simp)))
   ·replace h := qn hb h
    refine kr [14] ?_
    refine qb (fun hb => ?_) (fun hb => ?_)
    ·replace h := qm hb h
     refine kr [14] ?_
     obtain ⟨x8, hx, h⟩ := bind_some h
     refine qc (ACalls.ghost (e := 3) (ACalls.ghost (e := 3) (ACalls.wkg (AC.go (objs := [(0, .var 25 (zk a0)), (1, .row 3 (([] : List Int).map ic).flatten), (2, .row 3 (([] : List Int).map ic).flatten)]) (xs := [(.bs 1 1 1 0 ([] : List Int).length), (.int .i64 (0 : Int)), (.int .i64 ((a0.kids.map Node.cells).length : Int))]) (H_F_R8_alls2 _ _ _ _ hx) [1, 2] [1, 2] rfl rfl rfl rfl rfl rfl rfl rfl rfl) (zx (j9 rfl) (zx (jk _) (zx (jk _) yx))) (yh _)))) ?_
     refine kr [14] ?_
     obtain ⟨x9, hx, h⟩ := bind_some h
     have hp_x9 := zo hx (by simp)
     refine ye (C := ic) env hx rfl rfl (by simp) (fun _ => rfl) rfl rfl rfl rfl rfl (by decide) rfl rfl rfl ?_
     refine kr [14] ?_
     cases h
     exact q8 env rfl rfl (zm (zp (zw (zu yw rfl) (by simp)) (by simp)))
    ·replace h := qn hb h
     refine kr [14] ?_
     refine qb (fun hb => ?_) (fun hb => ?_)
     ·replace h := qm hb h
      refine kr [14] ?_
      obtain ⟨x10, hx, h⟩ := bind_some h
      refine qc (ACalls.ghost (e := 3) (ACalls.ghost (e := 3) (ACalls.wkg (AC.go (objs := [(0, .var 25 (zk a0)), (1, .row 3 (([] : List Int).map ic).flatten), (2, .row 3 (([] : List Int).map ic).flatten)]) (xs := [(.bs 1 1 1 0 ([] : List Int).length), (.int .i64 (0 : Int)), (.int .i64 ((a0.kids.map Node.cells).length : Int))]) (H_F_R8_alls2 _ _ _ _ hx) [1, 2] [1, 2] rfl rfl rfl rfl rfl rfl rfl rfl rfl) (zx (j9 rfl) (zx (jk _) (zx (jk _) yx))) (yh _)))) ?_
      refine kr [14] ?_
      obtain ⟨x11, hx, h⟩ := bind_some h
      have hp_x11 := zo hx (by simp)
      refine ye (C := ic) env hx rfl rfl (by simp) (fun _ => rfl) rfl rfl rfl rfl rfl (by decide) rfl rfl rfl ?_
      refine kr [14] ?_
      cases h
      exact q8 env rfl rfl (zm (zp (zw (zu yw rfl) (by simp)) (by simp)))
     ·replace h := qn hb h
      refine kr [14] ?_
      refine qb (fun hb => ?_) (fun hb => ?_)
      ·replace h := qm hb h
       refine kr [14] ?_
       obtain ⟨x12, hx, h⟩ := bind_some h
       have hp_x12 := zo hx (by simp)
       refine ji (C := ic) env hx rfl (.inr rfl) rfl (by simp) rfl rfl rfl rfl rfl (by decide) rfl rfl ?_
       refine kr [14] ?_
       cases h
       exact q8 env rfl rfl (zm (zp (zw (zu yw rfl) (by simp)) (by simp)))
      ·replace h := qn hb h
       refine kr [14] ?_
       refine qb (fun hb => ?_) (fun hb => ?_)
       ·replace h := qm hb h
        refine kr [14] ?_
        obtain ⟨x13, hx, h⟩ := bind_some h
        have hp_x13 := zo hx (by simp)
        refine ji (C := ic) env hx rfl (.inr rfl) rfl (by simp) rfl rfl rfl rfl rfl (by decide) rfl rfl ?_
        refine kr [14] ?_
        cases h
        exact q8 env rfl rfl (zm (zp (zw (zu yw rfl) (by simp)) (by simp)))
       ·replace h := qn hb h
        refine kr [14] ?_
        refine qb (fun hb => ?_) (fun hb => ?_)
        ·replace h := qm hb h
         refine kr [14] ?_
         obtain ⟨x14, hx, h⟩ := bind_some h
         have hp_x14 := zo hx (by simp)
         refine ji (C := ic) env hx rfl (.inr rfl) rfl (by simp) rfl rfl rfl rfl rfl (by decide) rfl rfl ?_
         refine kr [14] ?_
         cases h
         exact q8 env rfl rfl (zm (zp (zw (zu yw rfl) (by simp)) (by simp)))
        ·replace h := qn hb h
         refine kr [14] ?_
         refine qb (fun hb => ?_) (fun hb => ?_)
         ·replace h := qm hb h
          refine kr [14] ?_
          obtain ⟨x15, hx, h⟩ := bind_some h
          have hp_x15 := zo hx (by simp)
          refine ji (C := ic) env hx rfl (.inr rfl) rfl (by simp) rfl rfl rfl rfl rfl (by decide) rfl rfl ?_
          refine kr [14] ?_
          obtain ⟨x16, hx, h⟩ := bind_some h
          refine qc (ACalls.ghost (e := 3) (AC.g9 (H_F_R8_alls2 _ _ _ _ hx) [1, 2] [1, 2])) ?_
          refine kr [14] ?_
          obtain ⟨x17, hx, h⟩ := bind_some h
          have hp_x17 := zo hx (by simp)
          refine ye (C := ic) env hx rfl rfl (by simp) (fun _ => rfl) rfl rfl rfl rfl rfl (by decide) rfl rfl rfl ?_
          refine kr [14] ?_
          cases h
          exact q8 env rfl rfl (zm (zp (zw (zu yw rfl) (by simp)) (by simp)))
         ·replace h := qn hb h
          refine kr [14] ?_
          refine qb (fun hb => ?_) (fun hb => ?_)
          ·replace h := qm hb h
           refine kr [14] ?_
           obtain ⟨x18, hx, h⟩ := bind_some h
           have hp_x18 := zo hx (by simp)
           refine ji (C := ic) env hx rfl (.inr rfl) rfl (by simp) rfl rfl rfl rfl rfl (by decide) rfl rfl ?_
           refine kr [14] ?_
           obtain ⟨x19, hx, h⟩ := bind_some h
           refine qc (ACalls.ghost (e := 3) (AC.g9 (H_F_R8_alls2 _ _ _ _ hx) [1, 2] [1, 2])) ?_
           refine kr [14] ?_
           obtain ⟨x20, hx, h⟩ := bind_some h
           have hp_x20 := zo hx (by simp)
           refine ye (C := ic) env hx rfl rfl (by simp) (fun _ => rfl) rfl rfl rfl rfl rfl (by decide) rfl rfl rfl ?_
           refine kr [14] ?_
           cases h
           exact q8 env rfl rfl (zm (zp (zw (zu yw rfl) (by simp)) (by simp)))
          ·replace h := qn hb h
           refine kr [14] ?_
           refine qb (fun hb => ?_) (fun hb => ?_)
           ·replace h := qm hb h
            refine kr [14] ?_
            obtain ⟨x21, hx, h⟩ := bind_some h
            have hp_x21 := zo hx (by simp)
            refine ji (C := ic) env hx rfl (.inr rfl) rfl (by simp) rfl rfl rfl rfl rfl (by decide) rfl rfl ?_
            refine kr [14] ?_
            obtain ⟨x22, hx, h⟩ := bind_some h
            refine qc (ACalls.ghost (e := 3) (AC.g9 (H_F_R8_alls2 _ _ _ _ hx) [1, 2] [1, 2])) ?_
            refine kr [14] ?_
            obtain ⟨x23, hx, h⟩ := bind_some h
            have hp_x23 := zo hx (by simp)
            refine ye (C := ic) env hx rfl rfl (by simp) (fun _ => rfl) rfl rfl rfl rfl rfl (by decide) rfl rfl rfl ?_
            refine kr [14] ?_
            cases h
            exact q8 env rfl rfl (zm (zp (zw (zu yw rfl) (by simp)) (by simp)))
           ·replace h := qn hb h
            refine kr [14] ?_
            refine qb (fun hb => ?_) (fun hb => ?_)
            ·replace h := qm hb h
             refine kr [14] ?_
             obtain ⟨x24, hx, h⟩ := bind_some h
             have hp_x24 := zo hx (by simp)
             refine ji (C := ic) env hx rfl (.inr rfl) rfl (by simp) rfl rfl rfl rfl rfl (by decide) rfl rfl ?_
             refine kr [14] ?_
             obtain ⟨x25, hx, h⟩ := bind_some h
             refine qc (ACalls.ghost (e := 3) (AC.g9 (H_F_R8_alls2 _ _ _ _ hx) [1, 2] [1, 2])) ?_
             refine kr [14] ?_
             obtain ⟨x26, hx, h⟩ := bind_some h
             have hp_x26 := zo hx (by simp)
             refine ye (C := ic) env hx rfl rfl (by simp) (fun _ => rfl) rfl rfl rfl rfl rfl (by decide) rfl rfl rfl ?_
             refine kr [14] ?_
             cases h
             exact q8 env rfl rfl (zm (zp (zw (zu yw rfl) (by simp)) (by simp)))
            ·replace h := qn hb h
             refine kr [14] ?_
             refine qb (fun hb => ?_) (fun hb => ?_)
             ·replace h := qm hb h
              refine kr [14] ?_
              obtain ⟨x27, hx, h⟩ := bind_some h
              have hp_x27 := zo hx (by simp)
              refine ji (C := ic) env hx rfl (.inr rfl) rfl (by simp) rfl rfl rfl rfl rfl (by decide) rfl rfl ?_
              refine kr [14] ?_
              cases h
              exact q8 env rfl rfl (zm (zp (zw (zu yw rfl) (by simp)) (by simp)))
             ·replace h := qn hb h
              refine kr [14] ?_
              refine qb (fun hb => ?_) (fun hb => ?_)
              ·replace h := qm hb h
               refine kr [14] ?_
               obtain ⟨x28, hx, h⟩ := bind_some h
               have hp_x28 := zo hx (by simp)
               refine ji (C := ic) env hx rfl (.inr rfl) rfl (by simp) rfl rfl rfl rfl rfl (by decide) rfl rfl ?_
               refine kr [14] ?_
               cases h
               exact q8 env rfl rfl (zm (zp (zw (zu yw rfl) (by simp)) (by simp)))
              ·replace h := qn hb h
               refine kr [14] ?_
               refine qb (fun hb => ?_) (fun hb => ?_)
               ·replace h := qm hb h
                refine kr [14] ?_
                obtain ⟨x29, hx, h⟩ := bind_some h
                have hp_x29 := zo hx (by simp)
                refine ji (C := ic) env hx rfl (.inr rfl) rfl (by simp) rfl rfl rfl rfl rfl (by decide) rfl rfl ?_
                refine kr [14] ?_
                cases h
                exact q8 env rfl rfl (zm (zp (zw (zu yw rfl) (by simp)) (by simp)))
               ·replace h := qn hb h
                refine kr [14] ?_
                refine qb (fun hb => ?_) (fun hb => ?_)
                ·replace h := qm hb h
                 refine kr [14] ?_
                 obtain ⟨x30, hx, h⟩ := bind_some h
                 have hp_x30 := zo hx (by simp)
                 refine ji (C := ic) env hx rfl (.inr rfl) rfl (by simp) rfl rfl rfl rfl rfl (by decide) rfl rfl ?_
                 refine kr [14] ?_
                 obtain ⟨x31, hx, h⟩ := bind_some h
                 refine qc (ACalls.ghost (e := 3) (AC.g9 (H_F_R8_alls2 _ _ _ _ hx) [1, 2] [1, 2])) ?_
                 refine kr [14] ?_
                 cases h
                 exact q8 env rfl rfl (zm (zp (zw (zu yw rfl) (by simp)) (by simp)))
                ·replace h := qn hb h
                 refine kr [14] ?_
                 refine qb (fun hb => ?_) (fun hb => ?_)
                 ·replace h := qm hb h
                  refine kr [14] ?_
                  obtain ⟨x32, hx, h⟩ := bind_some h
                  have hp_x32 := zo hx (by simp)
                  refine ji (C := ic) env hx rfl (.inr rfl) rfl (by simp) rfl rfl rfl rfl rfl (by decide) rfl rfl ?_
                  refine kr [14] ?_
                  obtain ⟨x33, hx, h⟩ := bind_some h
                  refine qc (ACalls.ghost (e := 3) (AC.g9 (H_F_R8_alls2 _ _ _ _ hx) [1, 2] [1, 2])) ?_
                  refine kr [14] ?_
                  cases h
                  exact q8 env rfl rfl (zm (zp (zw (zu yw rfl) (by simp)) (by simp)))
                 ·replace h := qn hb h
                  refine kr [14] ?_
                  refine qb (fun hb => ?_) (fun hb => ?_)
                  ·replace h := qm hb h
                   refine kr [14] ?_
                   obtain ⟨x34, hx, h⟩ := bind_some h
                   have hp_x34 := zo hx (by simp)
                   refine ji (C := ic) env hx rfl (.inr rfl) rfl (by simp) rfl rfl rfl rfl rfl (by decide) rfl rfl ?_
                   refine kr [14] ?_
                   cases h
                   exact q8 env rfl rfl (zm (zp (zw (zu yw rfl) (by simp)) (by simp)))
                  ·replace h := qn hb h
                   refine kr [14] ?_
                   refine qb (fun hb => ?_) (fun hb => ?_)
                   ·replace h := qm hb h
                    refine kr [14] ?_
                    obtain ⟨x35, hx, h⟩ := bind_some h
                    have hp_x35 := zo hx (by simp)
                    refine ji (C := ic) env hx rfl (.inr rfl) rfl (by simp) rfl rfl rfl rfl rfl (by decide) rfl rfl ?_
                    refine kr [14] ?_
                    cases h
                    exact q8 env rfl rfl (zm (zp (zw (zu yw rfl) (by simp)) (by simp)))
                   ·replace h := qn hb h
                    refine kr [14] ?_
                    refine qb (fun hb => ?_) (fun hb => ?_)
                    ·replace h := qm hb h
                     refine kr [14] ?_
                     refine qb (fun hb => ?_) (fun hb => ?_)
                     ·replace h := qm hb h
                      refine kr [14] ?_
                      cases h
                      exact q8 env rfl rfl (zm (zp (zw (kv (.inr rfl)) (by simp)) (by simp)))
                     ·replace h := qn hb h
                      refine kr [14] ?_
                      obtain ⟨x36, hx, h⟩ := bind_some h
                      have hp_x36 := zo hx (by simp)
                      refine ji (C := ic) env hx rfl (.inr rfl) rfl (by simp) rfl rfl rfl rfl rfl (by decide) rfl rfl ?_
                      refine kr [14] ?_
                      cases h
                      exact q8 env rfl rfl (zm (zp (zw (zu yw rfl) (by simp)) (by simp)))
                    ·replace h := qn hb h
                     refine kr [14] ?_
                     refine qb (fun hb => ?_) (fun hb => ?_)
                     ·replace h := qm hb h
                      refine kr [14] ?_
                      refine qb (fun hb => ?_) (fun hb => ?_)
                      ·replace h := qm hb h
                       refine kr [14] ?_
                       cases h
                       exact q8 env rfl rfl (zm (zp (zw (kv (.inr rfl)) (by simp)) (by simp)))
                      ·replace h := qn hb h
                       refine kr [14] ?_
                       obtain ⟨x37, hx, h⟩ := bind_some h
                       have hp_x37 := zo hx (by simp)
                       refine ji (C := ic) env hx rfl (.inr rfl) rfl (by simp) rfl rfl rfl rfl rfl (by decide) rfl rfl ?_
                       refine kr [14] ?_
                       cases h
                       exact q8 env rfl rfl (zm (zp (zw (zu yw rfl) (by simp)) (by simp)))
                     ·replace h := qn hb h
                      refine kr [14] ?_
                      obtain ⟨x38, hx, h⟩ := bind_some h
                      have hp_x38 := zo hx (by simp)
                      refine ji (C := ic) env hx rfl (.inr rfl) rfl (by simp) rfl rfl rfl rfl rfl (by decide) rfl rfl ?_
                      refine kr [14] ?_
                      cases h
                      exact q8 env rfl rfl (zm (zp (zw (zu yw rfl) (by simp)) (by simp)))
mutual
def F_R8_wordss2 (a0 : Node) (a1 : LB) : Option LB :=
 F_R8_Own (qa a0) >>= fun x3 =>
 F_R8_Order (qa a0) >>= fun x4 =>
 F_R8_wordss2_l0 (qa a1) (qa x3) (qa x4) (0 : Int) (0 : Int) (qa a0)
 partial_fixpoint
def F_R8_wordss2_l0 (t5 : LB) (t6 : LB) (t7 : (List Int)) (t8 : Int) (t9 : Int) (o2 : Node) : Option LB :=
 if (decide (t9 < ((t7.map ic).length : Int))) = true then
  ix t7 t9 >>= fun x11 =>
  if (decide (x11 < (0 : Int))) = true then
   ix t6 t8 >>= fun x12 =>
   app 16 t5 ([x12]) >>= fun x13 =>
   F_R8_wordss2_t25 (qa x13) (qa t6) (qa t7) (IntKind.i64.wrap (t8 + (1 : Int))) (qa t9) (qa o2)
  else
   ix t7 t9 >>= fun x14 =>
   ix o2.kids x14 >>= fun x15 =>
   F_R8_wordss2 (qa x15) (qa t5) >>= fun x16 =>
   F_R8_wordss2_t25 (qa x16) (qa t6) (qa t7) (qa t8) (qa t9) (qa o2)
 else
  some t5
 partial_fixpoint
def F_R8_wordss2_t25 (t5 : LB) (t6 : LB) (t7 : (List Int)) (t8 : Int) (t9 : Int) (o2 : Node) : Option LB :=
 F_R8_wordss2_l0 (qa t5) (qa t6) (qa t7) (qa t8) (IntKind.i64.wrap (t9 + (1 : Int))) (qa o2)
 partial_fixpoint
end
@[reducible] def M_F_R8_wordss2 (a0 : Node) (a1 : LB) (r : LB) : Prop :=
  AC Tryz.prog G 24 [(.agg (zk a0)), (.bs 1 0 0 0 a1.length)] 2 [(0, .row 9 (a1.map sc).flatten), (1, .row 9 [])] (.bs 1 1 2 0 r.length) 3 [(0, .row 9 []), (2, .row 9 (r.map sc).flatten)]
@[reducible] def M_F_R8_wordss2_l0 (t5 : LB) (t6 : LB) (t7 : (List Int)) (t8 : Int) (t9 : Int) (o2 : Node) (r : LB) : Prop :=
  Ok Tryz.prog G tt 46 2 (Ret Tryz.prog [.tmp 4] (fun y H => j7 Tryz.prog G 2 H y (.bs 1 1 2 0 r.length) ⟨3, [(0, .row 9 []), (2, .row 9 (r.map sc).flatten)]⟩)) (.again (ja [25] Tryz.f24 0).1 (ja [25] Tryz.f24 0).2 (.n .undef (.n .undef (.n .undef (.n (.sl 1 false (t7.map ic)) .z .z) .z) (.n (.bs 1 0 3 0 t5.length) (.n (.int .i64 t9) .z .z) .z)) (.n (.ptr 2 2 0) (.n .undef (.n (.int .i64 t8) .z .z) .z) (.n (.sl 1 false (t6.map sc)) .z .z))) 4 [(3, .row 9 (t5.map sc).flatten), (1, .dead), (2, .var 25 (zk o2))])
@[reducible] def M_F_R8_wordss2_t25 (t5 : LB) (t6 : LB) (t7 : (List Int)) (t8 : Int) (t9 : Int) (o2 : Node) (r : LB) : Prop :=
  Ok Tryz.prog G tt 46 2 (Ret Tryz.prog [.tmp 4] (fun y H => j7 Tryz.prog G 2 H y (.bs 1 1 2 0 r.length) ⟨3, [(0, .row 9 []), (2, .row 9 (r.map sc).flatten)]⟩)) (.go [] (yq [25] Tryz.f24 25) [] (.n .undef (.n .undef (.n .undef (.n (.sl 1 false (t7.map ic)) .z .z) .z) (.n (.bs 1 0 5 0 t5.length) (.n (.int .i64 t9) .z .z) .z)) (.n (.ptr 2 2 0) (.n .undef (.n (.int .i64 t8) .z .z) .z) (.n (.sl 1 false (t6.map sc)) .z .z))) 6 [(5, .row 9 (t5.map sc).flatten), (1, .dead), (2, .var 25 (zk o2))])
theorem ALL_F_R8_wordss2 : PC2 M_F_R8_wordss2 F_R8_wordss2 ∧ PC6 M_F_R8_wordss2_l0 F_R8_wordss2_l0 ∧ PC6 M_F_R8_wordss2_t25 F_R8_wordss2_t25 := by
 refine F_R8_wordss2.mutual_partial_correctness M_F_R8_wordss2 M_F_R8_wordss2_l0 M_F_R8_wordss2_t25 (fun F_R8_wordss2_l0 H_F_R8_wordss2_l0 a0 a1 r h => ?_) (fun F_R8_wordss2 F_R8_wordss2_t25 H_F_R8_wordss2 H_F_R8_wordss2_t25 t5 t6 t7 t8 t9 o2 r h => ?_) (fun F_R8_wordss2_l0 H_F_R8_wordss2_l0 t5 t6 t7 t8 t9 o2 r h => ?_)
 ·unfold qa at h
  refine ⟨?_, (zh qp rfl (frOs_gh rfl z2)), (qq qp (vt zg)), (K1 (zi qp z7)), (vt (qq qp zg)), rfl, rfl, rfl, rfl⟩
  refine zv (T := tt) (N := 46) (rs := [.tmp 4]) (fun vs w => by simp) Tryz.func24 rfl rfl rfl (by kernel_rfl) (by kernel_rfl) ?_
  refine kr [25] ?_
  obtain ⟨x3, hx, h⟩ := bind_some h
  refine qj (H_F_R8_Own _ _ hx) ?_
  refine kr [25] ?_
  obtain ⟨x4, hx, h⟩ := bind_some h
  refine qj (H_F_R8_Order _ _ hx) ?_
  refine kr [25] ?_
  exact z8 (by kernel_rfl) lQ (H_F_R8_wordss2_l0 _ _ _ _ _ _ _ h)
 ·unfold qa at h
  refine jf ?_
  refine kr [25] ?_
  refine qb (fun hb => ?_) (fun hb => ?_)
  ·replace h := qm hb h
   refine kr [25] ?_
   obtain ⟨x11, hx, h⟩ := bind_some h
   refine ya env hx rfl rfl rfl rfl rfl ?_
   refine kr [25] ?_
   refine qb (fun hb => ?_) (fun hb => ?_)
   ·replace h := qm hb h
    refine kr [25] ?_
    obtain ⟨x12, hx, h⟩ := bind_some h
    refine ya env hx rfl rfl rfl rfl rfl ?_
    refine kr [25] ?_
    obtain ⟨x13, hx, h⟩ := bind_some h
    have hp_x13 := zo hx (by simp)
    refine ye (C := sc) env hx rfl rfl (by simp) (fun _ => rfl) rfl rfl rfl rfl rfl (by decide) rfl rfl rfl ?_
    refine kr [25] ?_
    exact q7 (by kernel_rfl) rfl lQ (H_F_R8_wordss2_t25 _ _ _ _ _ _ _ h)
   ·replace h := qn hb h
    refine kr [25] ?_
    obtain ⟨x14, hx, h⟩ := bind_some h
    refine ya env hx rfl rfl rfl rfl rfl ?_
    refine kr [25] ?_
    obtain ⟨x15, hx, h⟩ := bind_some h
    refine ya env hx rfl rfl rfl rfl (Node.cells_eq x15) ?_
    refine kr [25] ?_
    obtain ⟨x16, hx, h⟩ := bind_some h
    refine qc (ACalls.ghost (e := 9) (AC.g9 (H_F_R8_wordss2 _ _ _ hx) [0, 3] [3, 4])) ?_
    refine kr [25] ?_
    exact q7 (by kernel_rfl) rfl (less_selR [some 3, none, some 2] rfl rfl rfl (by simp <;> (repeat' apply And.intro) <;> first | rfl | exact fun x a _ h => (qp.all a x h).2) (selOs2_row qp rfl rfl (selOs2_no rfl (selOs2_var rfl rfl (uk rfl rfl (uk rfl rfl (uk rfl rfl (uk rfl rfl leC2_nil)))) selOs2_nil)))) (H_F_R8_wordss2_t25 _ _ _ _ _ _ _ h)
  ·replace h := qn hb h
   refine kr [25] ?_
   cases h
   exact ug env rfl rfl (tS [none, some 0] (J1 rfl rfl (sR qp qv)) (w8 (wu (res1_own rfl rfl rfl) (by simp)) (by simp)))
 ·unfold qa at h
  refine kr [25] ?_
  exact zy (by kernel_rfl) lQ (H_F_R8_wordss2_l0 _ _ _ _ _ _ _ h)
theorem H_F_R8_wordss2 : PC2 M_F_R8_wordss2 F_R8_wordss2 := ALL_F_R8_wordss2.1
theorem H_F_R8_wordss2_l0 : PC6 M_F_R8_wordss2_l0 F_R8_wordss2_l0 := ALL_F_R8_wordss2.2.1
theorem H_F_R8_wordss2_t25 : PC6 M_F_R8_wordss2_t25 F_R8_wordss2_t25 := ALL_F_R8_wordss2.2.2
mutual
def F_R8_wordss1_l0 (t5 : LB) (t6 : LB) (t7 : (List Int)) (t8 : Int) (t9 : Int) (o1 : Node) : Option LB :=
 if (decide (t9 < ((t7.map ic).length : Int))) = true then
  ix t7 t9 >>= fun x5 =>
  if (decide (x5 < (0 : Int))) = true then
   ix t6 t8 >>= fun x6 =>
   app 16 t5 ([x6]) >>= fun x7 =>
   F_R8_wordss1_t25 (qa x7) (qa t6) (qa t7) (IntKind.i64.wrap (t8 + (1 : Int))) (qa t9) (qa o1)
  else
   ix t7 t9 >>= fun x8 =>
   ix o1.kids x8 >>= fun x9 =>
   F_R8_wordss2 (qa x9) (qa t5) >>= fun x10 =>
   F_R8_wordss1_t25 (qa x10) (qa t6) (qa t7) (qa t8) (qa t9) (qa o1)
 else
  some t5
 partial_fixpoint
def F_R8_wordss1_t25 (t5 : LB) (t6 : LB) (t7 : (List Int)) (t8 : Int) (t9 : Int) (o1 : Node) : Option LB :=
 F_R8_wordss1_l0 (qa t5) (qa t6) (qa t7) (qa t8) (IntKind.i64.wrap (t9 + (1 : Int))) (qa o1)
 partial_fixpoint
end
@[reducible] def M_F_R8_wordss1_l0 (t5 : LB) (t6 : LB) (t7 : (List Int)) (t8 : Int) (t9 : Int) (o1 : Node) (r : LB) : Prop :=
  Ok Tryz.prog G tt 46 1 (Ret Tryz.prog [.tmp 4] (fun y H => j7 Tryz.prog G 1 H y (.sl 1 false (r.map sc)) ⟨1, [(0, .row 9 [])]⟩)) (.again (ja [25] Tryz.f24 0).1 (ja [25] Tryz.f24 0).2 (.n .undef (.n .undef (.n .undef (.n (.sl 1 false (t7.map ic)) .z .z) .z) (.n (.bs 1 0 2 0 t5.length) (.n (.int .i64 t9) .z .z) .z)) (.n (.ptr 1 1 0) (.n .undef (.n (.int .i64 t8) .z .z) .z) (.n (.sl 1 false (t6.map sc)) .z .z))) 3 [(2, .row 9 (t5.map sc).flatten), (1, .var 25 (zk o1))])
@[reducible] def M_F_R8_wordss1_t25 (t5 : LB) (t6 : LB) (t7 : (List Int)) (t8 : Int) (t9 : Int) (o1 : Node) (r : LB) : Prop :=
  Ok Tryz.prog G tt 46 1 (Ret Tryz.prog [.tmp 4] (fun y H => j7 Tryz.prog G 1 H y (.sl 1 false (r.map sc)) ⟨1, [(0, .row 9 [])]⟩)) (.go [] (yq [25] Tryz.f24 25) [] (.n .undef (.n .undef (.n .undef (.n (.sl 1 false (t7.map ic)) .z .z) .z) (.n (.bs 1 0 4 0 t5.length) (.n (.int .i64 t9) .z .z) .z)) (.n (.ptr 1 1 0) (.n .undef (.n (.int .i64 t8) .z .z) .z) (.n (.sl 1 false (t6.map sc)) .z .z))) 5 [(4, .row 9 (t5.map sc).flatten), (1, .var 25 (zk o1))])
theorem ALL_F_R8_wordss1_l0 : PC6 M_F_R8_wordss1_l0 F_R8_wordss1_l0 ∧ PC6 M_F_R8_wordss1_t25 F_R8_wordss1_t25 := by
 refine F_R8_wordss1_l0.mutual_partial_correctness M_F_R8_wordss1_l0 M_F_R8_wordss1_t25 (fun F_R8_wordss1_t25 H_F_R8_wordss1_t25 t5 t6 t7 t8 t9 o1 r h => ?_) (fun F_R8_wordss1_l0 H_F_R8_wordss1_l0 t5 t6 t7 t8 t9 o1 r h => ?_)
 ·unfold qa at h
  refine jf ?_
  refine kr [25] ?_
  refine qb (fun hb => ?_) (fun hb => ?_)
  ·replace h := qm hb h
   refine kr [25] ?_
   obtain ⟨x5, hx, h⟩ := bind_some h
   refine ya env hx rfl rfl rfl rfl rfl ?_
   refine kr [25] ?_
   refine qb (fun hb => ?_) (fun hb => ?_)
   ·replace h := qm hb h
    refine kr [25] ?_
    obtain ⟨x6, hx, h⟩ := bind_some h
    refine ya env hx rfl rfl rfl rfl rfl ?_
    refine kr [25] ?_
    obtain ⟨x7, hx, h⟩ := bind_some h
    have hp_x7 := zo hx (by simp)
    refine ye (C := sc) env hx rfl rfl (by simp) (fun _ => rfl) rfl rfl rfl rfl rfl (by decide) rfl rfl rfl ?_
    refine kr [25] ?_
    exact q7 (by kernel_rfl) rfl lQ (H_F_R8_wordss1_t25 _ _ _ _ _ _ _ h)
   ·replace h := qn hb h
    refine kr [25] ?_
    obtain ⟨x8, hx, h⟩ := bind_some h
    refine ya env hx rfl rfl rfl rfl rfl ?_
    refine kr [25] ?_
    obtain ⟨x9, hx, h⟩ := bind_some h
    refine ya env hx rfl rfl rfl rfl (Node.cells_eq x9) ?_
    refine kr [25] ?_
    obtain ⟨x10, hx, h⟩ := bind_some h
    refine qc (ACalls.ghost (e := 9) (AC.g9 (H_F_R8_wordss2 _ _ _ hx) [0, 2] [2, 3])) ?_
    refine kr [25] ?_
    exact q7 (by kernel_rfl) rfl (less_selR [some 2, some 1] rfl rfl rfl (by simp <;> (repeat' apply And.intro) <;> first | rfl | exact fun x a _ h => (qp.all a x h).2) (selOs2_row qp rfl rfl (selOs2_var rfl rfl (uk rfl rfl (uk rfl rfl (uk rfl rfl (uk rfl rfl leC2_nil)))) selOs2_nil))) (H_F_R8_wordss1_t25 _ _ _ _ _ _ _ h)
  ·replace h := qn hb h
   refine kr [25] ?_
   cases h
   exact ug env rfl rfl (tS [none] (J1 rfl rfl qv) (w8 (wu (j6 (zu qp rfl) rfl) (by simp)) (by simp)))
 ·unfold qa at h
  refine kr [25] ?_
  exact zy (by kernel_rfl) lQ (H_F_R8_wordss1_l0 _ _ _ _ _ _ _ h)
theorem H_F_R8_wordss1_l0 : PC6 M_F_R8_wordss1_l0 F_R8_wordss1_l0 := ALL_F_R8_wordss1_l0.1
theorem H_F_R8_wordss1_t25 : PC6 M_F_R8_wordss1_t25 F_R8_wordss1_t25 := ALL_F_R8_wordss1_l0.2
def F_R8_wordss1 (a0 : Node) (a1 : LB) : Option LB :=
 F_R8_Own a0 >>= fun x1 =>
 F_R8_Order a0 >>= fun x2 =>
 F_R8_wordss1_l0 a1 x1 x2 (0 : Int) (0 : Int) a0
@[reducible] def M_F_R8_wordss1 (a0 : Node) (a1 : LB) (r : LB) : Prop :=
  AC Tryz.prog G 24 [(.agg (zk a0)), (.bs 1 0 0 0 a1.length)] 1 [(0, .row 9 (a1.map sc).flatten)] (.sl 1 false (r.map sc)) 1 [(0, .row 9 [])]
theorem H_F_R8_wordss1 : PC2 M_F_R8_wordss1 F_R8_wordss1 := fun a0 a1 r h => by
 rw [F_R8_wordss1.eq_def] at h
 refine ⟨?_, (zh qp rfl z2), (qq qp zg), (K1 z7), (vt zg), rfl, rfl, rfl, rfl⟩
 refine zv (T := tt) (N := 46) (rs := [.tmp 4]) (fun vs w => by simp) Tryz.func24 rfl rfl rfl (by kernel_rfl) (by kernel_rfl) ?_
 refine kr [25] ?_
 obtain ⟨x1, hx, h⟩ := bind_some h
 refine qj (H_F_R8_Own _ _ hx) ?_
 refine kr [25] ?_
 obtain ⟨x2, hx, h⟩ := bind_some h
 refine qj (H_F_R8_Order _ _ hx) ?_
 refine kr [25] ?_
 exact z8 (by kernel_rfl) lQ (H_F_R8_wordss1_l0 _ _ _ _ _ _ _ h)
def F_R8_Words (a0 : Node) : Option (LB × Int) :=
 F_R7_Check a0 >>= fun x1 =>
 if (!decide (x1 = (0 : Int))) = true then
  some (([] : LB), x1)
 else
  F_R8_wordss1 a0 ([] : LB) >>= fun x2 =>
  some (x2, (0 : Int))
@[reducible] def M_F_R8_Words (a0 : Node) (r : LB × Int) : Prop :=
  Fn Tryz.prog G 9 [(.agg (zk a0))] (.tup [(.sl 1 false (r.1.map sc)), (.int .i64 r.2)])
theorem H_F_R8_Words : PC1 M_F_R8_Words F_R8_Words := fun a0 r h => by
 rw [F_R8_Words.eq_def] at h
 refine zd (T := tt) (N := 12) (rs := [.tmp 2, .tmp 3]) (fun vs w => by simp) Tryz.func9 rfl rfl rfl rfl (by kernel_rfl) (zt rfl) (zj _ rfl) ?_
 refine kr [] ?_
 obtain ⟨x1, hx, h⟩ := bind_some h
 refine qj (H_F_R7_Check _ _ hx) ?_
 refine kr [] ?_
 refine qb (fun hb => ?_) (fun hb => ?_)
 ·replace h := qm hb h
  refine kr [] ?_
  cases h
  exact q8 env rfl rfl (zm (Zc (y3 (zw (kv (.inr rfl)) (by simp)) (y3 (zw (yj rfl) (by simp)) vz))))
 ·replace h := qn hb h
  refine kr [] ?_
  obtain ⟨x2, hx, h⟩ := bind_some h
  refine qc (ACalls.ghost (e := 9) (ACalls.wkg (AC.go (objs := [(0, .var 25 (zk a0)), (1, .row 9 (([] : LB).map sc).flatten)]) (xs := [(.agg (zk a0)), (.bs 1 1 1 0 ([] : LB).length)]) (H_F_R8_wordss1 _ _ _ hx) [1] [1] rfl rfl rfl rfl rfl rfl rfl rfl rfl) (zx (jk _) (zx (j9 rfl) yx)) (yh _))) ?_
  refine kr [] ?_
  cases h
  exact kf
def F_L8_same_l0 (t0 : LB) (t1 : LB) (t5 : Int) : Option Bool :=
 if (decide (t5 < ((t0.map sc).length : Int))) = true then
  ix t0 t5 >>= fun x1 =>
  ix t1 t5 >>= fun x2 =>
  if (!decide (x1 = x2)) = true then
   some false
  else
   F_L8_same_l0 (qa t0) (qa t1) (IntKind.i64.wrap (t5 + (1 : Int)))
 else
  some true
 partial_fixpoint
@[reducible] def M_F_L8_same_l0 (t0 : LB) (t1 : LB) (t5 : Int) (r : Bool) : Prop :=
  Ok Tryz.prog G tt 26 0 (Ret Tryz.prog [.tmp 4] (fun y H => Told Tryz.prog G H y (.bool r))) (.again (ja [] Tryz.f10 0).1 (ja [] Tryz.f10 0).2 (.n (.sl 1 false (t0.map sc)) (.n (.sl 1 false (t1.map sc)) .z (.n (.int .i64 t5) .z .z)) .z) 0 [])
theorem H_F_L8_same_l0 : PC3 M_F_L8_same_l0 F_L8_same_l0 := by
 refine F_L8_same_l0.partial_correctness M_F_L8_same_l0 (fun F_L8_same_l0 H_F_L8_same_l0 t0 t1 t5 r h => ?_)
 ·unfold qa at h
  refine jf ?_
  refine kr [] ?_
  refine qb (fun hb => ?_) (fun hb => ?_)
  ·replace h := qm hb h
   refine kr [] ?_
   obtain ⟨x1, hx, h⟩ := bind_some h
   refine ya env hx rfl rfl rfl rfl rfl ?_
   refine kr [] ?_
   obtain ⟨x2, hx, h⟩ := bind_some h
   refine ya env hx rfl rfl rfl rfl rfl ?_
   refine kr [] ?_
   refine qb (fun hb => ?_) (fun hb => ?_)
   ·replace h := qm hb h
    refine kr [] ?_
    cases h
    exact kf
   ·replace h := qn hb h
    refine kr [] ?_
    exact zy (by kernel_rfl) lA (H_F_L8_same_l0 _ _ _ _ h)
  ·replace h := qn hb h
   refine kr [] ?_
   cases h
   exact kf
def F_L8_same (a0 : LB) (a1 : LB) : Option Bool :=
 if (!decide (((a0.map sc).length : Int) = ((a1.map sc).length : Int))) = true then
  some false
 else
  F_L8_same_l0 a0 a1 (0 : Int)
@[reducible] def M_F_L8_same (a0 : LB) (a1 : LB) (r : Bool) : Prop :=
  Fn Tryz.prog G 10 [(.sl 1 false (a0.map sc)), (.sl 1 false (a1.map sc))] (.bool r)
theorem H_F_L8_same : PC2 M_F_L8_same F_L8_same := fun a0 a1 r h => by
 rw [F_L8_same.eq_def] at h
 refine zd (T := tt) (N := 26) (rs := [.tmp 4]) (fun vs w => by simp) Tryz.func10 rfl rfl rfl rfl (by kernel_rfl) (zt rfl) (zj _ rfl) ?_
 refine kr [] ?_
 refine qb (fun hb => ?_) (fun hb => ?_)
 ·replace h := qm hb h
  refine kr [] ?_
  cases h
  exact kf
 ·replace h := qn hb h
  refine kr [] ?_
  exact z8 (by kernel_rfl) lA (H_F_L8_same_l0 _ _ _ _ h)
def F_L8_PrintWords (a0 : Node) : Option Bool :=
 F_L8_small a0 >>= fun x1 =>
 if (!x1) = true then
  F_L8_awake >>= fun x2 =>
  some x2
 else
  F_print_Words a0 >>= fun x3 =>
  F_R8_Words a0 >>= fun x4 =>
  F_L8_same x3.1 x4.1 >>= fun x5 =>
  if x5 = true then
   if (decide (x3.2 = x4.2)) = true then
    F_L8_awake >>= fun x6 =>
    some x6
   else
    some false
  else
   some false
@[reducible] def M_F_L8_PrintWords (a0 : Node) (r : Bool) : Prop :=
  Fn Tryz.prog G 3 [(.agg (zk a0))] (.bool r)
theorem H_F_L8_PrintWords : PC1 M_F_L8_PrintWords F_L8_PrintWords := fun a0 r h => by
 rw [F_L8_PrintWords.eq_def] at h
 refine zd (T := tt) (N := 32) (rs := [.tmp 2]) (fun vs w => by simp) Tryz.func3 rfl rfl rfl rfl (by kernel_rfl) (zt rfl) (zj _ rfl) ?_
 refine kr [] ?_
 obtain ⟨x1, hx, h⟩ := bind_some h
 refine qj (H_F_L8_small _ _ hx) ?_
 refine kr [] ?_
 refine qb (fun hb => ?_) (fun hb => ?_)
 ·replace h := qm hb h
  refine kr [] ?_
  obtain ⟨x2, hx, h⟩ := bind_some h
  refine qj (H_F_L8_awake _ hx) ?_
  refine kr [] ?_
  cases h
  exact kf
 ·replace h := qn hb h
  refine kr [] ?_
  obtain ⟨x3, hx, h⟩ := bind_some h
  refine qj (H_F_print_Words _ _ hx) ?_
  refine kr [] ?_
  obtain ⟨x4, hx, h⟩ := bind_some h
  refine qj (H_F_R8_Words _ _ hx) ?_
  refine kr [] ?_
  obtain ⟨x5, hx, h⟩ := bind_some h
  refine qj (H_F_L8_same _ _ _ hx) ?_
  refine kr [] ?_
  refine ql (fun hb => ?_) (fun hb => ?_)
  ·replace h := qm hb h
   refine kr [] ?_
   refine ql (fun hb => ?_) (fun hb => ?_)
   ·replace h := qm hb h
    refine kr [] ?_
    obtain ⟨x6, hx, h⟩ := bind_some h
    refine qj (H_F_L8_awake _ hx) ?_
    refine kr [] ?_
    cases h
    exact kf
   ·replace h := qn hb h
    refine kr [] ?_
    cases h
    exact kf
  ·replace h := qn hb h
   refine kr [] ?_
   cases h
   exact kf
def F_R8_line_l0 (t0 : Int) (t3 : BA) (t4 : Int) : Option BA :=
 if (decide (t4 < t0)) = true then
  cat t3 (⟨#[9]⟩ : BA) >>= fun x1 =>
  F_R8_line_l0 (qa t0) (qa x1) (IntKind.i64.wrap (t4 + (1 : Int)))
 else
  some t3
 partial_fixpoint
@[reducible] def M_F_R8_line_l0 (t0 : Int) (t3 : BA) (t4 : Int) (r : BA) : Prop :=
  Ok Tryz.prog G tt 13 0 (Ret Tryz.prog [.tmp 2] (fun y H => Told Tryz.prog G H y (.str r))) (.again (ja [] Tryz.f77 0).1 (ja [] Tryz.f77 0).2 (.n (.int .i64 t0) (.n .undef (.n (.str t3) .z .z) .z) (.n .undef (.n (.int .i64 t4) .z .z) .z)) 0 [])
theorem H_F_R8_line_l0 : PC3 M_F_R8_line_l0 F_R8_line_l0 := by
 refine F_R8_line_l0.partial_correctness M_F_R8_line_l0 (fun F_R8_line_l0 H_F_R8_line_l0 t0 t3 t4 r h => ?_)
 ·unfold qa at h
  refine jf ?_
  refine kr [] ?_
  refine qb (fun hb => ?_) (fun hb => ?_)
  ·replace h := qm hb h
   refine kr [] ?_
   obtain ⟨x1, hx, h⟩ := bind_some h
   refine yo env hx rfl rfl ?_
   refine kr [] ?_
   exact zy (by kernel_rfl) lA (H_F_R8_line_l0 _ _ _ _ h)
  ·replace h := qn hb h
   refine kr [] ?_
   cases h
   exact kf
def F_R8_line (a0 : Int) : Option BA :=
 F_R8_line_l0 a0 (⟨#[10]⟩ : BA) (0 : Int)
@[reducible] def M_F_R8_line (a0 : Int) (r : BA) : Prop :=
  Fn Tryz.prog G 77 [(.int .i64 a0)] (.str r)
theorem H_F_R8_line : PC1 M_F_R8_line F_R8_line := fun a0 r h => by
 rw [F_R8_line.eq_def] at h
 refine zd (T := tt) (N := 13) (rs := [.tmp 2]) (fun vs w => by simp) Tryz.func77 rfl rfl rfl rfl (by kernel_rfl) (zt rfl) (zj _ rfl) ?_
 refine kr [] ?_
 exact z8 (by kernel_rfl) lA (H_F_R8_line_l0 _ _ _ _ h)
def F_R8_kid (a0 : Node) (a1 : Int) (a2 : BA) (a3 : Int) : Option BA :=
 if (decide (a0.kind = (1 : Int))) = true then
  if (decide (a1 = (0 : Int))) = true then
   some a2
  else
   some (⟨#[10, 10]⟩ : BA)
 else
  if (decide (a0.kind = (2 : Int))) = true then
   if (decide (a1 = (0 : Int))) = true then
    some (⟨#[]⟩ : BA)
   else
    some (⟨#[32]⟩ : BA)
  else
   if (decide (a0.kind = (3 : Int))) = true then
    if (decide (a1 = (0 : Int))) = true then
     some (⟨#[]⟩ : BA)
    else
     some (⟨#[32]⟩ : BA)
   else
    if (decide (a0.kind = (20 : Int))) = true then
     if (decide (a1 = (0 : Int))) = true then
      some (⟨#[]⟩ : BA)
     else
      some (⟨#[32]⟩ : BA)
    else
     if (decide (a0.kind = (21 : Int))) = true then
      if (decide (a1 = (0 : Int))) = true then
       some a2
      else
       if (decide (a1 = (1 : Int))) = true then
        some (⟨#[]⟩ : BA)
       else
        some (⟨#[32]⟩ : BA)
     else
      if (decide (a0.kind = (6 : Int))) = true then
       F_R8_line (IntKind.i64.wrap (a3 + (1 : Int))) >>= fun x1 =>
       some x1
      else
       if (decide (a0.kind = (7 : Int))) = true then
        if (decide (a1 = (0 : Int))) = true then
         some (⟨#[32]⟩ : BA)
        else
         F_R8_line (IntKind.i64.wrap (a3 + (1 : Int))) >>= fun x2 =>
         some x2
       else
        if (decide (a0.kind = (24 : Int))) = true then
         if (decide (a1 = (0 : Int))) = true then
          some a2
         else
          some (⟨#[32]⟩ : BA)
        else
         if (decide (a0.kind = (16 : Int))) = true then
          some a2
         else
          if (decide (a0.kind = (25 : Int))) = true then
           some (⟨#[]⟩ : BA)
          else
           if (decide (a0.kind = (26 : Int))) = true then
            some (⟨#[]⟩ : BA)
           else
            some (⟨#[32]⟩ : BA)
@[reducible] def M_F_R8_kid (a0 : Node) (a1 : Int) (a2 : BA) (a3 : Int) (r : BA) : Prop :=
  Fn Tryz.prog G 53 [(.agg (zk a0)), (.int .i64 a1), (.str a2), (.int .i64 a3)] (.str r)
theorem H_F_R8_kid : PC4 M_F_R8_kid F_R8_kid := fun a0 a1 a2 a3 r h => by
 rw [F_R8_kid.eq_def] at h
 refine zd (T := tt) (N := 55) (rs := [.tmp 8]) (fun vs w => by simp) Tryz.func53 rfl rfl rfl rfl (by kernel_rfl) (zt rfl) (zj _ rfl) ?_
 refine kr [] ?_
 refine qb (fun hb => ?_) (fun hb => ?_)
 ·replace h := qm hb h
  refine kr [] ?_
  refine qb (fun hb => ?_) (fun hb => ?_)
  ·replace h := qm hb h
   refine kr [] ?_
   cases h
   exact kf
  ·replace h := qn hb h
   refine kr [] ?_
   cases h
   exact kf
 ·replace h := qn hb h
  refine kr [] ?_
  refine qb (fun hb => ?_) (fun hb => ?_)
  ·replace h := qm hb h
   refine kr [] ?_
   refine qb (fun hb => ?_) (fun hb => ?_)
   ·replace h := qm hb h
    refine kr [] ?_
    cases h
    exact kf
   ·replace h := qn hb h
    refine kr [] ?_
    cases h
    exact kf
  ·replace h := qn hb h
   refine kr [] ?_
   refine qb (fun hb => ?_) (fun hb => ?_)
   ·replace h := qm hb h
    refine kr [] ?_
    refine qb (fun hb => ?_) (fun hb => ?_)
    ·replace h := qm hb h
     refine kr [] ?_
     cases h
     exact kf
    ·replace h := qn hb h
     refine kr [] ?_
     cases h
     exact kf
   ·replace h := qn hb h
    refine kr [] ?_
    refine qb (fun hb => ?_) (fun hb => ?_)
    ·replace h := qm hb h
     refine kr [] ?_
     refine qb (fun hb => ?_) (fun hb => ?_)
     ·replace h := qm hb h
      refine kr [] ?_
      cases h
      exact kf
     ·replace h := qn hb h
      refine kr [] ?_
      cases h
      exact kf
    ·replace h := qn hb h
     refine kr [] ?_
     refine qb (fun hb => ?_) (fun hb => ?_)
     ·replace h := qm hb h
      refine kr [] ?_
      refine qb (fun hb => ?_) (fun hb => ?_)
      ·replace h := qm hb h
       refine kr [] ?_
       cases h
       exact kf
      ·replace h := qn hb h
       refine kr [] ?_
       refine qb (fun hb => ?_) (fun hb => ?_)
       ·replace h := qm hb h
        refine kr [] ?_
        cases h
        exact kf
       ·replace h := qn hb h
        refine kr [] ?_
        cases h
        exact kf
     ·replace h := qn hb h
      refine kr [] ?_
      refine qb (fun hb => ?_) (fun hb => ?_)
      ·replace h := qm hb h
       refine kr [] ?_
       obtain ⟨x1, hx, h⟩ := bind_some h
       refine qj (H_F_R8_line _ _ hx) ?_
       refine kr [] ?_
       cases h
       exact kf
      ·replace h := qn hb h
       refine kr [] ?_
       refine qb (fun hb => ?_) (fun hb => ?_)
       ·replace h := qm hb h
        refine kr [] ?_
        refine qb (fun hb => ?_) (fun hb => ?_)
        ·replace h := qm hb h
         refine kr [] ?_
         cases h
         exact kf
        ·replace h := qn hb h
         refine kr [] ?_
         obtain ⟨x2, hx, h⟩ := bind_some h
         refine qj (H_F_R8_line _ _ hx) ?_
         refine kr [] ?_
         cases h
         exact kf
       ·replace h := qn hb h
        refine kr [] ?_
        refine qb (fun hb => ?_) (fun hb => ?_)
        ·replace h := qm hb h
         refine kr [] ?_
         refine qb (fun hb => ?_) (fun hb => ?_)
         ·replace h := qm hb h
          refine kr [] ?_
          cases h
          exact kf
         ·replace h := qn hb h
          refine kr [] ?_
          cases h
          exact kf
        ·replace h := qn hb h
         refine kr [] ?_
         refine qb (fun hb => ?_) (fun hb => ?_)
         ·replace h := qm hb h
          refine kr [] ?_
          cases h
          exact kf
         ·replace h := qn hb h
          refine kr [] ?_
          refine qb (fun hb => ?_) (fun hb => ?_)
          ·replace h := qm hb h
           refine kr [] ?_
           cases h
           exact kf
          ·replace h := qn hb h
           refine kr [] ?_
           refine qb (fun hb => ?_) (fun hb => ?_)
           ·replace h := qm hb h
            refine kr [] ?_
            cases h
            exact kf
           ·replace h := qn hb h
            refine kr [] ?_
            cases h
            exact kf
def F_R8_inner (a0 : Node) (a1 : Int) : Option Int :=
 if (decide (a0.kind = (6 : Int))) = true then
  some (IntKind.i64.wrap (a1 + (1 : Int)))
 else
  if (decide (a0.kind = (7 : Int))) = true then
   some (IntKind.i64.wrap (a1 + (1 : Int)))
  else
   some a1
@[reducible] def M_F_R8_inner (a0 : Node) (a1 : Int) (r : Int) : Prop :=
  Fn Tryz.prog G 54 [(.agg (zk a0)), (.int .i64 a1)] (.int .i64 r)
theorem H_F_R8_inner : PC2 M_F_R8_inner F_R8_inner := fun a0 a1 r h => by
 rw [F_R8_inner.eq_def] at h
 refine zd (T := tt) (N := 16) (rs := [.tmp 4]) (fun vs w => by simp) Tryz.func54 rfl rfl rfl rfl (by kernel_rfl) (zt rfl) (zj _ rfl) ?_
 refine kr [] ?_
 refine qr (fun hb => ?_) (fun hb => ?_)
 ·replace h := qn hb h
  refine kr [] ?_
  refine qb (fun hb => ?_) (fun hb => ?_)
  ·replace h := qm hb h
   refine kr [] ?_
   cases h
   exact kf
  ·replace h := qn hb h
   refine kr [] ?_
   cases h
   exact kf
 ·replace h := qm hb h
  refine kr [] ?_
  cases h
  exact kf
def F_R8_gap (a0 : Node) (a1 : Int) (a2 : BA) (a3 : Int) : Option BA :=
 if (decide (a0.kind = (1 : Int))) = true then
  if (decide ((0 : Int) < ((a0.kids.map Node.cells).length : Int))) = true then
   some (⟨#[10]⟩ : BA)
  else
   some a2
 else
  if (decide (a0.kind = (24 : Int))) = true then
   some (⟨#[32]⟩ : BA)
  else
   if (decide (a0.kind = (21 : Int))) = true then
    some (⟨#[]⟩ : BA)
   else
    if (decide (a0.kind = (16 : Int))) = true then
     some (⟨#[]⟩ : BA)
    else
     if (decide (a1 = (0 : Int))) = true then
      some a2
     else
      if (decide (a0.kind = (6 : Int))) = true then
       if (decide ((0 : Int) < ((a0.kids.map Node.cells).length : Int))) = true then
        F_R8_line a3 >>= fun x1 =>
        some x1
       else
        some (⟨#[]⟩ : BA)
      else
       if (decide (a0.kind = (7 : Int))) = true then
        if (decide (a1 < (3 : Int))) = true then
         some (⟨#[32]⟩ : BA)
        else
         if (decide ((1 : Int) < ((a0.kids.map Node.cells).length : Int))) = true then
          F_R8_line a3 >>= fun x2 =>
          some x2
         else
          some (⟨#[]⟩ : BA)
       else
        if (decide (a0.kind = (2 : Int))) = true then
         some (⟨#[32]⟩ : BA)
        else
         if (decide (a0.kind = (8 : Int))) = true then
          some (⟨#[32]⟩ : BA)
         else
          if (decide (a0.kind = (9 : Int))) = true then
           if (decide (a1 < (3 : Int))) = true then
            some (⟨#[32]⟩ : BA)
           else
            some (⟨#[]⟩ : BA)
          else
           if (decide (a0.kind = (10 : Int))) = true then
            if (decide (a1 < (3 : Int))) = true then
             some (⟨#[32]⟩ : BA)
            else
             some (⟨#[]⟩ : BA)
           else
            if (decide (a0.kind = (11 : Int))) = true then
             if (decide (a1 = (1 : Int))) = true then
              some (⟨#[32]⟩ : BA)
             else
              some (⟨#[]⟩ : BA)
            else
             if (decide (a0.kind = (22 : Int))) = true then
              if (decide (a1 = (1 : Int))) = true then
               some (⟨#[32]⟩ : BA)
              else
               some (⟨#[]⟩ : BA)
             else
              some (⟨#[]⟩ : BA)
@[reducible] def M_F_R8_gap (a0 : Node) (a1 : Int) (a2 : BA) (a3 : Int) (r : BA) : Prop :=
  Fn Tryz.prog G 55 [(.agg (zk a0)), (.int .i64 a1), (.str a2), (.int .i64 a3)] (.str r)
theorem H_F_R8_gap : PC4 M_F_R8_gap F_R8_gap := fun a0 a1 a2 a3 r h => by
 rw [F_R8_gap.eq_def] at h
 refine zd (T := tt) (N := 59) (rs := [.tmp 8]) (fun vs w => by simp) Tryz.func55 rfl rfl rfl rfl (by kernel_rfl) (zt rfl) (zj _ rfl) ?_
 refine kr [] ?_
 refine qb (fun hb => ?_) (fun hb => ?_)
 ·replace h := qm hb h
  refine kr [] ?_
  refine qb (fun hb => ?_) (fun hb => ?_)
  ·replace h := qm hb h
   refine kr [] ?_
   cases h
   exact kf
  ·replace h := qn hb h
   refine kr [] ?_
   cases h
   exact kf
 ·replace h := qn hb h
  refine kr [] ?_
  refine qb (fun hb => ?_) (fun hb => ?_)
  ·replace h := qm hb h
   refine kr [] ?_
   cases h
   exact kf
  ·replace h := qn hb h
   refine kr [] ?_
   refine qb (fun hb => ?_) (fun hb => ?_)
   ·replace h := qm hb h
    refine kr [] ?_
    cases h
    exact kf
   ·replace h := qn hb h
    refine kr [] ?_
    refine qb (fun hb => ?_) (fun hb => ?_)
    ·replace h := qm hb h
     refine kr [] ?_
     cases h
     exact kf
    ·replace h := qn hb h
     refine kr [] ?_
     refine qb (fun hb => ?_) (fun hb => ?_)
     ·replace h := qm hb h
      refine kr [] ?_
      cases h
      exact kf
     ·replace h := qn hb h
      refine kr [] ?_
      refine qb (fun hb => ?_) (fun hb => ?_)
      ·replace h := qm hb h
       refine kr [] ?_
       refine qb (fun hb => ?_) (fun hb => ?_)
       ·replace h := qm hb h
        refine kr [] ?_
        obtain ⟨x1, hx, h⟩ := bind_some h
        refine qj (H_F_R8_line _ _ hx) ?_
        refine kr [] ?_
        cases h
        exact kf
       ·replace h := qn hb h
        refine kr [] ?_
        cases h
        exact kf
      ·replace h := qn hb h
       refine kr [] ?_
       refine qb (fun hb => ?_) (fun hb => ?_)
       ·replace h := qm hb h
        refine kr [] ?_
        refine qb (fun hb => ?_) (fun hb => ?_)
        ·replace h := qm hb h
         refine kr [] ?_
         cases h
         exact kf
        ·replace h := qn hb h
         refine kr [] ?_
         refine qb (fun hb => ?_) (fun hb => ?_)
         ·replace h := qm hb h
          refine kr [] ?_
          obtain ⟨x2, hx, h⟩ := bind_some h
          refine qj (H_F_R8_line _ _ hx) ?_
          refine kr [] ?_
          cases h
          exact kf
         ·replace h := qn hb h
          refine kr [] ?_
          cases h
          exact kf
       ·replace h := qn hb h
        refine kr [] ?_
        refine qb (fun hb => ?_) (fun hb => ?_)
        ·replace h := qm hb h
         refine kr [] ?_
         cases h
         exact kf
        ·replace h := qn hb h
         refine kr [] ?_
         refine qb (fun hb => ?_) (fun hb => ?_)
         ·replace h := qm hb h
          refine kr [] ?_
          cases h
          exact kf
         ·replace h := qn hb h
          refine kr [] ?_
          refine qb (fun hb => ?_) (fun hb => ?_)
          ·replace h := qm hb h
           refine kr [] ?_
           refine qb (fun hb => ?_) (fun hb => ?_)
           ·replace h := qm hb h
            refine kr [] ?_
            cases h
            exact kf
           ·replace h := qn hb h
            refine kr [] ?_
            cases h
            exact kf
          ·replace h := qn hb h
           refine kr [] ?_
           refine qb (fun hb => ?_) (fun hb => ?_)
           ·replace h := qm hb h
            refine kr [] ?_
            refine qb (fun hb => ?_) (fun hb => ?_)
            ·replace h := qm hb h
             refine kr [] ?_
             cases h
             exact kf
            ·replace h := qn hb h
             refine kr [] ?_
             cases h
             exact kf
           ·replace h := qn hb h
            refine kr [] ?_
            refine qb (fun hb => ?_) (fun hb => ?_)
            ·replace h := qm hb h
             refine kr [] ?_
             refine qb (fun hb => ?_) (fun hb => ?_)
             ·replace h := qm hb h
              refine kr [] ?_
              cases h
              exact kf
             ·replace h := qn hb h
              refine kr [] ?_
              cases h
              exact kf
            ·replace h := qn hb h
             refine kr [] ?_
             refine qb (fun hb => ?_) (fun hb => ?_)
             ·replace h := qm hb h
              refine kr [] ?_
              refine qb (fun hb => ?_) (fun hb => ?_)
              ·replace h := qm hb h
               refine kr [] ?_
               cases h
               exact kf
              ·replace h := qn hb h
               refine kr [] ?_
               cases h
               exact kf
             ·replace h := qn hb h
              refine kr [] ?_
              cases h
              exact kf
def F_R5_Digit (a0 : Int) : Option Bool :=
 if (decide ((48 : Int) ≤ a0)) = true then
  some (decide (a0 ≤ (57 : Int)))
 else
  some false
@[reducible] def M_F_R5_Digit (a0 : Int) (r : Bool) : Prop :=
  Fn Tryz.prog G 110 [(.int .u8 a0)] (.bool r)
theorem H_F_R5_Digit : PC1 M_F_R5_Digit F_R5_Digit := fun a0 r h => by
 rw [F_R5_Digit.eq_def] at h
 refine zd (T := tt) (N := 9) (rs := [.tmp 2]) (fun vs w => by simp) Tryz.func110 rfl rfl rfl rfl (by kernel_rfl) (zt rfl) (zj _ rfl) ?_
 refine kr [] ?_
 refine ql (fun hb => ?_) (fun hb => ?_)
 ·replace h := qm hb h
  refine kr [] ?_
  cases h
  exact kf
 ·replace h := qn hb h
  refine kr [] ?_
  cases h
  exact kf
def F_R5_Letter (a0 : Int) : Option Bool :=
 if (decide ((97 : Int) ≤ a0)) = true then
  if (decide (a0 ≤ (122 : Int))) = true then
   some true
  else
   if (decide ((65 : Int) ≤ a0)) = true then
    if (decide (a0 ≤ (90 : Int))) = true then
     some true
    else
     F_R5_Digit a0 >>= fun x1 =>
     if x1 = true then
      some true
     else
      some (decide (a0 = (95 : Int)))
   else
    F_R5_Digit a0 >>= fun x2 =>
    if x2 = true then
     some true
    else
     some (decide (a0 = (95 : Int)))
 else
  if (decide ((65 : Int) ≤ a0)) = true then
   if (decide (a0 ≤ (90 : Int))) = true then
    some true
   else
    F_R5_Digit a0 >>= fun x3 =>
    if x3 = true then
     some true
    else
     some (decide (a0 = (95 : Int)))
  else
   F_R5_Digit a0 >>= fun x4 =>
   if x4 = true then
    some true
   else
    some (decide (a0 = (95 : Int)))
@[reducible] def M_F_R5_Letter (a0 : Int) (r : Bool) : Prop :=
  Fn Tryz.prog G 94 [(.int .u8 a0)] (.bool r)
theorem H_F_R5_Letter : PC1 M_F_R5_Letter F_R5_Letter := fun a0 r h => by
 rw [F_R5_Letter.eq_def] at h
 refine zd (T := tt) (N := 25) (rs := [.tmp 2]) (fun vs w => by simp) Tryz.func94 rfl rfl rfl rfl (by kernel_rfl) (zt rfl) (zj _ rfl) ?_
 refine kr [] ?_
 refine ql (fun hb => ?_) (fun hb => ?_)
 ·replace h := qm hb h
  refine kr [] ?_
  refine qr (fun hb => ?_) (fun hb => ?_)
  ·replace h := qn hb h
   refine kr [] ?_
   refine ql (fun hb => ?_) (fun hb => ?_)
   ·replace h := qm hb h
    refine kr [] ?_
    refine qr (fun hb => ?_) (fun hb => ?_)
    ·replace h := qn hb h
     refine kr [] ?_
     obtain ⟨x1, hx, h⟩ := bind_some h
     refine qj (H_F_R5_Digit _ _ hx) ?_
     refine kr [] ?_
     refine qr (fun hb => ?_) (fun hb => ?_)
     ·replace h := qn hb h
      refine kr [] ?_
      cases h
      exact kf
     ·replace h := qm hb h
      refine kr [] ?_
      cases h
      exact kf
    ·replace h := qm hb h
     refine kr [] ?_
     cases h
     exact kf
   ·replace h := qn hb h
    refine kr [] ?_
    obtain ⟨x2, hx, h⟩ := bind_some h
    refine qj (H_F_R5_Digit _ _ hx) ?_
    refine kr [] ?_
    refine qr (fun hb => ?_) (fun hb => ?_)
    ·replace h := qn hb h
     refine kr [] ?_
     cases h
     exact kf
    ·replace h := qm hb h
     refine kr [] ?_
     cases h
     exact kf
  ·replace h := qm hb h
   refine kr [] ?_
   cases h
   exact kf
 ·replace h := qn hb h
  refine kr [] ?_
  refine ql (fun hb => ?_) (fun hb => ?_)
  ·replace h := qm hb h
   refine kr [] ?_
   refine qr (fun hb => ?_) (fun hb => ?_)
   ·replace h := qn hb h
    refine kr [] ?_
    obtain ⟨x3, hx, h⟩ := bind_some h
    refine qj (H_F_R5_Digit _ _ hx) ?_
    refine kr [] ?_
    refine qr (fun hb => ?_) (fun hb => ?_)
    ·replace h := qn hb h
     refine kr [] ?_
     cases h
     exact kf
    ·replace h := qm hb h
     refine kr [] ?_
     cases h
     exact kf
   ·replace h := qm hb h
    refine kr [] ?_
    cases h
    exact kf
  ·replace h := qn hb h
   refine kr [] ?_
   obtain ⟨x4, hx, h⟩ := bind_some h
   refine qj (H_F_R5_Digit _ _ hx) ?_
   refine kr [] ?_
   refine qr (fun hb => ?_) (fun hb => ?_)
   ·replace h := qn hb h
    refine kr [] ?_
    cases h
    exact kf
   ·replace h := qm hb h
    refine kr [] ?_
    cases h
    exact kf
def F_R5_Glue_t21 (t0 : BA) (t1 : BA) : Option Bool :=
 if (decide (t0 = (⟨#[61]⟩ : BA))) = true then
  if (decide (t1 = (⟨#[61]⟩ : BA))) = true then
   some true
  else
   if (decide (t1 = (⟨#[61, 61]⟩ : BA))) = true then
    some true
   else
    if (decide (t0 = (⟨#[47]⟩ : BA))) = true then
     some (decide (t1 = (⟨#[47]⟩ : BA)))
    else
     some false
 else
  if (decide (t0 = (⟨#[47]⟩ : BA))) = true then
   some (decide (t1 = (⟨#[47]⟩ : BA)))
  else
   some false
@[reducible] def M_F_R5_Glue_t21 (t0 : BA) (t1 : BA) (r : Bool) : Prop :=
  Ok Tryz.prog G tt 40 0 (Ret Tryz.prog [.tmp 4] (fun y H => Told Tryz.prog G H y (.bool r))) (.go [] (yq [21] Tryz.f78 21) [] (.n (.str t0) (.n (.str t1) .z .z) .z) 0 [])
theorem H_F_R5_Glue_t21 : PC2 M_F_R5_Glue_t21 F_R5_Glue_t21 := fun t0 t1 r h => by
 rw [F_R5_Glue_t21.eq_def] at h
 refine kr [21] ?_
 refine ql (fun hb => ?_) (fun hb => ?_)
 ·replace h := qm hb h
  refine kr [21] ?_
  refine qr (fun hb => ?_) (fun hb => ?_)
  ·replace h := qn hb h
   refine kr [21] ?_
   refine qr (fun hb => ?_) (fun hb => ?_)
   ·replace h := qn hb h
    refine kr [21] ?_
    refine ql (fun hb => ?_) (fun hb => ?_)
    ·replace h := qm hb h
     refine kr [21] ?_
     cases h
     exact kf
    ·replace h := qn hb h
     refine kr [21] ?_
     cases h
     exact kf
   ·replace h := qm hb h
    refine kr [21] ?_
    cases h
    exact kf
  ·replace h := qm hb h
   refine kr [21] ?_
   cases h
   exact kf
 ·replace h := qn hb h
  refine kr [21] ?_
  refine ql (fun hb => ?_) (fun hb => ?_)
  ·replace h := qm hb h
   refine kr [21] ?_
   cases h
   exact kf
  ·replace h := qn hb h
   refine kr [21] ?_
   cases h
   exact kf
def F_R5_Glue (a0 : BA) (a1 : BA) : Option Bool :=
 if (decide (a0 = (⟨#[]⟩ : BA))) = true then
  some false
 else
  if (decide (a1 = (⟨#[]⟩ : BA))) = true then
   some false
  else
   sx a0 (IntKind.i64.wrap ((a0.size : Int) - (1 : Int))) >>= fun x1 =>
   F_R5_Letter x1 >>= fun x2 =>
   if x2 = true then
    sx a1 (0 : Int) >>= fun x3 =>
    F_R5_Letter x3 >>= fun x4 =>
    if x4 = true then
     some true
    else
     F_R5_Glue_t21 a0 a1
   else
    F_R5_Glue_t21 a0 a1
@[reducible] def M_F_R5_Glue (a0 : BA) (a1 : BA) (r : Bool) : Prop :=
  Fn Tryz.prog G 78 [(.str a0), (.str a1)] (.bool r)
theorem H_F_R5_Glue : PC2 M_F_R5_Glue F_R5_Glue := fun a0 a1 r h => by
 rw [F_R5_Glue.eq_def] at h
 refine zd (T := tt) (N := 40) (rs := [.tmp 4]) (fun vs w => by simp) Tryz.func78 rfl rfl rfl rfl (by kernel_rfl) (zt rfl) (zj _ rfl) ?_
 refine kr [21] ?_
 refine qr (fun hb => ?_) (fun hb => ?_)
 ·replace h := qn hb h
  refine kr [21] ?_
  refine qb (fun hb => ?_) (fun hb => ?_)
  ·replace h := qm hb h
   refine kr [21] ?_
   cases h
   exact kf
  ·replace h := qn hb h
   refine kr [21] ?_
   obtain ⟨x1, hx, h⟩ := bind_some h
   refine Ok_sxT env hx rfl rfl rfl rfl ?_
   refine kr [21] ?_
   obtain ⟨x2, hx, h⟩ := bind_some h
   refine qj (H_F_R5_Letter _ _ hx) ?_
   refine kr [21] ?_
   refine ql (fun hb => ?_) (fun hb => ?_)
   ·replace h := qm hb h
    refine kr [21] ?_
    obtain ⟨x3, hx, h⟩ := bind_some h
    refine Ok_sxT env hx rfl rfl rfl rfl ?_
    refine kr [21] ?_
    obtain ⟨x4, hx, h⟩ := bind_some h
    refine qj (H_F_R5_Letter _ _ hx) ?_
    refine kr [21] ?_
    refine qb (fun hb => ?_) (fun hb => ?_)
    ·replace h := qm hb h
     refine kr [21] ?_
     cases h
     exact kf
    ·replace h := qn hb h
     refine kr [21] ?_
     exact q7 (by kernel_rfl) rfl lA (H_F_R5_Glue_t21 _ _ _ h)
   ·replace h := qn hb h
    refine kr [21] ?_
    exact q7 (by kernel_rfl) rfl lA (H_F_R5_Glue_t21 _ _ _ h)
 ·replace h := qm hb h
  refine kr [21] ?_
  cases h
  exact kf
def F_R8_put (a0 : BA) (a1 : BA) (a2 : BA) (a3 : BA) : Option BA :=
 if (decide (a2 = (⟨#[]⟩ : BA))) = true then
  F_R5_Glue a1 a3 >>= fun x1 =>
  if x1 = true then
   cat a0 (⟨#[32]⟩ : BA) >>= fun x12 =>
   cat x12 a2 >>= fun x13 =>
   cat x13 a3 >>= fun x14 =>
   some x14
  else
   if (decide (a1 = (⟨#[47]⟩ : BA))) = true then
    if (!decide (a2 = (⟨#[]⟩ : BA))) = true then
     sx a2 (0 : Int) >>= fun x2 =>
     if (decide (x2 = (47 : Int))) = true then
      cat a0 (⟨#[32]⟩ : BA) >>= fun x3 =>
      cat x3 a2 >>= fun x4 =>
      cat x4 a3 >>= fun x5 =>
      some x5
     else
      cat a0 a2 >>= fun x6 =>
      cat x6 a3 >>= fun x7 =>
      some x7
    else
     cat a0 a2 >>= fun x8 =>
     cat x8 a3 >>= fun x9 =>
     some x9
   else
    cat a0 a2 >>= fun x10 =>
    cat x10 a3 >>= fun x11 =>
    some x11
 else
  if (decide (a1 = (⟨#[47]⟩ : BA))) = true then
   if (!decide (a2 = (⟨#[]⟩ : BA))) = true then
    sx a2 (0 : Int) >>= fun x15 =>
    if (decide (x15 = (47 : Int))) = true then
     cat a0 (⟨#[32]⟩ : BA) >>= fun x16 =>
     cat x16 a2 >>= fun x17 =>
     cat x17 a3 >>= fun x18 =>
     some x18
    else
     cat a0 a2 >>= fun x19 =>
     cat x19 a3 >>= fun x20 =>
     some x20
   else
    cat a0 a2 >>= fun x21 =>
    cat x21 a3 >>= fun x22 =>
    some x22
  else
   cat a0 a2 >>= fun x23 =>
   cat x23 a3 >>= fun x24 =>
   some x24
@[reducible] def M_F_R8_put (a0 : BA) (a1 : BA) (a2 : BA) (a3 : BA) (r : BA) : Prop :=
  Fn Tryz.prog G 56 [(.str a0), (.str a1), (.str a2), (.str a3)] (.str r)
theorem H_F_R8_put : PC4 M_F_R8_put F_R8_put := fun a0 a1 a2 a3 r h => by
 rw [F_R8_put.eq_def] at h
 refine zd (T := tt) (N := 40) (rs := [.tmp 8]) (fun vs w => by simp) Tryz.func56 rfl rfl rfl rfl (by kernel_rfl) (zt rfl) (zj _ rfl) ?_
 refine kr [] ?_
 refine ql (fun hb => ?_) (fun hb => ?_)
 ·replace h := qm hb h
  refine kr [] ?_
  obtain ⟨x1, hx, h⟩ := bind_some h
  refine qj (H_F_R5_Glue _ _ _ hx) ?_
  refine kr [] ?_
  refine qr (fun hb => ?_) (fun hb => ?_)
  ·replace h := qn hb h
   refine kr [] ?_
   refine ql (fun hb => ?_) (fun hb => ?_)
   ·replace h := qm hb h
    refine kr [] ?_
    refine ql (fun hb => ?_) (fun hb => ?_)
    ·replace h := qm hb h
     refine kr [] ?_
     obtain ⟨x2, hx, h⟩ := bind_some h
     refine Ok_sxT env hx rfl rfl rfl rfl ?_
     refine kr [] ?_
     refine qb (fun hb => ?_) (fun hb => ?_)
     ·replace h := qm hb h
      refine kr [] ?_
      obtain ⟨x3, hx, h⟩ := bind_some h
      refine yo env hx rfl rfl ?_
      refine kr [] ?_
      obtain ⟨x4, hx, h⟩ := bind_some h
      refine yo env hx rfl rfl ?_
      refine kr [] ?_
      obtain ⟨x5, hx, h⟩ := bind_some h
      refine yo env hx rfl rfl ?_
      refine kr [] ?_
      cases h
      exact kf
     ·replace h := qn hb h
      refine kr [] ?_
      obtain ⟨x6, hx, h⟩ := bind_some h
      refine yo env hx rfl rfl ?_
      refine kr [] ?_
      obtain ⟨x7, hx, h⟩ := bind_some h
      refine yo env hx rfl rfl ?_
      refine kr [] ?_
      cases h
      exact kf
    ·replace h := qn hb h
     refine kr [] ?_
     obtain ⟨x8, hx, h⟩ := bind_some h
     refine yo env hx rfl rfl ?_
     refine kr [] ?_
     obtain ⟨x9, hx, h⟩ := bind_some h
     refine yo env hx rfl rfl ?_
     refine kr [] ?_
     cases h
     exact kf
   ·replace h := qn hb h
    refine kr [] ?_
    obtain ⟨x10, hx, h⟩ := bind_some h
    refine yo env hx rfl rfl ?_
    refine kr [] ?_
    obtain ⟨x11, hx, h⟩ := bind_some h
    refine yo env hx rfl rfl ?_
    refine kr [] ?_
    cases h
    exact kf
  ·replace h := qm hb h
   refine kr [] ?_
   obtain ⟨x12, hx, h⟩ := bind_some h
   refine yo env hx rfl rfl ?_
   refine kr [] ?_
   obtain ⟨x13, hx, h⟩ := bind_some h
   refine yo env hx rfl rfl ?_
   refine kr [] ?_
   obtain ⟨x14, hx, h⟩ := bind_some h
   refine yo env hx rfl rfl ?_
   refine kr [] ?_
   cases h
   exact kf
 ·replace h := qn hb h
  refine kr [] ?_
  refine ql (fun hb => ?_) (fun hb => ?_)
  ·replace h := qm hb h
   refine kr [] ?_
   refine ql (fun hb => ?_) (fun hb => ?_)
   ·replace h := qm hb h
    refine kr [] ?_
    obtain ⟨x15, hx, h⟩ := bind_some h
    refine Ok_sxT env hx rfl rfl rfl rfl ?_
    refine kr [] ?_
    refine qb (fun hb => ?_) (fun hb => ?_)
    ·replace h := qm hb h
     refine kr [] ?_
     obtain ⟨x16, hx, h⟩ := bind_some h
     refine yo env hx rfl rfl ?_
     refine kr [] ?_
     obtain ⟨x17, hx, h⟩ := bind_some h
     refine yo env hx rfl rfl ?_
     refine kr [] ?_
     obtain ⟨x18, hx, h⟩ := bind_some h
     refine yo env hx rfl rfl ?_
     refine kr [] ?_
     cases h
     exact kf
    ·replace h := qn hb h
     refine kr [] ?_
     obtain ⟨x19, hx, h⟩ := bind_some h
     refine yo env hx rfl rfl ?_
     refine kr [] ?_
     obtain ⟨x20, hx, h⟩ := bind_some h
     refine yo env hx rfl rfl ?_
     refine kr [] ?_
     cases h
     exact kf
   ·replace h := qn hb h
    refine kr [] ?_
    obtain ⟨x21, hx, h⟩ := bind_some h
    refine yo env hx rfl rfl ?_
    refine kr [] ?_
    obtain ⟨x22, hx, h⟩ := bind_some h
    refine yo env hx rfl rfl ?_
    refine kr [] ?_
    cases h
    exact kf
  ·replace h := qn hb h
   refine kr [] ?_
   obtain ⟨x23, hx, h⟩ := bind_some h
   refine yo env hx rfl rfl ?_
   refine kr [] ?_
   obtain ⟨x24, hx, h⟩ := bind_some h
   refine yo env hx rfl rfl ?_
   refine kr [] ?_
   cases h
   exact kf
mutual
def F_R8_write (a0 : Node) (a1 : BA) (a2 : Int) (a3 : BA) (a4 : BA) : Option (BA × BA) :=
 F_R8_Own (qa a0) >>= fun x1 =>
 F_R8_Order (qa a0) >>= fun x2 =>
 F_R8_write_l0 (qa a1) (qa a2) (qa a3) (qa a4) (qa x1) (qa x2) (0 : Int) (0 : Int) (qa a0)
 partial_fixpoint
def F_R8_write_l0 (t1 : BA) (t2 : Int) (t12 : BA) (t13 : BA) (t14 : LB) (t15 : (List Int)) (t16 : Int) (t17 : Int) (o0 : Node) : Option (BA × BA) :=
 if (decide (t17 < ((t15.map ic).length : Int))) = true then
  ix t15 t17 >>= fun x3 =>
  if (decide ((0 : Int) ≤ x3)) = true then
   ix t15 t17 >>= fun x4 =>
   ix o0.kids x4 >>= fun x5 =>
   ix t15 t17 >>= fun x6 =>
   F_R8_kid (qa o0) (qa x6) (qa t1) (qa t2) >>= fun x7 =>
   F_R8_inner (qa o0) (qa t2) >>= fun x8 =>
   F_R8_write (qa x5) (qa x7) (qa x8) (qa t12) (qa t13) >>= fun x9 =>
   F_R8_write_b1 (qa t1) (qa t2) x9.1 x9.2 (qa t14) (qa t15) (qa t16) (qa t17) (qa o0)
  else
   F_R8_gap (qa o0) (qa t16) (qa t1) (qa t2) >>= fun x10 =>
   if (decide ((0 : Int) < ((o0.gaps.map sc).length : Int))) = true then
    ix o0.gaps t16 >>= fun x11 =>
    F_R8_write_t69 (qa t1) (qa t2) (qa t12) (qa t13) (qa t14) (qa t15) (qa t16) (qa t17) (qa x11) (qa o0)
   else
    F_R8_write_t69 (qa t1) (qa t2) (qa t12) (qa t13) (qa t14) (qa t15) (qa t16) (qa t17) (qa x10) (qa o0)
 else
  some (t12, t13)
 partial_fixpoint
def F_R8_write_b1 (t1 : BA) (t2 : Int) (t12 : BA) (t13 : BA) (t14 : LB) (t15 : (List Int)) (t16 : Int) (t17 : Int) (o0 : Node) : Option (BA × BA) :=
 F_R8_write_l0 (qa t1) (qa t2) (qa t12) (qa t13) (qa t14) (qa t15) (qa t16) (IntKind.i64.wrap (t17 + (1 : Int))) (qa o0)
 partial_fixpoint
def F_R8_write_t69 (t1 : BA) (t2 : Int) (t12 : BA) (t13 : BA) (t14 : LB) (t15 : (List Int)) (t16 : Int) (t17 : Int) (t18 : BA) (o0 : Node) : Option (BA × BA) :=
 ix t14 t16 >>= fun x12 =>
 F_R8_put (qa t12) (qa t13) (qa t18) (qa x12) >>= fun x13 =>
 ix t14 t16 >>= fun x14 =>
 F_R8_write_b1 (qa t1) (qa t2) (qa x13) (qa x14) (qa t14) (qa t15) (IntKind.i64.wrap (t16 + (1 : Int))) (qa t17) (qa o0)
 partial_fixpoint
end
@[reducible] def M_F_R8_write (a0 : Node) (a1 : BA) (a2 : Int) (a3 : BA) (a4 : BA) (r : BA × BA) : Prop :=
  Fn Tryz.prog G 32 [(.agg (zk a0)), (.str a1), (.int .i64 a2), (.str a3), (.str a4)] (.tup [(.str r.1), (.str r.2)])
@[reducible] def M_F_R8_write_l0 (t1 : BA) (t2 : Int) (t12 : BA) (t13 : BA) (t14 : LB) (t15 : (List Int)) (t16 : Int) (t17 : Int) (o0 : Node) (r : BA × BA) : Prop :=
  Ok Tryz.prog G tt 91 0 (Ret Tryz.prog [.tmp 10, .tmp 11] (fun y H => Told Tryz.prog G H y (.tup [(.str r.1), (.str r.2)]))) (.again (ja [1000001, 69] Tryz.f32 0).1 (ja [1000001, 69] Tryz.f32 0).2 (.n .undef (.n (.str t1) (.n .undef (.n .undef (.n (.sl 1 false (t15.map ic)) .z .z) .z) .z) (.n (.ptr 0 0 0) (.n .undef (.n (.int .i64 t17) .z .z) .z) (.n (.str t13) .z .z))) (.n (.int .i64 t2) (.n .undef (.n .undef (.n (.int .i64 t16) .z .z) .z) (.n (.str t12) .z .z)) (.n .undef .z (.n (.sl 1 false (t14.map sc)) .z .z)))) 1 [(0, .var 25 (zk o0))])
@[reducible] def M_F_R8_write_b1 (t1 : BA) (t2 : Int) (t12 : BA) (t13 : BA) (t14 : LB) (t15 : (List Int)) (t16 : Int) (t17 : Int) (o0 : Node) (r : BA × BA) : Prop :=
  Ok Tryz.prog G tt 91 0 (Ret Tryz.prog [.tmp 10, .tmp 11] (fun y H => Told Tryz.prog G H y (.tup [(.str r.1), (.str r.2)]))) (.go [] (blockOf [1000001, 69] Tryz.f32 1) [] (.n .undef (.n (.str t1) (.n .undef (.n .undef (.n (.sl 1 false (t15.map ic)) .z .z) .z) .z) (.n (.ptr 0 0 0) (.n .undef (.n (.int .i64 t17) .z .z) .z) (.n (.str t13) .z .z))) (.n (.int .i64 t2) (.n .undef (.n .undef (.n (.int .i64 t16) .z .z) .z) (.n (.str t12) .z .z)) (.n .undef .z (.n (.sl 1 false (t14.map sc)) .z .z)))) 1 [(0, .var 25 (zk o0))])
@[reducible] def M_F_R8_write_t69 (t1 : BA) (t2 : Int) (t12 : BA) (t13 : BA) (t14 : LB) (t15 : (List Int)) (t16 : Int) (t17 : Int) (t18 : BA) (o0 : Node) (r : BA × BA) : Prop :=
  Ok Tryz.prog G tt 91 0 (Ret Tryz.prog [.tmp 10, .tmp 11] (fun y H => Told Tryz.prog G H y (.tup [(.str r.1), (.str r.2)]))) (.go [] (yq [1000001, 69] Tryz.f32 69) [] (.n .undef (.n (.str t1) (.n .undef (.n .undef (.n (.sl 1 false (t15.map ic)) .z .z) .z) .z) (.n (.ptr 0 0 0) (.n .undef (.n (.int .i64 t17) .z .z) .z) (.n (.str t13) .z .z))) (.n (.int .i64 t2) (.n .undef (.n .undef (.n (.int .i64 t16) .z .z) .z) (.n (.str t12) .z .z)) (.n .undef (.n .undef (.n (.str t18) .z .z) .z) (.n (.sl 1 false (t14.map sc)) .z .z)))) 1 [(0, .var 25 (zk o0))])
theorem ALL_F_R8_write : PC5 M_F_R8_write F_R8_write ∧ PC9 M_F_R8_write_l0 F_R8_write_l0 ∧ PC10 M_F_R8_write_t69 F_R8_write_t69 ∧ PC9 M_F_R8_write_b1 F_R8_write_b1 := by
 refine F_R8_write.mutual_partial_correctness M_F_R8_write M_F_R8_write_l0 M_F_R8_write_t69 M_F_R8_write_b1 (fun F_R8_write_l0 H_F_R8_write_l0 a0 a1 a2 a3 a4 r h => ?_) (fun F_R8_write F_R8_write_t69 F_R8_write_b1 H_F_R8_write H_F_R8_write_t69 H_F_R8_write_b1 t1 t2 t12 t13 t14 t15 t16 t17 o0 r h => ?_) (fun F_R8_write_b1 H_F_R8_write_b1 t1 t2 t12 t13 t14 t15 t16 t17 t18 o0 r h => ?_) (fun F_R8_write_l0 H_F_R8_write_l0 t1 t2 t12 t13 t14 t15 t16 t17 o0 r h => ?_)
 ·unfold qa at h
  refine zd (T := tt) (N := 91) (rs := [.tmp 10, .tmp 11]) (fun vs w => by simp) Tryz.func32 rfl rfl rfl rfl (by kernel_rfl) (zt rfl) (zj _ rfl) ?_
  refine kr [1000001, 69] ?_
  obtain ⟨x1, hx, h⟩ := bind_some h
  refine qj (H_F_R8_Own _ _ hx) ?_
  refine kr [1000001, 69] ?_
  obtain ⟨x2, hx, h⟩ := bind_some h
  refine qj (H_F_R8_Order _ _ hx) ?_
  refine kr [1000001, 69] ?_
  exact z8 (by kernel_rfl) lA (H_F_R8_write_l0 _ _ _ _ _ _ _ _ _ _ h)
 ·unfold qa at h
  refine jf ?_
  refine kr [1000001, 69] ?_
  refine qb (fun hb => ?_) (fun hb => ?_)
  ·replace h := qm hb h
   refine kr [1000001, 69] ?_
   obtain ⟨x3, hx, h⟩ := bind_some h
   refine ya env hx rfl rfl rfl rfl rfl ?_
   refine kr [1000001, 69] ?_
   refine qb (fun hb => ?_) (fun hb => ?_)
   ·replace h := qm hb h
    refine kr [1000001, 69] ?_
    obtain ⟨x4, hx, h⟩ := bind_some h
    refine ya env hx rfl rfl rfl rfl rfl ?_
    refine kr [1000001, 69] ?_
    obtain ⟨x5, hx, h⟩ := bind_some h
    refine ya env hx rfl rfl rfl rfl (Node.cells_eq x5) ?_
    refine kr [1000001, 69] ?_
    obtain ⟨x6, hx, h⟩ := bind_some h
    refine ya env hx rfl rfl rfl rfl rfl ?_
    refine kr [1000001, 69] ?_
    obtain ⟨x7, hx, h⟩ := bind_some h
    refine qj (H_F_R8_kid _ _ _ _ _ hx) ?_
    refine kr [1000001, 69] ?_
    obtain ⟨x8, hx, h⟩ := bind_some h
    refine qj (H_F_R8_inner _ _ _ hx) ?_
    refine kr [1000001, 69] ?_
    obtain ⟨x9, hx, h⟩ := bind_some h
    refine qj (H_F_R8_write _ _ _ _ _ _ hx) ?_
    refine kr [1000001, 69] ?_
    exact q7 (by kernel_rfl) rfl lA (H_F_R8_write_b1 _ _ _ _ _ _ _ _ _ _ h)
   ·replace h := qn hb h
    refine kr [1000001, 69] ?_
    obtain ⟨x10, hx, h⟩ := bind_some h
    refine qj (H_F_R8_gap _ _ _ _ _ hx) ?_
    refine kr [1000001, 69] ?_
    refine qb (fun hb => ?_) (fun hb => ?_)
    ·replace h := qm hb h
     refine kr [1000001, 69] ?_
     obtain ⟨x11, hx, h⟩ := bind_some h
     refine ya env hx rfl rfl rfl rfl rfl ?_
     refine kr [1000001, 69] ?_
     exact q7 (by kernel_rfl) rfl lA (H_F_R8_write_t69 _ _ _ _ _ _ _ _ _ _ _ h)
    ·replace h := qn hb h
     refine kr [1000001, 69] ?_
     exact q7 (by kernel_rfl) rfl lA (H_F_R8_write_t69 _ _ _ _ _ _ _ _ _ _ _ h)
  ·replace h := qn hb h
   refine kr [1000001, 69] ?_
   cases h
   exact kf
 ·unfold qa at h
  refine kr [1000001, 69] ?_
  obtain ⟨x12, hx, h⟩ := bind_some h
  refine ya env hx rfl rfl rfl rfl rfl ?_
  refine kr [1000001, 69] ?_
  obtain ⟨x13, hx, h⟩ := bind_some h
  refine qj (H_F_R8_put _ _ _ _ _ hx) ?_
  refine kr [1000001, 69] ?_
  obtain ⟨x14, hx, h⟩ := bind_some h
  refine ya env hx rfl rfl rfl rfl rfl ?_
  refine kr [1000001, 69] ?_
  exact q7 (by kernel_rfl) rfl lA (H_F_R8_write_b1 _ _ _ _ _ _ _ _ _ _ h)
 ·unfold qa at h
  refine kr [1000001, 69] ?_
  exact zy (by kernel_rfl) lA (H_F_R8_write_l0 _ _ _ _ _ _ _ _ _ _ h)
theorem H_F_R8_write : PC5 M_F_R8_write F_R8_write := ALL_F_R8_write.1
theorem H_F_R8_write_l0 : PC9 M_F_R8_write_l0 F_R8_write_l0 := ALL_F_R8_write.2.1
theorem H_F_R8_write_t69 : PC10 M_F_R8_write_t69 F_R8_write_t69 := ALL_F_R8_write.2.2.1
theorem H_F_R8_write_b1 : PC9 M_F_R8_write_b1 F_R8_write_b1 := ALL_F_R8_write.2.2.2
def F_R8_Text (a0 : Node) : Option (BA × Int) :=
 F_R7_Check a0 >>= fun x1 =>
 if (!decide (x1 = (0 : Int))) = true then
  some ((⟨#[]⟩ : BA), x1)
 else
  F_R8_write a0 (⟨#[]⟩ : BA) (0 : Int) (⟨#[]⟩ : BA) (⟨#[]⟩ : BA) >>= fun x2 =>
  if (decide ((65536 : Int) < (x2.1.size : Int))) = true then
   some ((⟨#[]⟩ : BA), (3 : Int))
  else
   some (x2.1, (0 : Int))
@[reducible] def M_F_R8_Text (a0 : Node) (r : BA × Int) : Prop :=
  Fn Tryz.prog G 12 [(.agg (zk a0))] (.tup [(.str r.1), (.int .i64 r.2)])
theorem H_F_R8_Text : PC1 M_F_R8_Text F_R8_Text := fun a0 r h => by
 rw [F_R8_Text.eq_def] at h
 refine zd (T := tt) (N := 21) (rs := [.tmp 2, .tmp 3]) (fun vs w => by simp) Tryz.func12 rfl rfl rfl rfl (by kernel_rfl) (zt rfl) (zj _ rfl) ?_
 refine kr [] ?_
 obtain ⟨x1, hx, h⟩ := bind_some h
 refine qj (H_F_R7_Check _ _ hx) ?_
 refine kr [] ?_
 refine qb (fun hb => ?_) (fun hb => ?_)
 ·replace h := qm hb h
  refine kr [] ?_
  cases h
  exact kf
 ·replace h := qn hb h
  refine kr [] ?_
  obtain ⟨x2, hx, h⟩ := bind_some h
  refine qj (H_F_R8_write _ _ _ _ _ _ hx) ?_
  refine kr [] ?_
  refine qb (fun hb => ?_) (fun hb => ?_)
  ·replace h := qm hb h
   refine kr [] ?_
   cases h
   exact kf
  ·replace h := qn hb h
   refine kr [] ?_
   cases h
   exact kf
mutual
def F_R6_Bare (a0 : Node) : Option Node :=
 F_R6_Bare_l0 (0 : Int) (qa a0) a0.kind a0.text ([] : LB) ([] : LN)
 partial_fixpoint
def F_R6_Bare_l0 (t4 : Int) (o0 : Node) (o2_0 : Int) (o2_1 : BA) (o2_2 : LB) (o2_3 : LN) : Option Node :=
 if (decide (t4 < ((o0.kids.map Node.cells).length : Int))) = true then
  ix o0.kids t4 >>= fun x1 =>
  F_R6_Bare (qa x1) >>= fun x2 =>
  app 72 o2_3 ([x2]) >>= fun x3 =>
  F_R6_Bare_l0 (IntKind.i64.wrap (t4 + (1 : Int))) (qa o0) (qa o2_0) (qa o2_1) (qa o2_2) (qa x3)
 else
  some (Node.mk o2_0 o2_1 o2_2 o2_3)
 partial_fixpoint
end
@[reducible] def M_F_R6_Bare (a0 : Node) (r : Node) : Prop :=
  Fn Tryz.prog G 34 [(.agg (zk a0))] (.agg (zk r))
@[reducible] def M_F_R6_Bare_l0 (t4 : Int) (o0 : Node) (o2_0 : Int) (o2_1 : BA) (o2_2 : LB) (o2_3 : LN) (r : Node) : Prop :=
  Ok Tryz.prog G tt 29 0 (Ret Tryz.prog [.cell 2 25] (fun y H => Told Tryz.prog G H y (.agg (zk r)))) (.again (ja [] Tryz.f34 0).1 (ja [] Tryz.f34 0).2 (.n .undef (.n (.ptr 0 0 0) (.n (.ptr 2 2 0) .z .z) .z) (.n (.ptr 1 1 0) (.n (.int .i64 t4) .z .z) .z)) 4 [(0, .var 25 (zk o0)), (1, .var 25 [(.int .i64 0), (.str ⟨#[]⟩), (.sl 1 false (([] : LB).map sc)), (.sl 4 false (([] : LN).map Node.cells))]), (2, .var 25 [(.int .i64 o2_0), (.str o2_1), (.sl 1 false (o2_2.map sc)), (.bs 4 3 3 0 o2_3.length)]), (3, .row 25 (o2_3.map Node.cells).flatten)])
theorem ALL_F_R6_Bare : PC1 M_F_R6_Bare F_R6_Bare ∧ PC6 M_F_R6_Bare_l0 F_R6_Bare_l0 := by
 refine F_R6_Bare.mutual_partial_correctness M_F_R6_Bare M_F_R6_Bare_l0 (fun F_R6_Bare_l0 H_F_R6_Bare_l0 a0 r h => ?_) (fun F_R6_Bare F_R6_Bare_l0 H_F_R6_Bare H_F_R6_Bare_l0 t4 o0 o2_0 o2_1 o2_2 o2_3 r h => ?_)
 ·unfold qa at h
  refine zd (T := tt) (N := 29) (rs := [.cell 2 25]) (fun vs w => by simp) Tryz.func34 rfl rfl rfl rfl (by kernel_rfl) (zt rfl) (zj _ rfl) ?_
  refine kr [] ?_
  refine Ok_ownF 2 3 4 25 rfl rfl rfl ?_
  exact z8 (by kernel_rfl) lA (H_F_R6_Bare_l0 _ _ _ _ _ _ _ h)
 ·unfold qa at h
  refine jf ?_
  refine kr [] ?_
  refine qb (fun hb => ?_) (fun hb => ?_)
  ·replace h := qm hb h
   refine kr [] ?_
   obtain ⟨x1, hx, h⟩ := bind_some h
   refine ya env hx rfl rfl rfl rfl (Node.cells_eq x1) ?_
   refine kr [] ?_
   obtain ⟨x2, hx, h⟩ := bind_some h
   refine qj (H_F_R6_Bare _ _ hx) ?_
   refine kr [] ?_
   obtain ⟨x3, hx, h⟩ := bind_some h
   have hp_x3 := zo hx (by simp)
   refine ye (C := Node.cells) env hx rfl (show _ = AV.sl _ _ (List.map Node.cells [x2]) from (by simp only [List.map_cons, List.map_nil, Node.cells_eq]; rfl)) (by simp) Node.cells_len rfl rfl rfl rfl rfl (by decide) rfl rfl rfl ?_
   refine kr [] ?_
   exact zy (by kernel_rfl) lA (H_F_R6_Bare_l0 _ _ _ _ _ _ _ h)
  ·replace h := qn hb h
   refine kr [] ?_
   cases h
   exact q8 env rfl rfl (zm (zp (Zb (jh (yj rfl) (jh (wy rfl) (jh (kv (.inl rfl)) (jh (zu qk rfl) vv))))) (by simp)))
theorem H_F_R6_Bare : PC1 M_F_R6_Bare F_R6_Bare := ALL_F_R6_Bare.1
theorem H_F_R6_Bare_l0 : PC6 M_F_R6_Bare_l0 F_R6_Bare_l0 := ALL_F_R6_Bare.2
def F_R8_Plain (a0 : Node) : Option (BA × Int) :=
 F_R7_Check a0 >>= fun x1 =>
 if (!decide (x1 = (0 : Int))) = true then
  some ((⟨#[]⟩ : BA), x1)
 else
  F_R6_Bare a0 >>= fun x2 =>
  F_R8_Text x2 >>= fun x3 =>
  some (x3.1, x3.2)
@[reducible] def M_F_R8_Plain (a0 : Node) (r : BA × Int) : Prop :=
  Fn Tryz.prog G 14 [(.agg (zk a0))] (.tup [(.str r.1), (.int .i64 r.2)])
theorem H_F_R8_Plain : PC1 M_F_R8_Plain F_R8_Plain := fun a0 r h => by
 rw [F_R8_Plain.eq_def] at h
 refine zd (T := tt) (N := 15) (rs := [.tmp 2, .tmp 3]) (fun vs w => by simp) Tryz.func14 rfl rfl rfl rfl (by kernel_rfl) (zt rfl) (zj _ rfl) ?_
 refine kr [] ?_
 obtain ⟨x1, hx, h⟩ := bind_some h
 refine qj (H_F_R7_Check _ _ hx) ?_
 refine kr [] ?_
 refine qb (fun hb => ?_) (fun hb => ?_)
 ·replace h := qm hb h
  refine kr [] ?_
  cases h
  exact kf
 ·replace h := qn hb h
  refine kr [] ?_
  obtain ⟨x2, hx, h⟩ := bind_some h
  refine qj (H_F_R6_Bare _ _ hx) ?_
  refine kr [] ?_
  obtain ⟨x3, hx, h⟩ := bind_some h
  refine qj (H_F_R8_Text _ _ hx) ?_
  refine kr [] ?_
  cases h
  exact kf
def F_L8_PrintTexts (a0 : Node) : Option Bool :=
 F_L8_small a0 >>= fun x1 =>
 if (!x1) = true then
  F_L8_awake >>= fun x2 =>
  some x2
 else
  F_print_Text a0 >>= fun x3 =>
  F_R8_Text a0 >>= fun x4 =>
  F_print_Plain a0 >>= fun x5 =>
  F_R8_Plain a0 >>= fun x6 =>
  if (decide (x3.1 = x4.1)) = true then
   if (decide (x3.2 = x4.2)) = true then
    if (decide (x5.1 = x6.1)) = true then
     if (decide (x5.2 = x6.2)) = true then
      F_L8_awake >>= fun x7 =>
      some x7
     else
      some false
    else
     some false
   else
    some false
  else
   some false
@[reducible] def M_F_L8_PrintTexts (a0 : Node) (r : Bool) : Prop :=
  Fn Tryz.prog G 4 [(.agg (zk a0))] (.bool r)
theorem H_F_L8_PrintTexts : PC1 M_F_L8_PrintTexts F_L8_PrintTexts := fun a0 r h => by
 rw [F_L8_PrintTexts.eq_def] at h
 refine zd (T := tt) (N := 56) (rs := [.tmp 2]) (fun vs w => by simp) Tryz.func4 rfl rfl rfl rfl (by kernel_rfl) (zt rfl) (zj _ rfl) ?_
 refine kr [] ?_
 obtain ⟨x1, hx, h⟩ := bind_some h
 refine qj (H_F_L8_small _ _ hx) ?_
 refine kr [] ?_
 refine qb (fun hb => ?_) (fun hb => ?_)
 ·replace h := qm hb h
  refine kr [] ?_
  obtain ⟨x2, hx, h⟩ := bind_some h
  refine qj (H_F_L8_awake _ hx) ?_
  refine kr [] ?_
  cases h
  exact kf
 ·replace h := qn hb h
  refine kr [] ?_
  obtain ⟨x3, hx, h⟩ := bind_some h
  refine qj (H_F_print_Text _ _ hx) ?_
  refine kr [] ?_
  obtain ⟨x4, hx, h⟩ := bind_some h
  refine qj (H_F_R8_Text _ _ hx) ?_
  refine kr [] ?_
  obtain ⟨x5, hx, h⟩ := bind_some h
  refine qj (H_F_print_Plain _ _ hx) ?_
  refine kr [] ?_
  obtain ⟨x6, hx, h⟩ := bind_some h
  refine qj (H_F_R8_Plain _ _ hx) ?_
  refine kr [] ?_
  refine ql (fun hb => ?_) (fun hb => ?_)
  ·replace h := qm hb h
   refine kr [] ?_
   refine ql (fun hb => ?_) (fun hb => ?_)
   ·replace h := qm hb h
    refine kr [] ?_
    refine ql (fun hb => ?_) (fun hb => ?_)
    ·replace h := qm hb h
     refine kr [] ?_
     refine ql (fun hb => ?_) (fun hb => ?_)
     ·replace h := qm hb h
      refine kr [] ?_
      obtain ⟨x7, hx, h⟩ := bind_some h
      refine qj (H_F_L8_awake _ hx) ?_
      refine kr [] ?_
      cases h
      exact kf
     ·replace h := qn hb h
      refine kr [] ?_
      cases h
      exact kf
    ·replace h := qn hb h
     refine kr [] ?_
     cases h
     exact kf
   ·replace h := qn hb h
    refine kr [] ?_
    cases h
    exact kf
  ·replace h := qn hb h
   refine kr [] ?_
   cases h
   exact kf
mutual
def F_R8_lay (a0 : Node) (a1 : BA) (a2 : Int) : Option Node :=
 F_R8_Own (qa a0) >>= fun x1 =>
 F_R8_lay_l0 (qa a1) (qa a2) (qa x1) (0 : Int) (qa a0) a0.kind a0.text ([] : LB) ([] : LN)
 partial_fixpoint
def F_R8_lay_l0 (t1 : BA) (t2 : Int) (t8 : LB) (t9 : Int) (o0 : Node) (o2_0 : Int) (o2_1 : BA) (o2_2 : LB) (o2_3 : LN) : Option Node :=
 if (decide (t9 < ((t8.map sc).length : Int))) = true then
  F_R8_gap (qa o0) (qa t9) (qa t1) (qa t2) >>= fun x2 =>
  app 16 o2_2 ([x2]) >>= fun x3 =>
  F_R8_lay_l0 (qa t1) (qa t2) (qa t8) (IntKind.i64.wrap (t9 + (1 : Int))) (qa o0) (qa o2_0) (qa o2_1) (qa x3) (qa o2_3)
 else
  F_R8_lay_l1 (qa t1) (qa t2) (0 : Int) (qa o0) (qa o2_0) (qa o2_1) (qa o2_2) (qa o2_3)
 partial_fixpoint
def F_R8_lay_l1 (t1 : BA) (t2 : Int) (t10 : Int) (o0 : Node) (o2_0 : Int) (o2_1 : BA) (o2_2 : LB) (o2_3 : LN) : Option Node :=
 if (decide (t10 < ((o0.kids.map Node.cells).length : Int))) = true then
  ix o0.kids t10 >>= fun x4 =>
  F_R8_kid (qa o0) (qa t10) (qa t1) (qa t2) >>= fun x5 =>
  F_R8_inner (qa o0) (qa t2) >>= fun x6 =>
  F_R8_lay (qa x4) (qa x5) (qa x6) >>= fun x7 =>
  app 72 o2_3 ([x7]) >>= fun x8 =>
  F_R8_lay_l1 (qa t1) (qa t2) (IntKind.i64.wrap (t10 + (1 : Int))) (qa o0) (qa o2_0) (qa o2_1) (qa o2_2) (qa x8)
 else
  some (Node.mk o2_0 o2_1 o2_2 o2_3)
 partial_fixpoint
end
@[reducible] def M_F_R8_lay (a0 : Node) (a1 : BA) (a2 : Int) (r : Node) : Prop :=
  Fn Tryz.prog G 36 [(.agg (zk a0)), (.str a1), (.int .i64 a2)] (.agg (zk r))
@[reducible] def M_F_R8_lay_l0 (t1 : BA) (t2 : Int) (t8 : LB) (t9 : Int) (o0 : Node) (o2_0 : Int) (o2_1 : BA) (o2_2 : LB) (o2_3 : LN) (r : Node) : Prop :=
  Ok Tryz.prog G tt 61 0 (Ret Tryz.prog [.cell 6 25] (fun y H => Told Tryz.prog G H y (.agg (zk r)))) (.again (ja [] Tryz.f36 0).1 (ja [] Tryz.f36 0).2 (.n .undef (.n (.str t1) (.n (.ptr 0 0 0) (.n (.ptr 2 2 0) .z .z) .z) (.n .undef (.n (.int .i64 t9) .z .z) .z)) (.n (.int .i64 t2) (.n .undef (.n (.sl 1 false (t8.map sc)) .z .z) .z) (.n (.ptr 1 1 0) .z .z))) 5 [(0, .var 25 (zk o0)), (1, .var 25 [(.int .i64 0), (.str ⟨#[]⟩), (.sl 1 false (([] : LB).map sc)), (.sl 4 false (([] : LN).map Node.cells))]), (2, .var 25 [(.int .i64 o2_0), (.str o2_1), (.bs 1 3 3 0 o2_2.length), (.bs 4 4 4 0 o2_3.length)]), (3, .row 9 (o2_2.map sc).flatten), (4, .row 25 (o2_3.map Node.cells).flatten)])
@[reducible] def M_F_R8_lay_l1 (t1 : BA) (t2 : Int) (t10 : Int) (o0 : Node) (o2_0 : Int) (o2_1 : BA) (o2_2 : LB) (o2_3 : LN) (r : Node) : Prop :=
  Ok Tryz.prog G tt 61 0 (Ret Tryz.prog [.cell 6 25] (fun y H => Told Tryz.prog G H y (.agg (zk r)))) (.again (ja [] Tryz.f36 1).1 (ja [] Tryz.f36 1).2 (.n .undef (.n (.str t1) (.n (.ptr 0 0 0) (.n (.ptr 2 2 0) .z .z) .z) .z) (.n (.int .i64 t2) .z (.n (.ptr 1 1 0) (.n (.int .i64 t10) .z .z) .z))) 5 [(0, .var 25 (zk o0)), (1, .var 25 [(.int .i64 0), (.str ⟨#[]⟩), (.sl 1 false (([] : LB).map sc)), (.sl 4 false (([] : LN).map Node.cells))]), (2, .var 25 [(.int .i64 o2_0), (.str o2_1), (.bs 1 3 3 0 o2_2.length), (.bs 4 4 4 0 o2_3.length)]), (3, .row 9 (o2_2.map sc).flatten), (4, .row 25 (o2_3.map Node.cells).flatten)])
theorem ALL_F_R8_lay : PC3 M_F_R8_lay F_R8_lay ∧ PC9 M_F_R8_lay_l0 F_R8_lay_l0 ∧ PC8 M_F_R8_lay_l1 F_R8_lay_l1 := by
 refine F_R8_lay.mutual_partial_correctness M_F_R8_lay M_F_R8_lay_l0 M_F_R8_lay_l1 (fun F_R8_lay_l0 H_F_R8_lay_l0 a0 a1 a2 r h => ?_) (fun F_R8_lay_l0 F_R8_lay_l1 H_F_R8_lay_l0 H_F_R8_lay_l1 t1 t2 t8 t9 o0 o2_0 o2_1 o2_2 o2_3 r h => ?_) (fun F_R8_lay F_R8_lay_l1 H_F_R8_lay H_F_R8_lay_l1 t1 t2 t10 o0 o2_0 o2_1 o2_2 o2_3 r h => ?_)
 ·unfold qa at h
  refine zd (T := tt) (N := 61) (rs := [.cell 6 25]) (fun vs w => by simp) Tryz.func36 rfl rfl rfl rfl (by kernel_rfl) (zt rfl) (zj _ rfl) ?_
  refine kr [] ?_
  obtain ⟨x1, hx, h⟩ := bind_some h
  refine qj (H_F_R8_Own _ _ hx) ?_
  refine kr [] ?_
  refine Ok_ownF 2 2 1 9 rfl rfl rfl ?_
  refine Ok_ownF 2 3 4 25 rfl rfl rfl ?_
  exact z8 (by kernel_rfl) lA (H_F_R8_lay_l0 _ _ _ _ _ _ _ _ _ _ h)
 ·unfold qa at h
  refine jf ?_
  refine kr [] ?_
  refine qb (fun hb => ?_) (fun hb => ?_)
  ·replace h := qm hb h
   refine kr [] ?_
   obtain ⟨x2, hx, h⟩ := bind_some h
   refine qj (H_F_R8_gap _ _ _ _ _ hx) ?_
   refine kr [] ?_
   obtain ⟨x3, hx, h⟩ := bind_some h
   have hp_x3 := zo hx (by simp)
   refine ye (C := sc) env hx rfl rfl (by simp) (fun _ => rfl) rfl rfl rfl rfl rfl (by decide) rfl rfl rfl ?_
   refine kr [] ?_
   exact zy (by kernel_rfl) lA (H_F_R8_lay_l0 _ _ _ _ _ _ _ _ _ _ h)
  ·replace h := qn hb h
   refine kr [] ?_
   exact z8 (by kernel_rfl) lA (H_F_R8_lay_l1 _ _ _ _ _ _ _ _ _ h)
 ·unfold qa at h
  refine jf ?_
  refine kr [] ?_
  refine qb (fun hb => ?_) (fun hb => ?_)
  ·replace h := qm hb h
   refine kr [] ?_
   obtain ⟨x4, hx, h⟩ := bind_some h
   refine ya env hx rfl rfl rfl rfl (Node.cells_eq x4) ?_
   refine kr [] ?_
   obtain ⟨x5, hx, h⟩ := bind_some h
   refine qj (H_F_R8_kid _ _ _ _ _ hx) ?_
   refine kr [] ?_
   obtain ⟨x6, hx, h⟩ := bind_some h
   refine qj (H_F_R8_inner _ _ _ hx) ?_
   refine kr [] ?_
   obtain ⟨x7, hx, h⟩ := bind_some h
   refine qj (H_F_R8_lay _ _ _ _ hx) ?_
   refine kr [] ?_
   obtain ⟨x8, hx, h⟩ := bind_some h
   have hp_x8 := zo hx (by simp)
   refine ye (C := Node.cells) env hx rfl (show _ = AV.sl _ _ (List.map Node.cells [x7]) from (by simp only [List.map_cons, List.map_nil, Node.cells_eq]; rfl)) (by simp) Node.cells_len rfl rfl rfl rfl rfl (by decide) rfl rfl rfl ?_
   refine kr [] ?_
   exact zy (by kernel_rfl) lA (H_F_R8_lay_l1 _ _ _ _ _ _ _ _ _ h)
  ·replace h := qn hb h
   refine kr [] ?_
   cases h
   exact q8 env rfl rfl (zm (zp (Zb (jh (yj rfl) (jh (wy rfl) (jh (zu qp rfl) (jh (zu qk rfl) vv))))) (by simp)))
theorem H_F_R8_lay : PC3 M_F_R8_lay F_R8_lay := ALL_F_R8_lay.1
theorem H_F_R8_lay_l0 : PC9 M_F_R8_lay_l0 F_R8_lay_l0 := ALL_F_R8_lay.2.1
theorem H_F_R8_lay_l1 : PC8 M_F_R8_lay_l1 F_R8_lay_l1 := ALL_F_R8_lay.2.2
def F_R8_Layout (a0 : Node) : Option (Node × Int) :=
 F_R7_Check a0 >>= fun x1 =>
 if (!decide (x1 = (0 : Int))) = true then
  some ((Node.mk 0 (⟨#[]⟩) ([] : LB) ([] : LN)), x1)
 else
  F_R8_lay a0 (⟨#[]⟩ : BA) (0 : Int) >>= fun x2 =>
  some (x2, (0 : Int))
@[reducible] def M_F_R8_Layout (a0 : Node) (r : Node × Int) : Prop :=
  Fn Tryz.prog G 16 [(.agg (zk a0))] (.tup [(.agg (zk r.1)), (.int .i64 r.2)])
theorem H_F_R8_Layout : PC1 M_F_R8_Layout F_R8_Layout := fun a0 r h => by
 rw [F_R8_Layout.eq_def] at h
 refine zd (T := tt) (N := 13) (rs := [.cell 2 25, .tmp 3]) (fun vs w => by simp) Tryz.func16 rfl rfl rfl rfl (by kernel_rfl) (zt rfl) (zj _ rfl) ?_
 refine kr [] ?_
 obtain ⟨x1, hx, h⟩ := bind_some h
 refine qj (H_F_R7_Check _ _ hx) ?_
 refine kr [] ?_
 refine qb (fun hb => ?_) (fun hb => ?_)
 ·replace h := qm hb h
  refine kr [] ?_
  cases h
  exact q8 env rfl rfl (zm (Zc (y3 (Zb (jh (yj rfl) (jh (wy rfl) (jh (kv (.inr rfl)) (jh (kv (.inr rfl)) vv))))) (y3 (zw (yj rfl) (by simp)) vz))))
 ·replace h := qn hb h
  refine kr [] ?_
  obtain ⟨x2, hx, h⟩ := bind_some h
  refine qj (H_F_R8_lay _ _ _ _ hx) ?_
  refine kr [] ?_
  cases h
  exact kf
def F_R3_Strings_l0 (t0 : LB) (t1 : LB) (t5 : Int) : Option Bool :=
 if (decide (t5 < ((t0.map sc).length : Int))) = true then
  ix t0 t5 >>= fun x1 =>
  ix t1 t5 >>= fun x2 =>
  if (!decide (x1 = x2)) = true then
   some false
  else
   F_R3_Strings_l0 (qa t0) (qa t1) (IntKind.i64.wrap (t5 + (1 : Int)))
 else
  some true
 partial_fixpoint
@[reducible] def M_F_R3_Strings_l0 (t0 : LB) (t1 : LB) (t5 : Int) (r : Bool) : Prop :=
  Ok Tryz.prog G tt 26 0 (Ret Tryz.prog [.tmp 4] (fun y H => Told Tryz.prog G H y (.bool r))) (.again (ja [] Tryz.f37 0).1 (ja [] Tryz.f37 0).2 (.n (.sl 1 false (t0.map sc)) (.n (.sl 1 false (t1.map sc)) .z (.n (.int .i64 t5) .z .z)) .z) 0 [])
theorem H_F_R3_Strings_l0 : PC3 M_F_R3_Strings_l0 F_R3_Strings_l0 := by
 refine F_R3_Strings_l0.partial_correctness M_F_R3_Strings_l0 (fun F_R3_Strings_l0 H_F_R3_Strings_l0 t0 t1 t5 r h => ?_)
 ·unfold qa at h
  refine jf ?_
  refine kr [] ?_
  refine qb (fun hb => ?_) (fun hb => ?_)
  ·replace h := qm hb h
   refine kr [] ?_
   obtain ⟨x1, hx, h⟩ := bind_some h
   refine ya env hx rfl rfl rfl rfl rfl ?_
   refine kr [] ?_
   obtain ⟨x2, hx, h⟩ := bind_some h
   refine ya env hx rfl rfl rfl rfl rfl ?_
   refine kr [] ?_
   refine qb (fun hb => ?_) (fun hb => ?_)
   ·replace h := qm hb h
    refine kr [] ?_
    cases h
    exact kf
   ·replace h := qn hb h
    refine kr [] ?_
    exact zy (by kernel_rfl) lA (H_F_R3_Strings_l0 _ _ _ _ h)
  ·replace h := qn hb h
   refine kr [] ?_
   cases h
   exact kf
def F_R3_Strings (a0 : LB) (a1 : LB) : Option Bool :=
 if (!decide (((a0.map sc).length : Int) = ((a1.map sc).length : Int))) = true then
  some false
 else
  F_R3_Strings_l0 a0 a1 (0 : Int)
@[reducible] def M_F_R3_Strings (a0 : LB) (a1 : LB) (r : Bool) : Prop :=
  Fn Tryz.prog G 37 [(.sl 1 false (a0.map sc)), (.sl 1 false (a1.map sc))] (.bool r)
theorem H_F_R3_Strings : PC2 M_F_R3_Strings F_R3_Strings := fun a0 a1 r h => by
 rw [F_R3_Strings.eq_def] at h
 refine zd (T := tt) (N := 26) (rs := [.tmp 4]) (fun vs w => by simp) Tryz.func37 rfl rfl rfl rfl (by kernel_rfl) (zt rfl) (zj _ rfl) ?_
 refine kr [] ?_
 refine qb (fun hb => ?_) (fun hb => ?_)
 ·replace h := qm hb h
  refine kr [] ?_
  cases h
  exact kf
 ·replace h := qn hb h
  refine kr [] ?_
  exact z8 (by kernel_rfl) lA (H_F_R3_Strings_l0 _ _ _ _ h)
mutual
def F_R6_Equal (a0 : Node) (a1 : Node) : Option Bool :=
 if (!decide (a0.kind = a1.kind)) = true then
  some false
 else
  if (!decide (a0.text = a1.text)) = true then
   some false
  else
   F_R3_Strings a0.gaps a1.gaps >>= fun x1 =>
   if (!x1) = true then
    some false
   else
    if (!decide (((a0.kids.map Node.cells).length : Int) = ((a1.kids.map Node.cells).length : Int))) = true then
     some false
    else
     F_R6_Equal_l0 (0 : Int) (qa a0) (qa a1)
 partial_fixpoint
def F_R6_Equal_l0 (t5 : Int) (o0 : Node) (o1 : Node) : Option Bool :=
 if (decide (t5 < ((o0.kids.map Node.cells).length : Int))) = true then
  ix o0.kids t5 >>= fun x2 =>
  ix o1.kids t5 >>= fun x3 =>
  F_R6_Equal (qa x2) (qa x3) >>= fun x4 =>
  if (!x4) = true then
   some false
  else
   F_R6_Equal_l0 (IntKind.i64.wrap (t5 + (1 : Int))) (qa o0) (qa o1)
 else
  some true
 partial_fixpoint
end
@[reducible] def M_F_R6_Equal (a0 : Node) (a1 : Node) (r : Bool) : Prop :=
  Fn Tryz.prog G 17 [(.agg (zk a0)), (.agg (zk a1))] (.bool r)
@[reducible] def M_F_R6_Equal_l0 (t5 : Int) (o0 : Node) (o1 : Node) (r : Bool) : Prop :=
  Ok Tryz.prog G tt 54 0 (Ret Tryz.prog [.tmp 4] (fun y H => Told Tryz.prog G H y (.bool r))) (.again (ja [] Tryz.f17 0).1 (ja [] Tryz.f17 0).2 (.n .undef (.n .undef (.n (.ptr 1 1 0) .z .z) (.n (.int .i64 t5) .z .z)) (.n (.ptr 0 0 0) .z .z)) 2 [(0, .var 25 (zk o0)), (1, .var 25 (zk o1))])
theorem ALL_F_R6_Equal : PC2 M_F_R6_Equal F_R6_Equal ∧ PC3 M_F_R6_Equal_l0 F_R6_Equal_l0 := by
 refine F_R6_Equal.mutual_partial_correctness M_F_R6_Equal M_F_R6_Equal_l0 (fun F_R6_Equal_l0 H_F_R6_Equal_l0 a0 a1 r h => ?_) (fun F_R6_Equal F_R6_Equal_l0 H_F_R6_Equal H_F_R6_Equal_l0 t5 o0 o1 r h => ?_)
 ·unfold qa at h
  refine zd (T := tt) (N := 54) (rs := [.tmp 4]) (fun vs w => by simp) Tryz.func17 rfl rfl rfl rfl (by kernel_rfl) (zt rfl) (zj _ rfl) ?_
  refine kr [] ?_
  refine qr (fun hb => ?_) (fun hb => ?_)
  ·replace h := qn hb h
   refine kr [] ?_
   refine qr (fun hb => ?_) (fun hb => ?_)
   ·replace h := qn hb h
    refine kr [] ?_
    obtain ⟨x1, hx, h⟩ := bind_some h
    refine qj (H_F_R3_Strings _ _ _ hx) ?_
    refine kr [] ?_
    refine qr (fun hb => ?_) (fun hb => ?_)
    ·replace h := qn hb h
     refine kr [] ?_
     refine qb (fun hb => ?_) (fun hb => ?_)
     ·replace h := qm hb h
      refine kr [] ?_
      cases h
      exact kf
     ·replace h := qn hb h
      refine kr [] ?_
      exact z8 (by kernel_rfl) lA (H_F_R6_Equal_l0 _ _ _ _ h)
    ·replace h := qm hb h
     refine kr [] ?_
     cases h
     exact kf
   ·replace h := qm hb h
    refine kr [] ?_
    cases h
    exact kf
  ·replace h := qm hb h
   refine kr [] ?_
   cases h
   exact kf
 ·unfold qa at h
  refine jf ?_
  refine kr [] ?_
  refine qb (fun hb => ?_) (fun hb => ?_)
  ·replace h := qm hb h
   refine kr [] ?_
   obtain ⟨x2, hx, h⟩ := bind_some h
   refine ya env hx rfl rfl rfl rfl (Node.cells_eq x2) ?_
   refine kr [] ?_
   obtain ⟨x3, hx, h⟩ := bind_some h
   refine ya env hx rfl rfl rfl rfl (Node.cells_eq x3) ?_
   refine kr [] ?_
   obtain ⟨x4, hx, h⟩ := bind_some h
   refine qj (H_F_R6_Equal _ _ _ hx) ?_
   refine kr [] ?_
   refine qb (fun hb => ?_) (fun hb => ?_)
   ·replace h := qm hb h
    refine kr [] ?_
    cases h
    exact kf
   ·replace h := qn hb h
    refine kr [] ?_
    exact zy (by kernel_rfl) lA (H_F_R6_Equal_l0 _ _ _ _ h)
  ·replace h := qn hb h
   refine kr [] ?_
   cases h
   exact kf
theorem H_F_R6_Equal : PC2 M_F_R6_Equal F_R6_Equal := ALL_F_R6_Equal.1
theorem H_F_R6_Equal_l0 : PC3 M_F_R6_Equal_l0 F_R6_Equal_l0 := ALL_F_R6_Equal.2
def F_L8_PrintLays (a0 : Node) : Option Bool :=
 F_L8_small a0 >>= fun x1 =>
 if (!x1) = true then
  F_L8_awake >>= fun x2 =>
  some x2
 else
  F_print_Layout a0 >>= fun x3 =>
  F_R8_Layout a0 >>= fun x4 =>
  F_R6_Equal x3.1 x4.1 >>= fun x5 =>
  if x5 = true then
   if (decide (x3.2 = x4.2)) = true then
    F_L8_awake >>= fun x6 =>
    some x6
   else
    some false
  else
   some false
@[reducible] def M_F_L8_PrintLays (a0 : Node) (r : Bool) : Prop :=
  Fn Tryz.prog G 5 [(.agg (zk a0))] (.bool r)
theorem H_F_L8_PrintLays : PC1 M_F_L8_PrintLays F_L8_PrintLays := fun a0 r h => by
 rw [F_L8_PrintLays.eq_def] at h
 refine zd (T := tt) (N := 32) (rs := [.tmp 2]) (fun vs w => by simp) Tryz.func5 rfl rfl rfl rfl (by kernel_rfl) (zt rfl) (zj _ rfl) ?_
 refine kr [] ?_
 obtain ⟨x1, hx, h⟩ := bind_some h
 refine qj (H_F_L8_small _ _ hx) ?_
 refine kr [] ?_
 refine qb (fun hb => ?_) (fun hb => ?_)
 ·replace h := qm hb h
  refine kr [] ?_
  obtain ⟨x2, hx, h⟩ := bind_some h
  refine qj (H_F_L8_awake _ hx) ?_
  refine kr [] ?_
  cases h
  exact kf
 ·replace h := qn hb h
  refine kr [] ?_
  obtain ⟨x3, hx, h⟩ := bind_some h
  refine qj (H_F_print_Layout _ _ hx) ?_
  refine kr [] ?_
  obtain ⟨x4, hx, h⟩ := bind_some h
  refine qj (H_F_R8_Layout _ _ hx) ?_
  refine kr [] ?_
  obtain ⟨x5, hx, h⟩ := bind_some h
  refine qj (H_F_R6_Equal _ _ _ hx) ?_
  refine kr [] ?_
  refine ql (fun hb => ?_) (fun hb => ?_)
  ·replace h := qm hb h
   refine kr [] ?_
   refine ql (fun hb => ?_) (fun hb => ?_)
   ·replace h := qm hb h
    refine kr [] ?_
    obtain ⟨x6, hx, h⟩ := bind_some h
    refine qj (H_F_L8_awake _ hx) ?_
    refine kr [] ?_
    cases h
    exact kf
   ·replace h := qn hb h
    refine kr [] ?_
    cases h
    exact kf
  ·replace h := qn hb h
   refine kr [] ?_
   cases h
   exact kf
end Go.Proofs.YtbdhekefhcjhaaaGreatDoorW.Ex.Gr
