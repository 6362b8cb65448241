/- The functions of the program's layer 9 and of its references, printed as functions on numbers, strings, lists and trees, with the proofs that they are what the code computes. Conditions: those in each theorem. -/
import Derived.Test.YtigmilhpeodhbaaGreatDoorXRb
namespace Go.Proofs.YtigmilhpeodhbaaGreatDoorW.Ex.Gr
open Go Go.Proofs.YtigmilhpeodhbaaGreatDoorW.Ex
set_option linter.all false
set_option maxRecDepth 100000
set_option synthInstance.maxSize 4000
set_option maxHeartbeats 4000000
open Go.Proofs.YtigmilhpeodhbaaGreatDoorW.Plain
def Zm (t0 : BA) (t1 : BA) : Option Bool :=
 if (decide (t0 = (⟨#[47]⟩ : BA))) = true then
  some (decide (t1 = (⟨#[47]⟩ : BA)))
 else
  some false
@[reducible] def qgw (t0 : BA) (t1 : BA) (r : Bool) : Prop :=
  Ok Tryz.prog G tt 38 0 (Ret Tryz.prog [.tmp 4] (fun y H => Told Tryz.prog G H y (.bool r))) (.go [] (vc [11] Tryz.f42 11) [] (.n (.str t0) (.n (.str t1) .z .z) .z) 0 [])
theorem qay : PC2 qgw Zm := fun t0 t1 r h => by
 rw [Zm.eq_def] at h
 refine kr [11] ?_
 refine qv (fun hb => ?_) (fun hb => ?_)
 ·replace h := qw hb h
  refine kr [11] ?_
  cases h
  exact kf
 ·replace h := qx hb h
  refine kr [11] ?_
  cases h
  exact kf
def Kl (a0 : BA) (a1 : BA) : Option Bool :=
 if (decide (a0 = (⟨#[]⟩ : BA))) = true then
  some false
 else
  if (decide (a1 = (⟨#[]⟩ : BA))) = true then
   some false
  else
   sx a0 (IntKind.i64.wrap ((a0.size : Int) - (1 : Int))) >>= fun x1 =>
   Qd x1 >>= fun x2 =>
   if x2 = true then
    sx a1 (0 : Int) >>= fun x3 =>
    Qd x3 >>= fun x4 =>
    if x4 = true then
     some true
    else
     if (decide (a0 = (⟨#[61]⟩ : BA))) = true then
      if (decide (a1 = (⟨#[61]⟩ : BA))) = true then
       some true
      else
       some (decide (a1 = (⟨#[61, 61]⟩ : BA)))
     else
      Zm a0 a1
   else
    if (decide (a0 = (⟨#[61]⟩ : BA))) = true then
     if (decide (a1 = (⟨#[61]⟩ : BA))) = true then
      some true
     else
      some (decide (a1 = (⟨#[61, 61]⟩ : BA)))
    else
     Zm a0 a1
@[reducible] def qnn (a0 : BA) (a1 : BA) (r : Bool) : Prop :=
  Fn Tryz.prog G 42 [(.str a0), (.str a1)] (.bool r)
theorem qny : PC2 qnn Kl := fun a0 a1 r h => by
 rw [Kl.eq_def] at h
 refine ji (T := tt) (N := 38) (rs := [.tmp 4]) (fun vs w => by simp) Tryz.func42 rfl rfl rfl rfl (by kernel_rfl) (kw rfl) (jv _ rfl) ?_
 refine kr [11] ?_
 refine q8 (fun hb => ?_) (fun hb => ?_)
 ·replace h := qx hb h
  refine kr [11] ?_
  refine qg (fun hb => ?_) (fun hb => ?_)
  ·replace h := qw hb h
   refine kr [11] ?_
   cases h
   exact kf
  ·replace h := qx hb h
   refine kr [11] ?_
   obtain ⟨x1, hx, h⟩ := bind_some h
   refine qrp env hx rfl rfl rfl rfl ?_
   refine kr [11] ?_
   obtain ⟨x2, hx, h⟩ := bind_some h
   refine qt (Wx _ _ hx) ?_
   refine kr [11] ?_
   refine qv (fun hb => ?_) (fun hb => ?_)
   ·replace h := qw hb h
    refine kr [11] ?_
    obtain ⟨x3, hx, h⟩ := bind_some h
    refine qrp env hx rfl rfl rfl rfl ?_
    refine kr [11] ?_
    obtain ⟨x4, hx, h⟩ := bind_some h
    refine qt (Wx _ _ hx) ?_
    refine kr [11] ?_
    refine qg (fun hb => ?_) (fun hb => ?_)
    ·replace h := qw hb h
     refine kr [11] ?_
     cases h
     exact kf
    ·replace h := qx hb h
     refine kr [11] ?_
     refine qg (fun hb => ?_) (fun hb => ?_)
     ·replace h := qw hb h
      refine kr [11] ?_
      refine q8 (fun hb => ?_) (fun hb => ?_)
      ·replace h := qx hb h
       refine kr [11] ?_
       cases h
       exact kf
      ·replace h := qw hb h
       refine kr [11] ?_
       cases h
       exact kf
     ·replace h := qx hb h
      refine kr [11] ?_
      exact qz (by kernel_rfl) rfl lA (qay _ _ _ h)
   ·replace h := qx hb h
    refine kr [11] ?_
    refine qg (fun hb => ?_) (fun hb => ?_)
    ·replace h := qw hb h
     refine kr [11] ?_
     refine q8 (fun hb => ?_) (fun hb => ?_)
     ·replace h := qx hb h
      refine kr [11] ?_
      cases h
      exact kf
     ·replace h := qw hb h
      refine kr [11] ?_
      cases h
      exact kf
    ·replace h := qx hb h
     refine kr [11] ?_
     exact qz (by kernel_rfl) rfl lA (qay _ _ _ h)
 ·replace h := qw hb h
  refine kr [11] ?_
  cases h
  exact kf
def Zf  : Option Int :=
 some (0 : Int)
@[reducible] def qee  (r : Int) : Prop :=
  Ok Tryz.prog G tt 21 0 (Ret Tryz.prog [.tmp 2] (fun y H => Told Tryz.prog G H y (.int .i64 r))) (.go [] (vc [20] Tryz.f20 20) [] .z 0 [])
theorem Kx : PC0 qee Zf := fun  r h => by
 rw [Zf.eq_def] at h
 refine kr [20] ?_
 cases h
 exact kf
def Z8 (a0 : Int) : Option Int :=
 if (decide (a0 = (2 : Int))) = true then
  some (1 : Int)
 else
  if (decide (a0 = (7 : Int))) = true then
   some (1 : Int)
  else
   if (decide (a0 = (9 : Int))) = true then
    some (1 : Int)
   else
    if (decide (a0 = (10 : Int))) = true then
     some (2 : Int)
    else
     if (decide (a0 = (11 : Int))) = true then
      some (2 : Int)
     else
      if (decide (a0 = (12 : Int))) = true then
       some (2 : Int)
      else
       if (decide (a0 = (13 : Int))) = true then
        some (2 : Int)
       else
        if (decide (a0 = (15 : Int))) = true then
         some (2 : Int)
        else
         if (decide (a0 = (16 : Int))) = true then
          some (2 : Int)
         else
          if (decide ((17 : Int) ≤ a0)) = true then
           if (decide (a0 ≤ (26 : Int))) = true then
            some (3 : Int)
           else
            Zf 
          else
           Zf 
@[reducible] def qh4 (a0 : Int) (r : Int) : Prop :=
  Fn Tryz.prog G 20 [(.int .i64 a0)] (.int .i64 r)
theorem qbi : PC1 qh4 Z8 := fun a0 r h => by
 rw [Z8.eq_def] at h
 refine ji (T := tt) (N := 21) (rs := [.tmp 2]) (fun vs w => by simp) Tryz.func20 rfl rfl rfl rfl (by kernel_rfl) (kw rfl) (jv _ rfl) ?_
 refine kr [20] ?_
 refine qg (fun hb => ?_) (fun hb => ?_)
 ·replace h := qw hb h
  refine kr [20] ?_
  cases h
  exact kf
 ·replace h := qx hb h
  refine kr [20] ?_
  refine qg (fun hb => ?_) (fun hb => ?_)
  ·replace h := qw hb h
   refine kr [20] ?_
   cases h
   exact kf
  ·replace h := qx hb h
   refine kr [20] ?_
   refine qg (fun hb => ?_) (fun hb => ?_)
   ·replace h := qw hb h
    refine kr [20] ?_
    cases h
    exact kf
   ·replace h := qx hb h
    refine kr [20] ?_
    refine qg (fun hb => ?_) (fun hb => ?_)
    ·replace h := qw hb h
     refine kr [20] ?_
     cases h
     exact kf
    ·replace h := qx hb h
     refine kr [20] ?_
     refine qg (fun hb => ?_) (fun hb => ?_)
     ·replace h := qw hb h
      refine kr [20] ?_
      cases h
      exact kf
     ·replace h := qx hb h
      refine kr [20] ?_
      refine qg (fun hb => ?_) (fun hb => ?_)
      ·replace h := qw hb h
       refine kr [20] ?_
       cases h
       exact kf
      ·replace h := qx hb h
       refine kr [20] ?_
       refine qg (fun hb => ?_) (fun hb => ?_)
       ·replace h := qw hb h
        refine kr [20] ?_
        cases h
        exact kf
       ·replace h := qx hb h
        refine kr [20] ?_
        refine qg (fun hb => ?_) (fun hb => ?_)
        ·replace h := qw hb h
         refine kr [20] ?_
         cases h
         exact kf
        ·replace h := qx hb h
         refine kr [20] ?_
         refine qg (fun hb => ?_) (fun hb => ?_)
         ·replace h := qw hb h
          refine kr [20] ?_
          cases h
          exact kf
         ·replace h := qx hb h
          refine kr [20] ?_
          refine qv (fun hb => ?_) (fun hb => ?_)
          ·replace h := qw hb h
           refine kr [20] ?_
           refine qg (fun hb => ?_) (fun hb => ?_)
           ·replace h := qw hb h
            refine kr [20] ?_
            cases h
            exact kf
           ·replace h := qx hb h
            refine kr [20] ?_
            exact qz (by kernel_rfl) rfl lA (Kx _ h)
          ·replace h := qx hb h
           refine kr [20] ?_
           exact qz (by kernel_rfl) rfl lA (Kx _ h)
def J0 (a0 : Int) : Option BA :=
 Zn (⟨#[9]⟩ : BA) a0 >>= fun x1 =>
 cat (⟨#[10]⟩ : BA) x1 >>= fun x2 =>
 some x2
@[reducible] def qno (a0 : Int) (r : BA) : Prop :=
  Fn Tryz.prog G 143 [(.int .i64 a0)] (.str r)
theorem qe6 : PC1 qno J0 := fun a0 r h => by
 rw [J0.eq_def] at h
 refine ji (T := tt) (N := 6) (rs := [.tmp 2]) (fun vs w => by simp) Tryz.func143 rfl rfl rfl rfl (by kernel_rfl) (kw rfl) (jv _ rfl) ?_
 refine kr [] ?_
 obtain ⟨x1, hx, h⟩ := bind_some h
 refine qt (qg1 _ _ _ hx) ?_
 refine kr [] ?_
 obtain ⟨x2, hx, h⟩ := bind_some h
 refine q3i env hx rfl rfl ?_
 refine kr [] ?_
 cases h
 exact kf
def yf (l : LU) (c : Int) : Option LU := if l.length + 1 ≤ 140737488355328 ∧ 0 ≤ c ∧ c < 256 then some (l ++ [c.toNat.toUInt8]) else none
theorem u5 (l : LU) (c : Int) (r : LU) (h : yf l c = some r) : AC Tryz.prog G 44 [.ptr 0 0 0, .int .u8 c] 2 [(0, .var 60 [.optr 0 0 0, .bs 1 1 1 0 l.length]), (1, .row 5 (l.map c8).flatten)] .nili 3 [(0, .var 60 [.optr 0 0 0, .bs 1 1 2 0 r.length]), (2, .row 5 (r.map c8).flatten)] := by
 unfold yf at h
 split at h
 ·rename_i hc; cases h; exact qry l c hc
 ·cases h
def yk (l : LU) (s : BA) : Option LU := if l.length + s.size ≤ 140737488355328 then some (l ++ s.data.toList) else none
theorem Qu (l : LU) (s : BA) (r : LU) (h : yk l s = some r) : AC Tryz.prog G 45 [.ptr 0 0 0, .str s] 2 [(0, .var 60 [.optr 0 0 0, .bs 1 1 1 0 l.length]), (1, .row 5 (l.map c8).flatten)] (.tup [.int .i64 (s.size : Int), .nili]) 3 [(0, .var 60 [.optr 0 0 0, .bs 1 1 2 0 r.length]), (2, .row 5 (r.map c8).flatten)] := by
 unfold yk at h
 split at h
 ·rename_i hc; cases h; exact qn9 l s hc
 ·cases h
def vl (t0 : BA) (t1 : BA) (o0 : BA) (o1_1 : LU) : Option (BA × LU) :=
 yk o1_1 t0 >>= fun x7 =>
 yk x7 t1 >>= fun x8 =>
 some (t1, x8)
@[reducible] def qom (t0 : BA) (t1 : BA) (o0 : BA) (o1_1 : LU) (r : BA × LU) : Prop :=
  Ok Tryz.prog G tt 27 3 (Ret Tryz.prog [] (fun y H => ua Tryz.prog G 3 H y (.tup []) ⟨4, [(0, .var 9 [(.str r.1)]), (1, .var 60 [(.optr 1 1 0), (.bs 1 2 3 0 r.2.length)]), (3, .row 5 (r.2.map c8).flatten)]⟩)) (.go [] (vc [20] Tryz.f41 20) [] (.n (.str t0) (.n (.str t1) (.n (.ptr 1 1 0) .z .z) .z) (.n (.ptr 0 0 0) .z .z)) 5 [(0, .var 9 [(.str o0)]), (1, .var 60 [(.optr 1 1 0), (.bs 1 2 4 0 o1_1.length)]), (4, .row 5 (o1_1.map c8).flatten)])
theorem Q9 : PC4 qom vl := fun t0 t1 o0 o1_1 r h => by
 rw [vl.eq_def] at h
 refine kr [20] ?_
 obtain ⟨x7, hx, h⟩ := bind_some h
 refine qb (AC.g9 (Qu _ _ _ hx) [1, 2] [1, 4]) ?_
 refine kr [20] ?_
 obtain ⟨x8, hx, h⟩ := bind_some h
 refine qb (AC.g9 (Qu _ _ _ hx) [1, 2] [1, 5]) ?_
 refine kr [20] ?_
 cases h
 exact je env rfl (tS [some 0, some 1, some 2] (sV (lS lN) (sV (lS (lS lN)) (sR zv qy))) (ju jc))
def qfq (a0 : BA) (a1 : BA) (a2 : BA) (a3 : LU) : Option (BA × LU) :=
 if (decide (a0 = (⟨#[]⟩ : BA))) = true then
  Kl a2 a1 >>= fun x1 =>
  if x1 = true then
   yf a3 (32 : Int) >>= fun x4 =>
   vl a0 a1 a2 x4
  else
   if (decide (a2 = (⟨#[47]⟩ : BA))) = true then
    yv a0 (⟨#[47]⟩ : BA) >>= fun x2 =>
    if x2 = true then
     yf a3 (32 : Int) >>= fun x3 =>
     vl a0 a1 a2 x3
    else
     vl a0 a1 a2 a3
   else
    vl a0 a1 a2 a3
 else
  if (decide (a2 = (⟨#[47]⟩ : BA))) = true then
   yv a0 (⟨#[47]⟩ : BA) >>= fun x5 =>
   if x5 = true then
    yf a3 (32 : Int) >>= fun x6 =>
    vl a0 a1 a2 x6
   else
    vl a0 a1 a2 a3
  else
   vl a0 a1 a2 a3
@[reducible] def qy2 (a0 : BA) (a1 : BA) (a2 : BA) (a3 : LU) (r : BA × LU) : Prop :=
  AC Tryz.prog G 41 [(.str a0), (.str a1), (.ptr 0 0 0), (.ptr 1 1 0)] 3 [(0, .var 9 [(.str a2)]), (1, .var 60 [(.optr 1 1 0), (.bs 1 2 2 0 a3.length)]), (2, .row 5 (a3.map c8).flatten)] (.tup []) 4 [(0, .var 9 [(.str r.1)]), (1, .var 60 [(.optr 1 1 0), (.bs 1 2 3 0 r.2.length)]), (3, .row 5 (r.2.map c8).flatten)]
theorem qy3 : PC4 qy2 qfq := fun a0 a1 a2 a3 r h => by
 rw [qfq.eq_def] at h
 refine ⟨?_, (zm rfl rfl (zm rfl rfl (jj zv rfl jk))), (qj (qj (zb zv zd))), (zo rfl (zo rfl (jp zv jq))), (qj (qj (zb zv zd))), rfl, rfl, rfl, rfl⟩
 refine y8 (T := tt) (N := 27) (rs := []) (fun vs w => by simp) Tryz.func41 rfl rfl rfl (by kernel_rfl) (by kernel_rfl) ?_
 refine kr [20] ?_
 refine qv (fun hb => ?_) (fun hb => ?_)
 ·replace h := qw hb h
  refine kr [20] ?_
  obtain ⟨x1, hx, h⟩ := bind_some h
  refine qt (qny _ _ _ hx) ?_
  refine kr [20] ?_
  refine q8 (fun hb => ?_) (fun hb => ?_)
  ·replace h := qx hb h
   refine kr [20] ?_
   refine qv (fun hb => ?_) (fun hb => ?_)
   ·replace h := qw hb h
    refine kr [20] ?_
    obtain ⟨x2, hx, h⟩ := bind_some h
    refine qt (Qq _ _ _ hx) ?_
    refine kr [20] ?_
    refine qg (fun hb => ?_) (fun hb => ?_)
    ·replace h := qw hb h
     refine kr [20] ?_
     obtain ⟨x3, hx, h⟩ := bind_some h
     refine qb (AC.g9 (u5 _ _ _ hx) [1, 2] [1, 2]) ?_
     refine kr [20] ?_
     exact qz (by kernel_rfl) rfl lQ (Q9 _ _ _ _ _ h)
    ·replace h := qx hb h
     refine kr [20] ?_
     exact qz (by kernel_rfl) rfl lQ (Q9 _ _ _ _ _ h)
   ·replace h := qx hb h
    refine kr [20] ?_
    exact qz (by kernel_rfl) rfl lQ (Q9 _ _ _ _ _ h)
  ·replace h := qw hb h
   refine kr [20] ?_
   obtain ⟨x4, hx, h⟩ := bind_some h
   refine qb (AC.g9 (u5 _ _ _ hx) [1, 2] [1, 2]) ?_
   refine kr [20] ?_
   exact qz (by kernel_rfl) rfl lQ (Q9 _ _ _ _ _ h)
 ·replace h := qx hb h
  refine kr [20] ?_
  refine qv (fun hb => ?_) (fun hb => ?_)
  ·replace h := qw hb h
   refine kr [20] ?_
   obtain ⟨x5, hx, h⟩ := bind_some h
   refine qt (Qq _ _ _ hx) ?_
   refine kr [20] ?_
   refine qg (fun hb => ?_) (fun hb => ?_)
   ·replace h := qw hb h
    refine kr [20] ?_
    obtain ⟨x6, hx, h⟩ := bind_some h
    refine qb (AC.g9 (u5 _ _ _ hx) [1, 2] [1, 2]) ?_
    refine kr [20] ?_
    exact qz (by kernel_rfl) rfl lQ (Q9 _ _ _ _ _ h)
   ·replace h := qx hb h
    refine kr [20] ?_
    exact qz (by kernel_rfl) rfl lQ (Q9 _ _ _ _ _ h)
  ·replace h := qx hb h
   refine kr [20] ?_
   exact qz (by kernel_rfl) rfl lQ (Q9 _ _ _ _ _ h)
def K7 (t1 : BA) (t2 : BA) (t6 : BA) (o0_1 : Node) (a0 : Int) (a1 : BA) (a2 : LB) (a3 : LN) (o0_3 : Int) (o2 : BA) (o3_1 : LU) : Option (BA × LU × LB) :=
 app 16 a2 ([t1]) >>= fun x2 =>
 qfq t6 t2 o2 o3_1 >>= fun x3 =>
 some (x3.1, x3.2, x2)
@[reducible] def qrs (t1 : BA) (t2 : BA) (t6 : BA) (o0_1 : Node) (a0 : Int) (a1 : BA) (a2 : LB) (a3 : LN) (o0_3 : Int) (o2 : BA) (o3_1 : LU) (r : BA × LU × LB) : Prop :=
  Ok Tryz.prog G tt 53 7 (Ret Tryz.prog [] (fun y H => ua Tryz.prog G 7 H y (.tup []) ⟨9, [(0, .var 96 [(.ptr 1 1 0), (.int .i64 o0_1.kind), (.str o0_1.text), (.sl 1 false (o0_1.gaps.map sc)), (.sl 4 false (o0_1.kids.map Node.cells)), (.int .i64 a0), (.str a1), (.bs 1 5 8 0 r.2.2.length), (.bs 4 6 6 0 a3.length), (.int .i64 o0_3)]), (1, .var 70 [(.fn 41 [(.ptr 2 2 0), (.ptr 3 3 0)])]), (2, .var 9 [(.str r.1)]), (3, .var 60 [(.optr 3 3 0), (.bs 1 4 7 0 r.2.1.length)]), (7, .row 5 (r.2.1.map c8).flatten), (8, .row 9 (r.2.2.map sc).flatten), (6, .row 26 (a3.map Node.cells).flatten)]⟩)) (.go [] (vc [22] Tryz.f121 22) [] (.n (.ptr 0 0 0) (.n (.str t1) .z .z) (.n (.str t2) .z (.n (.str t6) .z .z))) 9 [(0, .var 96 [(.ptr 1 1 0), (.int .i64 o0_1.kind), (.str o0_1.text), (.sl 1 false (o0_1.gaps.map sc)), (.sl 4 false (o0_1.kids.map Node.cells)), (.int .i64 a0), (.str a1), (.bs 1 5 8 0 a2.length), (.bs 4 6 6 0 a3.length), (.int .i64 o0_3)]), (1, .var 70 [(.fn 41 [(.ptr 2 2 0), (.ptr 3 3 0)])]), (2, .var 9 [(.str o2)]), (3, .var 60 [(.optr 3 3 0), (.bs 1 4 7 0 o3_1.length)]), (7, .row 5 (o3_1.map c8).flatten), (8, .row 9 (a2.map sc).flatten), (6, .row 26 (a3.map Node.cells).flatten)])
theorem qh6 : PC11 qrs K7 := fun t1 t2 t6 o0_1 a0 a1 a2 a3 o0_3 o2 o3_1 r h => by
 rw [K7.eq_def] at h
 refine kr [22] ?_
 obtain ⟨x2, hx, h⟩ := bind_some h
 have hp_x2 := qbh hx (by simp)
 refine W9 (C := sc) env hx rfl rfl (by simp) (fun _ => rfl) rfl rfl rfl rfl rfl (by decide) rfl rfl rfl ?_
 refine kr [22] ?_
 obtain ⟨x3, hx, h⟩ := bind_some h
 refine qb (AC.g9 (qy3 _ _ _ _ _ hx) [2, 3, 4] [2, 3, 7]) ?_
 refine kr [22] ?_
 cases h
 exact je env rfl (tS [some 0, some 1, some 2, some 3, some 4, some 5, some 6] (sV (lS (lS (lS (lS (lS (lS (lS (lS (lS (lS lN)))))))))) (sV (lS lN) (sV (lS lN) (sV (lS (lS lN)) (sR zv (sR zr (sR qk qy))))))) (ju jc))
def yr (a0 : BA) (a3 : LU) (a0_n : Node) (a4 : Int) (a5 : BA) (a6 : LB) (a7 : LN) (a8 : Int) (a1 : BA) (a2 : BA) : Option (BA × LU × LB) :=
 if (decide ((a6.length : Int) < ((a0_n.gaps.map sc).length : Int))) = true then
  ix a0_n.gaps (a6.length : Int) >>= fun x1 =>
  K7 a1 a2 x1 a0_n a4 a5 a6 a7 a8 a0 a3
 else
  K7 a1 a2 a1 a0_n a4 a5 a6 a7 a8 a0 a3
@[reducible] def q1v (a0 : BA) (a3 : LU) (a0_n : Node) (a4 : Int) (a5 : BA) (a6 : LB) (a7 : LN) (a8 : Int) (a1 : BA) (a2 : BA) (r : BA × LU × LB) : Prop :=
  AC Tryz.prog G 121 [(.ptr 0 0 0), (.str a1), (.str a2)] 7 [(0, .var 96 [(.ptr 1 1 0), (.int .i64 a0_n.kind), (.str a0_n.text), (.sl 1 false (a0_n.gaps.map sc)), (.sl 4 false (a0_n.kids.map Node.cells)), (.int .i64 a4), (.str a5), (.bs 1 5 5 0 a6.length), (.bs 4 6 6 0 a7.length), (.int .i64 a8)]), (1, .var 70 [(.fn 41 [(.ptr 2 2 0), (.ptr 3 3 0)])]), (2, .var 9 [(.str a0)]), (3, .var 60 [(.optr 3 3 0), (.bs 1 4 4 0 a3.length)]), (4, .row 5 (a3.map c8).flatten), (5, .row 9 (a6.map sc).flatten), (6, .row 26 (a7.map Node.cells).flatten)] (.tup []) 9 [(0, .var 96 [(.ptr 1 1 0), (.int .i64 a0_n.kind), (.str a0_n.text), (.sl 1 false (a0_n.gaps.map sc)), (.sl 4 false (a0_n.kids.map Node.cells)), (.int .i64 a4), (.str a5), (.bs 1 5 8 0 r.2.2.length), (.bs 4 6 6 0 a7.length), (.int .i64 a8)]), (1, .var 70 [(.fn 41 [(.ptr 2 2 0), (.ptr 3 3 0)])]), (2, .var 9 [(.str r.1)]), (3, .var 60 [(.optr 3 3 0), (.bs 1 4 7 0 r.2.1.length)]), (7, .row 5 (r.2.1.map c8).flatten), (8, .row 9 (r.2.2.map sc).flatten), (6, .row 26 (a7.map Node.cells).flatten)]
theorem jn : PC10 q1v yr := fun a0 a3 a0_n a4 a5 a6 a7 a8 a1 a2 r h => by
 rw [yr.eq_def] at h
 refine ⟨?_, (zm rfl rfl (zm rfl rfl (zm rfl rfl (zm rfl rfl (jj zv rfl (jj zr rfl (jj qk rfl jk))))))), (qj (qj (qj (qj (zb zv (zb zr (zb qk zd))))))), (zo rfl (zo rfl (zo rfl (zo rfl (jp zv (jp zr (jp qk jq))))))), (qj (qj (qj (qj (zb zv (zb zr (zb qk zd))))))), rfl, rfl, rfl, rfl⟩
 refine y8 (T := tt) (N := 53) (rs := []) (fun vs w => by simp) Tryz.func121 rfl rfl rfl (by kernel_rfl) (by kernel_rfl) ?_
 refine kr [22] ?_
 refine qg (fun hb => ?_) (fun hb => ?_)
 ·replace h := qw hb h
  refine kr [22] ?_
  obtain ⟨x1, hx, h⟩ := bind_some h
  refine K1 env hx rfl rfl rfl rfl rfl ?_
  refine kr [22] ?_
  exact qz (by kernel_rfl) rfl lQ (qh6 _ _ _ _ _ _ _ _ _ _ _ _ h)
 ·replace h := qx hb h
  refine kr [22] ?_
  exact qz (by kernel_rfl) rfl lQ (qh6 _ _ _ _ _ _ _ _ _ _ _ _ h)
def J3 (t1 : BA) (o0_1 : Node) (a0 : Int) (a1 : BA) (a2 : LB) (a3 : LN) (o0_3 : Int) (o2 : BA) (o3_1 : LU) : Option (BA × LU × LB × LN × Int) :=
 yr o2 o3_1 o0_1 a0 a1 a2 a3 o0_3 t1 (⟨#[]⟩ : BA) >>= fun x78 =>
 some (x78.1, x78.2.1, x78.2.2, a3, o0_3)
@[reducible] def qnt (t1 : BA) (o0_1 : Node) (a0 : Int) (a1 : BA) (a2 : LB) (a3 : LN) (o0_3 : Int) (o2 : BA) (o3_1 : LU) (r : BA × LU × LB × LN × Int) : Prop :=
  Ok Tryz.prog G tt 146 7 (Ret Tryz.prog [] (fun y H => ua Tryz.prog G 7 H y (.tup []) ⟨10, [(0, .var 96 [(.ptr 1 1 0), (.int .i64 o0_1.kind), (.str o0_1.text), (.sl 1 false (o0_1.gaps.map sc)), (.sl 4 false (o0_1.kids.map Node.cells)), (.int .i64 a0), (.str a1), (.bs 1 5 8 0 r.2.2.1.length), (.bs 4 6 9 0 r.2.2.2.1.length), (.int .i64 r.2.2.2.2)]), (1, .var 70 [(.fn 41 [(.ptr 2 2 0), (.ptr 3 3 0)])]), (2, .var 9 [(.str r.1)]), (3, .var 60 [(.optr 3 3 0), (.bs 1 4 7 0 r.2.1.length)]), (7, .row 5 (r.2.1.map c8).flatten), (8, .row 9 (r.2.2.1.map sc).flatten), (9, .row 26 (r.2.2.2.1.map Node.cells).flatten)]⟩)) (.go [] (vc [22, 33] Tryz.f93 33) [] (.n (.ptr 0 0 0) (.n (.str t1) .z .z) .z) 13 [(0, .var 96 [(.ptr 1 1 0), (.int .i64 o0_1.kind), (.str o0_1.text), (.sl 1 false (o0_1.gaps.map sc)), (.sl 4 false (o0_1.kids.map Node.cells)), (.int .i64 a0), (.str a1), (.bs 1 5 11 0 a2.length), (.bs 4 6 12 0 a3.length), (.int .i64 o0_3)]), (1, .var 70 [(.fn 41 [(.ptr 2 2 0), (.ptr 3 3 0)])]), (2, .var 9 [(.str o2)]), (3, .var 60 [(.optr 3 3 0), (.bs 1 4 10 0 o3_1.length)]), (10, .row 5 (o3_1.map c8).flatten), (11, .row 9 (a2.map sc).flatten), (12, .row 26 (a3.map Node.cells).flatten)])
theorem qe7 : PC9 qnt J3 := fun t1 o0_1 a0 a1 a2 a3 o0_3 o2 o3_1 r h => by
 rw [J3.eq_def] at h
 refine kr [22, 33] ?_
 obtain ⟨x78, hx, h⟩ := bind_some h
 refine qb (AC.g9 (jn _ _ _ _ _ _ _ _ _ _ _ hx) [0, 1, 2, 3, 4, 5, 6] [0, 1, 2, 3, 10, 11, 12]) ?_
 refine kr [22, 33] ?_
 cases h
 exact je env rfl (tS [some 0, some 1, some 2, some 3, some 4, some 5, some 6] (sV (lS (lS (lS (lS (lS (lS (lS (lS (lS (lS lN)))))))))) (sV (lS lN) (sV (lS lN) (sV (lS (lS lN)) (sR zv (sR zr (sR qk qy))))))) (ju jc))
def Jq (o1 : BA) (o2_1 : LU) (o6_1 : Node) (a0 : Int) (a1 : BA) (a2 : LB) (a3 : LN) (o6_3 : Int) : Option (Node × BA × LU) :=
 some ((Node.mk a0 a1 a2 a3), o1, o2_1)
@[reducible] def qol (o1 : BA) (o2_1 : LU) (o6_1 : Node) (a0 : Int) (a1 : BA) (a2 : LB) (a3 : LN) (o6_3 : Int) (r : Node × BA × LU) : Prop :=
  Ok Tryz.prog G tt 41 4 (Ret Tryz.prog [.cell 8 26] (fun y H => ua Tryz.prog G 4 H y (.agg (zp r.1)) ⟨5, [(0, .var 70 [(.fn 41 [(.ptr 1 1 0), (.ptr 2 2 0)])]), (1, .var 9 [(.str r.2.1)]), (2, .var 60 [(.optr 2 2 0), (.bs 1 3 4 0 r.2.2.length)]), (4, .row 5 (r.2.2.map c8).flatten)]⟩)) (.go [] (vc [23, 30] Tryz.f46 23) [] (.n .undef (.n .undef .z (.n .undef (.n (.ptr 6 6 0) .z .z) .z)) (.n .undef (.n .undef (.n (.ptr 5 5 0) .z .z) .z) .z)) 13 [(0, .var 70 [(.fn 41 [(.ptr 1 1 0), (.ptr 2 2 0)])]), (1, .var 9 [(.str o1)]), (2, .var 60 [(.optr 2 2 0), (.bs 1 3 12 0 o2_1.length)]), (12, .row 5 (o2_1.map c8).flatten), (4, .dead), (5, .var 26 [(.int .i64 0), (.str ⟨#[]⟩), (.sl 0 true []), (.sl 0 true [])]), (6, .var 96 [(.ptr 0 0 0), (.int .i64 o6_1.kind), (.str o6_1.text), (.sl 1 false (o6_1.gaps.map sc)), (.sl 4 false (o6_1.kids.map Node.cells)), (.int .i64 a0), (.str a1), (.bs 1 7 10 0 a2.length), (.bs 4 8 11 0 a3.length), (.int .i64 o6_3)]), (10, .row 9 (a2.map sc).flatten), (11, .row 26 (a3.map Node.cells).flatten)])
theorem qf3 : PC8 qol Jq := fun o1 o2_1 o6_1 a0 a1 a2 a3 o6_3 r h => by
 rw [Jq.eq_def] at h
 refine kr [23, 30] ?_
 cases h
 exact jw env rfl rfl (tS [some 0, some 1, some 2, some 3] (sV (lS lN) (sV (lS lN) (sV (lS (lS lN)) (sR zv qy)))) (j3 (ym (qh (qf (zw rfl) rfl) (qh (qf (jr rfl) rfl) (qh (qf (jz zr rfl) rfl) (qh (qf (jz qk rfl) rfl) yl))))) (by simp)))
def Y0 (o1 : BA) (o2_1 : LU) (o6_1 : Node) (a0 : Int) (a1 : BA) (a2 : LB) (a3 : LN) (o6_3 : Int) : Option (Node × BA × LU) :=
 Jq o1 o2_1 o6_1 a0 a1 a2 a3 o6_3
@[reducible] def qok (o1 : BA) (o2_1 : LU) (o6_1 : Node) (a0 : Int) (a1 : BA) (a2 : LB) (a3 : LN) (o6_3 : Int) (r : Node × BA × LU) : Prop :=
  Ok Tryz.prog G tt 41 4 (Ret Tryz.prog [.cell 8 26] (fun y H => ua Tryz.prog G 4 H y (.agg (zp r.1)) ⟨5, [(0, .var 70 [(.fn 41 [(.ptr 1 1 0), (.ptr 2 2 0)])]), (1, .var 9 [(.str r.2.1)]), (2, .var 60 [(.optr 2 2 0), (.bs 1 3 4 0 r.2.2.length)]), (4, .row 5 (r.2.2.map c8).flatten)]⟩)) (.go [] (vc [23, 30] Tryz.f46 30) [] (.n .undef (.n .undef .z (.n .undef (.n (.ptr 6 6 0) .z .z) .z)) (.n .undef (.n .undef (.n (.ptr 5 5 0) .z .z) .z) .z)) 13 [(0, .var 70 [(.fn 41 [(.ptr 1 1 0), (.ptr 2 2 0)])]), (1, .var 9 [(.str o1)]), (2, .var 60 [(.optr 2 2 0), (.bs 1 3 12 0 o2_1.length)]), (12, .row 5 (o2_1.map c8).flatten), (4, .dead), (5, .var 26 [(.int .i64 0), (.str ⟨#[]⟩), (.sl 0 true []), (.sl 0 true [])]), (6, .var 96 [(.ptr 0 0 0), (.int .i64 o6_1.kind), (.str o6_1.text), (.sl 1 false (o6_1.gaps.map sc)), (.sl 4 false (o6_1.kids.map Node.cells)), (.int .i64 a0), (.str a1), (.bs 1 7 10 0 a2.length), (.bs 4 8 11 0 a3.length), (.int .i64 o6_3)]), (10, .row 9 (a2.map sc).flatten), (11, .row 26 (a3.map Node.cells).flatten)])
theorem qf2 : PC8 qok Y0 := fun o1 o2_1 o6_1 a0 a1 a2 a3 o6_3 r h => by
 rw [Y0.eq_def] at h
 refine kr [23, 30] ?_
 exact qz (by kernel_rfl) rfl lQ (qf3 _ _ _ _ _ _ _ _ _ h)
mutual
def qaf (a0 : BA) (a4 : LU) (a1 : Node) (a2 : BA) (a3 : Int) : Option (Node × BA × LU) :=
 Z8 a1.kind >>= fun x1 =>
 if (decide (x1 = (3 : Int))) = true then
  Jc (qa a0) (qa a4) (qa a1) a1.kind a1.text ([] : LB) ([] : LN) (qa a3) (qa a2) >>= fun x2 =>
  Jq x2.1 x2.2.1 (qa a1) a1.kind a1.text x2.2.2.1 x2.2.2.2 (qa a3)
 else
  Z8 a1.kind >>= fun x3 =>
  if (decide (x3 = (2 : Int))) = true then
   Jz (qa a0) (qa a4) (qa a1) a1.kind a1.text ([] : LB) ([] : LN) (qa a3) (qa a2) >>= fun x4 =>
   Y0 x4.1 x4.2.1 (qa a1) a1.kind a1.text x4.2.2.1 x4.2.2.2 (qa a3)
  else
   qc0 (qa a0) (qa a4) (qa a1) a1.kind a1.text ([] : LB) ([] : LN) (qa a3) (qa a2) >>= fun x5 =>
   Y0 x5.1 x5.2.1 (qa a1) a1.kind a1.text x5.2.2.1 x5.2.2.2.1 x5.2.2.2.2
 partial_fixpoint
def Jc (a0 : BA) (a2 : LU) (a0_n : Node) (a3 : Int) (a4 : BA) (a5 : LB) (a6 : LN) (a7 : Int) (a1 : BA) : Option (BA × LU × LB × LN) :=
 if (decide (a0_n.kind = (20 : Int))) = true then
  yr (qa a0) (qa a2) (qa a0_n) (qa a3) (qa a4) (qa a5) (qa a6) (qa a7) (qa a1) a0_n.text >>= fun x6 =>
  yr x6.1 x6.2.1 (qa a0_n) (qa a3) (qa a4) x6.2.2 (qa a6) (qa a7) (⟨#[]⟩ : BA) (⟨#[40]⟩ : BA) >>= fun x7 =>
  qae x7.1 x7.2.1 (qa a0_n) (qa a3) (qa a4) x7.2.2 (qa a6) (qa a7) >>= fun x8 =>
  some (x8.1, x8.2.1, x8.2.2.1, x8.2.2.2)
 else
  if (decide (a0_n.kind = (21 : Int))) = true then
   wz (qa a0) (qa a2) (qa a0_n) (qa a3) (qa a4) (qa a5) (qa a6) (qa a7) (qa a1) >>= fun x9 =>
   yr x9.1 x9.2.1 (qa a0_n) (qa a3) (qa a4) (qa a5) x9.2.2 (qa a7) (⟨#[]⟩ : BA) (⟨#[46]⟩ : BA) >>= fun x10 =>
   yr x10.1 x10.2.1 (qa a0_n) (qa a3) (qa a4) x10.2.2 x9.2.2 (qa a7) (⟨#[]⟩ : BA) a0_n.text >>= fun x11 =>
   yr x11.1 x11.2.1 (qa a0_n) (qa a3) (qa a4) x11.2.2 x9.2.2 (qa a7) (⟨#[]⟩ : BA) (⟨#[40]⟩ : BA) >>= fun x12 =>
   qae x12.1 x12.2.1 (qa a0_n) (qa a3) (qa a4) x12.2.2 x9.2.2 (qa a7) >>= fun x13 =>
   some (x13.1, x13.2.1, x13.2.2.1, x13.2.2.2)
  else
   if (decide (a0_n.kind = (22 : Int))) = true then
    yr (qa a0) (qa a2) (qa a0_n) (qa a3) (qa a4) (qa a5) (qa a6) (qa a7) (qa a1) (⟨#[110, 101, 119]⟩ : BA) >>= fun x14 =>
    yr x14.1 x14.2.1 (qa a0_n) (qa a3) (qa a4) x14.2.2 (qa a6) (qa a7) (⟨#[32]⟩ : BA) a0_n.text >>= fun x15 =>
    yr x15.1 x15.2.1 (qa a0_n) (qa a3) (qa a4) x15.2.2 (qa a6) (qa a7) (⟨#[]⟩ : BA) (⟨#[40]⟩ : BA) >>= fun x16 =>
    yr x16.1 x16.2.1 (qa a0_n) (qa a3) (qa a4) x16.2.2 (qa a6) (qa a7) (⟨#[]⟩ : BA) (⟨#[41]⟩ : BA) >>= fun x17 =>
    some (x17.1, x17.2.1, x17.2.2, a6)
   else
    if (decide (a0_n.kind = (24 : Int))) = true then
     wz (qa a0) (qa a2) (qa a0_n) (qa a3) (qa a4) (qa a5) (qa a6) (qa a7) (qa a1) >>= fun x18 =>
     yr x18.1 x18.2.1 (qa a0_n) (qa a3) (qa a4) (qa a5) x18.2.2 (qa a7) (⟨#[32]⟩ : BA) a0_n.text >>= fun x19 =>
     wz x19.1 x19.2.1 (qa a0_n) (qa a3) (qa a4) x19.2.2 x18.2.2 (qa a7) (⟨#[32]⟩ : BA) >>= fun x20 =>
     some (x20.1, x20.2.1, x19.2.2, x20.2.2)
    else
     if (decide (a0_n.kind = (25 : Int))) = true then
      yr (qa a0) (qa a2) (qa a0_n) (qa a3) (qa a4) (qa a5) (qa a6) (qa a7) (qa a1) a0_n.text >>= fun x21 =>
      wz x21.1 x21.2.1 (qa a0_n) (qa a3) (qa a4) x21.2.2 (qa a6) (qa a7) (⟨#[]⟩ : BA) >>= fun x22 =>
      some (x22.1, x22.2.1, x21.2.2, x22.2.2)
     else
      if (decide (a0_n.kind = (26 : Int))) = true then
       yr (qa a0) (qa a2) (qa a0_n) (qa a3) (qa a4) (qa a5) (qa a6) (qa a7) (qa a1) (⟨#[40]⟩ : BA) >>= fun x23 =>
       wz x23.1 x23.2.1 (qa a0_n) (qa a3) (qa a4) x23.2.2 (qa a6) (qa a7) (⟨#[]⟩ : BA) >>= fun x24 =>
       yr x24.1 x24.2.1 (qa a0_n) (qa a3) (qa a4) x23.2.2 x24.2.2 (qa a7) (⟨#[]⟩ : BA) (⟨#[41]⟩ : BA) >>= fun x25 =>
       some (x25.1, x25.2.1, x25.2.2, x24.2.2)
      else
       yr (qa a0) (qa a2) (qa a0_n) (qa a3) (qa a4) (qa a5) (qa a6) (qa a7) (qa a1) a0_n.text >>= fun x26 =>
       some (x26.1, x26.2.1, x26.2.2, a6)
 partial_fixpoint
def Jz (a0 : BA) (a2 : LU) (a0_n : Node) (a3 : Int) (a4 : BA) (a5 : LB) (a6 : LN) (a7 : Int) (a1 : BA) : Option (BA × LU × LB × LN) :=
 if (decide (a0_n.kind = (10 : Int))) = true then
  Wm (qa a0) (qa a2) (qa a0_n) (qa a3) (qa a4) (qa a5) (qa a6) (qa a7) (qa a1) (⟨#[108, 101, 116]⟩ : BA) >>= fun x27 =>
  some (x27.1, x27.2.1, x27.2.2.1, x27.2.2.2)
 else
  if (decide (a0_n.kind = (11 : Int))) = true then
   yr (qa a0) (qa a2) (qa a0_n) (qa a3) (qa a4) (qa a5) (qa a6) (qa a7) (qa a1) a0_n.text >>= fun x28 =>
   yr x28.1 x28.2.1 (qa a0_n) (qa a3) (qa a4) x28.2.2 (qa a6) (qa a7) (⟨#[32]⟩ : BA) (⟨#[61]⟩ : BA) >>= fun x29 =>
   wz x29.1 x29.2.1 (qa a0_n) (qa a3) (qa a4) x29.2.2 (qa a6) (qa a7) (⟨#[32]⟩ : BA) >>= fun x30 =>
   yr x30.1 x30.2.1 (qa a0_n) (qa a3) (qa a4) x29.2.2 x30.2.2 (qa a7) (⟨#[]⟩ : BA) (⟨#[59]⟩ : BA) >>= fun x31 =>
   some (x31.1, x31.2.1, x31.2.2, x30.2.2)
  else
   if (decide (a0_n.kind = (12 : Int))) = true then
    yr (qa a0) (qa a2) (qa a0_n) (qa a3) (qa a4) (qa a5) (qa a6) (qa a7) (qa a1) (⟨#[114, 101, 116, 117, 114, 110]⟩ : BA) >>= fun x32 =>
    wz x32.1 x32.2.1 (qa a0_n) (qa a3) (qa a4) x32.2.2 (qa a6) (qa a7) (⟨#[32]⟩ : BA) >>= fun x33 =>
    yr x33.1 x33.2.1 (qa a0_n) (qa a3) (qa a4) x32.2.2 x33.2.2 (qa a7) (⟨#[]⟩ : BA) (⟨#[59]⟩ : BA) >>= fun x34 =>
    some (x34.1, x34.2.1, x34.2.2, x33.2.2)
   else
    if (decide (a0_n.kind = (13 : Int))) = true then
     if (decide (a0_n.kind = (15 : Int))) = true then
      ub (qa a1) (⟨#[119, 104, 105, 108, 101]⟩ : BA) (qa a0_n) (qa a3) (qa a4) (qa a5) (qa a6) (qa a7) (qa a0) (qa a2)
     else
      ub (qa a1) (⟨#[105, 102]⟩ : BA) (qa a0_n) (qa a3) (qa a4) (qa a5) (qa a6) (qa a7) (qa a0) (qa a2)
    else
     if (decide (a0_n.kind = (15 : Int))) = true then
      if (decide (a0_n.kind = (15 : Int))) = true then
       ub (qa a1) (⟨#[119, 104, 105, 108, 101]⟩ : BA) (qa a0_n) (qa a3) (qa a4) (qa a5) (qa a6) (qa a7) (qa a0) (qa a2)
      else
       ub (qa a1) (⟨#[105, 102]⟩ : BA) (qa a0_n) (qa a3) (qa a4) (qa a5) (qa a6) (qa a7) (qa a0) (qa a2)
     else
      wz (qa a0) (qa a2) (qa a0_n) (qa a3) (qa a4) (qa a5) (qa a6) (qa a7) (qa a1) >>= fun x35 =>
      yr x35.1 x35.2.1 (qa a0_n) (qa a3) (qa a4) (qa a5) x35.2.2 (qa a7) (⟨#[]⟩ : BA) (⟨#[59]⟩ : BA) >>= fun x36 =>
      some (x36.1, x36.2.1, x36.2.2, x35.2.2)
 partial_fixpoint
def qc0 (a0 : BA) (a2 : LU) (a0_n : Node) (a3 : Int) (a4 : BA) (a5 : LB) (a6 : LN) (a7 : Int) (a1 : BA) : Option (BA × LU × LB × LN × Int) :=
 if (decide (a0_n.kind = (1 : Int))) = true then
  Q3 a0_n.kids 0 (qa a1) (qa a0_n) (qa a3) (qa a4) (qa a5) (qa a6) (qa a7) (qa a0) (qa a2)
 else
  if (decide (a0_n.kind = (2 : Int))) = true then
   yr (qa a0) (qa a2) (qa a0_n) (qa a3) (qa a4) (qa a5) (qa a6) (qa a7) (qa a1) (⟨#[102, 110]⟩ : BA) >>= fun x37 =>
   yr x37.1 x37.2.1 (qa a0_n) (qa a3) (qa a4) x37.2.2 (qa a6) (qa a7) (⟨#[32]⟩ : BA) a0_n.text >>= fun x38 =>
   wz x38.1 x38.2.1 (qa a0_n) (qa a3) (qa a4) x38.2.2 (qa a6) (qa a7) (⟨#[]⟩ : BA) >>= fun x39 =>
   wz x39.1 x39.2.1 (qa a0_n) (qa a3) (qa a4) x38.2.2 x39.2.2 (qa a7) (⟨#[32]⟩ : BA) >>= fun x40 =>
   wz x40.1 x40.2.1 (qa a0_n) (qa a3) (qa a4) x38.2.2 x40.2.2 (qa a7) (⟨#[32]⟩ : BA) >>= fun x41 =>
   some (x41.1, x41.2.1, x38.2.2, x41.2.2, a7)
  else
   if (decide (a0_n.kind = (3 : Int))) = true then
    yr (qa a0) (qa a2) (qa a0_n) (qa a3) (qa a4) (qa a5) (qa a6) (qa a7) (qa a1) (⟨#[40]⟩ : BA) >>= fun x42 =>
    qae x42.1 x42.2.1 (qa a0_n) (qa a3) (qa a4) x42.2.2 (qa a6) (qa a7) >>= fun x43 =>
    some (x43.1, x43.2.1, x43.2.2.1, x43.2.2.2, a7)
   else
    if (decide (a0_n.kind = (4 : Int))) = true then
     yr (qa a0) (qa a2) (qa a0_n) (qa a3) (qa a4) (qa a5) (qa a6) (qa a7) (qa a1) a0_n.text >>= fun x44 =>
     wz x44.1 x44.2.1 (qa a0_n) (qa a3) (qa a4) x44.2.2 (qa a6) (qa a7) (⟨#[32]⟩ : BA) >>= fun x45 =>
     some (x45.1, x45.2.1, x44.2.2, x45.2.2, a7)
    else
     if (decide (a0_n.kind = (5 : Int))) = true then
      yr (qa a0) (qa a2) (qa a0_n) (qa a3) (qa a4) (qa a5) (qa a6) (qa a7) (qa a1) a0_n.text >>= fun x46 =>
      some (x46.1, x46.2.1, x46.2.2, a6, a7)
     else
      if (decide (a0_n.kind = (6 : Int))) = true then
       yr (qa a0) (qa a2) (qa a0_n) (qa a3) (qa a4) (qa a5) (qa a6) (qa a7) (qa a1) (⟨#[123]⟩ : BA) >>= fun x47 =>
       qbk x47.1 x47.2.1 (qa a0_n) (qa a3) (qa a4) x47.2.2 (qa a6) (qa a7) (0 : Int) >>= fun x48 =>
       some (x48.1, x48.2.1, x48.2.2.1, x48.2.2.2.1, x48.2.2.2.2)
      else
       if (decide (a0_n.kind = (7 : Int))) = true then
        yr (qa a0) (qa a2) (qa a0_n) (qa a3) (qa a4) (qa a5) (qa a6) (qa a7) (qa a1) (⟨#[99, 108, 97, 115, 115]⟩ : BA) >>= fun x49 =>
        yr x49.1 x49.2.1 (qa a0_n) (qa a3) (qa a4) x49.2.2 (qa a6) (qa a7) (⟨#[32]⟩ : BA) a0_n.text >>= fun x50 =>
        wz x50.1 x50.2.1 (qa a0_n) (qa a3) (qa a4) x50.2.2 (qa a6) (qa a7) (⟨#[32]⟩ : BA) >>= fun x51 =>
        yr x51.1 x51.2.1 (qa a0_n) (qa a3) (qa a4) x50.2.2 x51.2.2 (qa a7) (⟨#[32]⟩ : BA) (⟨#[123]⟩ : BA) >>= fun x52 =>
        qbk x52.1 x52.2.1 (qa a0_n) (qa a3) (qa a4) x52.2.2 x51.2.2 (qa a7) (1 : Int) >>= fun x53 =>
        some (x53.1, x53.2.1, x53.2.2.1, x53.2.2.2.1, x53.2.2.2.2)
       else
        if (decide (a0_n.kind = (8 : Int))) = true then
         if (!decide (a0_n.text = (⟨#[]⟩ : BA))) = true then
          yr (qa a0) (qa a2) (qa a0_n) (qa a3) (qa a4) (qa a5) (qa a6) (qa a7) (qa a1) (⟨#[58]⟩ : BA) >>= fun x54 =>
          yr x54.1 x54.2.1 (qa a0_n) (qa a3) (qa a4) x54.2.2 (qa a6) (qa a7) (⟨#[32]⟩ : BA) a0_n.text >>= fun x55 =>
          some (x55.1, x55.2.1, x55.2.2, a6, a7)
         else
          some (a0, a2, a5, a6, a7)
        else
         if (decide (a0_n.kind = (9 : Int))) = true then
          Wm (qa a0) (qa a2) (qa a0_n) (qa a3) (qa a4) (qa a5) (qa a6) (qa a7) (qa a1) (⟨#[99, 111, 110, 115, 116]⟩ : BA) >>= fun x56 =>
          some (x56.1, x56.2.1, x56.2.2.1, x56.2.2.2, a7)
         else
          if (decide (a0_n.kind = (14 : Int))) = true then
           if (decide ((0 : Int) < ((a0_n.kids.map Node.cells).length : Int))) = true then
            yr (qa a0) (qa a2) (qa a0_n) (qa a3) (qa a4) (qa a5) (qa a6) (qa a7) (qa a1) (⟨#[101, 108, 115, 101]⟩ : BA) >>= fun x57 =>
            wz x57.1 x57.2.1 (qa a0_n) (qa a3) (qa a4) x57.2.2 (qa a6) (qa a7) (⟨#[32]⟩ : BA) >>= fun x58 =>
            some (x58.1, x58.2.1, x57.2.2, x58.2.2, a7)
           else
            some (a0, a2, a5, a6, a7)
          else
           some (a0, a2, a5, a6, a7)
 partial_fixpoint
def qae (a0 : BA) (a1 : LU) (a0_n : Node) (a2 : Int) (a3 : BA) (a4 : LB) (a5 : LN) (a6 : Int) : Option (BA × LU × LB × LN) :=
 Zb (qa true) (qa a0_n) (qa a2) (qa a3) (qa a4) (qa a5) (qa a6) (qa a0) (qa a1)
 partial_fixpoint
def wz (a0 : BA) (a2 : LU) (a0_n : Node) (a3 : Int) (a4 : BA) (a5 : LB) (a6 : LN) (a7 : Int) (a1 : BA) : Option (BA × LU × LN) :=
 ix a0_n.kids (a6.length : Int) >>= fun x59 =>
 qaf (qa a0) (qa a2) (qa x59) (qa a1) (qa a7) >>= fun x60 =>
 app 72 a6 [x60.1] >>= fun x61 =>
 some (x60.2.1, x60.2.2, x61)
 partial_fixpoint
def Wm (a0 : BA) (a3 : LU) (a0_n : Node) (a4 : Int) (a5 : BA) (a6 : LB) (a7 : LN) (a8 : Int) (a1 : BA) (a2 : BA) : Option (BA × LU × LB × LN) :=
 yr (qa a0) (qa a3) (qa a0_n) (qa a4) (qa a5) (qa a6) (qa a7) (qa a8) (qa a1) (qa a2) >>= fun x62 =>
 yr x62.1 x62.2.1 (qa a0_n) (qa a4) (qa a5) x62.2.2 (qa a7) (qa a8) (⟨#[32]⟩ : BA) a0_n.text >>= fun x63 =>
 yr x63.1 x63.2.1 (qa a0_n) (qa a4) (qa a5) x63.2.2 (qa a7) (qa a8) (⟨#[32]⟩ : BA) (⟨#[61]⟩ : BA) >>= fun x64 =>
 wz x64.1 x64.2.1 (qa a0_n) (qa a4) (qa a5) x64.2.2 (qa a7) (qa a8) (⟨#[32]⟩ : BA) >>= fun x65 =>
 yr x65.1 x65.2.1 (qa a0_n) (qa a4) (qa a5) x64.2.2 x65.2.2 (qa a8) (⟨#[]⟩ : BA) (⟨#[59]⟩ : BA) >>= fun x66 =>
 some (x66.1, x66.2.1, x66.2.2, x65.2.2)
 partial_fixpoint
def qbk (a0 : BA) (a2 : LU) (a0_n : Node) (a3 : Int) (a4 : BA) (a5 : LB) (a6 : LN) (a7 : Int) (a1 : Int) : Option (BA × LU × LB × LN × Int) :=
 Z1 (qa a1) (qa a0_n) (qa a3) (qa a4) (qa a5) (qa a6) (IntKind.i64.wrap (a7 + (1 : Int))) (qa a0) (qa a2)
 partial_fixpoint
def ub (t1 : BA) (t4 : BA) (o0_1 : Node) (a0 : Int) (a1 : BA) (a2 : LB) (a3 : LN) (o0_3 : Int) (o2 : BA) (o3_1 : LU) : Option (BA × LU × LB × LN) :=
 yr (qa o2) (qa o3_1) (qa o0_1) (qa a0) (qa a1) (qa a2) (qa a3) (qa o0_3) (qa t1) (qa t4) >>= fun x67 =>
 w8 o0_1.kids (qa o0_1) (qa a0) (qa a1) x67.2.2 (qa a3) (qa o0_3) x67.1 x67.2.1
 partial_fixpoint
def Q3 (a0 : LN) (j0 : Nat) (t1 : BA) (o0_1 : Node) (a1 : Int) (a2 : BA) (a3 : LB) (a4 : LN) (o0_3 : Int) (o2 : BA) (o3_1 : LU) : Option (BA × LU × LB × LN × Int) :=
 match a0 with
 | [] =>
   if (decide ((0 : Int) < ((o0_1.kids.map Node.cells).length : Int))) = true then
    J3 (⟨#[10]⟩ : BA) (qa o0_1) (qa a1) (qa a2) (qa a3) (qa a4) (qa o0_3) (qa o2) (qa o3_1)
   else
    J3 (qa t1) (qa o0_1) (qa a1) (qa a2) (qa a3) (qa a4) (qa o0_3) (qa o2) (qa o3_1)
 | x_0 :: a0 =>
   if (decide ((0 : Int) < ((j0 : Nat) : Int))) = true then
    Z0 (qa a0) (qa j0) (⟨#[10, 10]⟩ : BA) (qa o0_1) (qa a1) (qa a2) (qa a3) (qa a4) (qa o0_3) (qa o2) (qa o3_1)
   else
    Z0 (qa a0) (qa j0) (qa t1) (qa o0_1) (qa a1) (qa a2) (qa a3) (qa a4) (qa o0_3) (qa o2) (qa o3_1)
 partial_fixpoint
def Zb (t2 : Bool) (o0_1 : Node) (a0 : Int) (a1 : BA) (a2 : LB) (a3 : LN) (o0_3 : Int) (o2 : BA) (o3_1 : LU) : Option (BA × LU × LB × LN) :=
 if (decide ((a3.length : Int) < ((o0_1.kids.map Node.cells).length : Int))) = true then
  if t2 = true then
   wz (qa o2) (qa o3_1) (qa o0_1) (qa a0) (qa a1) (qa a2) (qa a3) (qa o0_3) (⟨#[]⟩ : BA) >>= fun x68 =>
   Ys (qa o0_1) (qa a0) (qa a1) (qa a2) x68.2.2 (qa o0_3) x68.1 x68.2.1
  else
   yr (qa o2) (qa o3_1) (qa o0_1) (qa a0) (qa a1) (qa a2) (qa a3) (qa o0_3) (⟨#[]⟩ : BA) (⟨#[44]⟩ : BA) >>= fun x69 =>
   wz x69.1 x69.2.1 (qa o0_1) (qa a0) (qa a1) x69.2.2 (qa a3) (qa o0_3) (⟨#[32]⟩ : BA) >>= fun x70 =>
   Ys (qa o0_1) (qa a0) (qa a1) x69.2.2 x70.2.2 (qa o0_3) x70.1 x70.2.1
 else
  yr (qa o2) (qa o3_1) (qa o0_1) (qa a0) (qa a1) (qa a2) (qa a3) (qa o0_3) (⟨#[]⟩ : BA) (⟨#[41]⟩ : BA) >>= fun x71 =>
  some (x71.1, x71.2.1, x71.2.2, a3)
 partial_fixpoint
def Z1 (t1 : Int) (o0_1 : Node) (a0 : Int) (a1 : BA) (a2 : LB) (a3 : LN) (o0_3 : Int) (o2 : BA) (o3_1 : LU) : Option (BA × LU × LB × LN × Int) :=
 if (decide ((a3.length : Int) < ((o0_1.kids.map Node.cells).length : Int))) = true then
  J0 (qa o0_3) >>= fun x72 =>
  wz (qa o2) (qa o3_1) (qa o0_1) (qa a0) (qa a1) (qa a2) (qa a3) (qa o0_3) (qa x72) >>= fun x73 =>
  Z1 (qa t1) (qa o0_1) (qa a0) (qa a1) (qa a2) x73.2.2 (qa o0_3) x73.1 x73.2.1
 else
  if (decide (t1 < ((o0_1.kids.map Node.cells).length : Int))) = true then
   J0 (IntKind.i64.wrap (o0_3 - (1 : Int))) >>= fun x74 =>
   yr (qa o2) (qa o3_1) (qa o0_1) (qa a0) (qa a1) (qa a2) (qa a3) (IntKind.i64.wrap (o0_3 - (1 : Int))) (qa x74) (⟨#[125]⟩ : BA) >>= fun x75 =>
   some (x75.1, x75.2.1, x75.2.2, a3, (IntKind.i64.wrap (o0_3 - (1 : Int))))
  else
   yr (qa o2) (qa o3_1) (qa o0_1) (qa a0) (qa a1) (qa a2) (qa a3) (IntKind.i64.wrap (o0_3 - (1 : Int))) (⟨#[]⟩ : BA) (⟨#[125]⟩ : BA) >>= fun x76 =>
   some (x76.1, x76.2.1, x76.2.2, a3, (IntKind.i64.wrap (o0_3 - (1 : Int))))
 partial_fixpoint
def w8 (a0 : LN) (o0_1 : Node) (a1 : Int) (a2 : BA) (a3 : LB) (a4 : LN) (o0_3 : Int) (o2 : BA) (o3_1 : LU) : Option (BA × LU × LB × LN) :=
 match a0 with
 | [] =>
   some (o2, o3_1, a3, a4)
 | x_0 :: a0 =>
   wz (qa o2) (qa o3_1) (qa o0_1) (qa a1) (qa a2) (qa a3) (qa a4) (qa o0_3) (⟨#[32]⟩ : BA) >>= fun x77 =>
   w8 (qa a0) (qa o0_1) (qa a1) (qa a2) (qa a3) x77.2.2 (qa o0_3) x77.1 x77.2.1
 partial_fixpoint
def Z0 (a0 : LN) (j0 : Nat) (t1 : BA) (o0_1 : Node) (a1 : Int) (a2 : BA) (a3 : LB) (a4 : LN) (o0_3 : Int) (o2 : BA) (o3_1 : LU) : Option (BA × LU × LB × LN × Int) :=
 wz (qa o2) (qa o3_1) (qa o0_1) (qa a1) (qa a2) (qa a3) (qa a4) (qa o0_3) (qa t1) >>= fun x79 =>
 Q3 (qa a0) (j0 + 1) (qa t1) (qa o0_1) (qa a1) (qa a2) (qa a3) x79.2.2 (qa o0_3) x79.1 x79.2.1
 partial_fixpoint
def Ys (o0_1 : Node) (a0 : Int) (a1 : BA) (a2 : LB) (a3 : LN) (o0_3 : Int) (o2 : BA) (o3_1 : LU) : Option (BA × LU × LB × LN) :=
 Zb (qa false) (qa o0_1) (qa a0) (qa a1) (qa a2) (qa a3) (qa o0_3) (qa o2) (qa o3_1)
 partial_fixpoint
end
@[reducible] def qi4 (a0 : BA) (a4 : LU) (a1 : Node) (a2 : BA) (a3 : Int) (r : Node × BA × LU) : Prop :=
  AC Tryz.prog G 46 [(.ptr 0 0 0), (.agg (zp a1)), (.str a2), (.int .i64 a3)] 4 [(0, .var 70 [(.fn 41 [(.ptr 1 1 0), (.ptr 2 2 0)])]), (1, .var 9 [(.str a0)]), (2, .var 60 [(.optr 2 2 0), (.bs 1 3 3 0 a4.length)]), (3, .row 5 (a4.map c8).flatten)] (.agg (zp r.1)) 5 [(0, .var 70 [(.fn 41 [(.ptr 1 1 0), (.ptr 2 2 0)])]), (1, .var 9 [(.str r.2.1)]), (2, .var 60 [(.optr 2 2 0), (.bs 1 3 4 0 r.2.2.length)]), (4, .row 5 (r.2.2.map c8).flatten)]
@[reducible] def Ww (a0 : BA) (a2 : LU) (a0_n : Node) (a3 : Int) (a4 : BA) (a5 : LB) (a6 : LN) (a7 : Int) (a1 : BA) (r : BA × LU × LB × LN) : Prop :=
  AC Tryz.prog G 91 [(.ptr 0 0 0), (.str a1)] 7 [(0, .var 96 [(.ptr 1 1 0), (.int .i64 a0_n.kind), (.str a0_n.text), (.sl 1 false (a0_n.gaps.map sc)), (.sl 4 false (a0_n.kids.map Node.cells)), (.int .i64 a3), (.str a4), (.bs 1 5 5 0 a5.length), (.bs 4 6 6 0 a6.length), (.int .i64 a7)]), (1, .var 70 [(.fn 41 [(.ptr 2 2 0), (.ptr 3 3 0)])]), (2, .var 9 [(.str a0)]), (3, .var 60 [(.optr 3 3 0), (.bs 1 4 4 0 a2.length)]), (4, .row 5 (a2.map c8).flatten), (5, .row 9 (a5.map sc).flatten), (6, .row 26 (a6.map Node.cells).flatten)] (.tup []) 10 [(0, .var 96 [(.ptr 1 1 0), (.int .i64 a0_n.kind), (.str a0_n.text), (.sl 1 false (a0_n.gaps.map sc)), (.sl 4 false (a0_n.kids.map Node.cells)), (.int .i64 a3), (.str a4), (.bs 1 5 8 0 r.2.2.1.length), (.bs 4 6 9 0 r.2.2.2.length), (.int .i64 a7)]), (1, .var 70 [(.fn 41 [(.ptr 2 2 0), (.ptr 3 3 0)])]), (2, .var 9 [(.str r.1)]), (3, .var 60 [(.optr 3 3 0), (.bs 1 4 7 0 r.2.1.length)]), (7, .row 5 (r.2.1.map c8).flatten), (8, .row 9 (r.2.2.1.map sc).flatten), (9, .row 26 (r.2.2.2.map Node.cells).flatten)]
@[reducible] def qav (a0 : BA) (a2 : LU) (a0_n : Node) (a3 : Int) (a4 : BA) (a5 : LB) (a6 : LN) (a7 : Int) (a1 : BA) (r : BA × LU × LB × LN) : Prop :=
  AC Tryz.prog G 92 [(.ptr 0 0 0), (.str a1)] 7 [(0, .var 96 [(.ptr 1 1 0), (.int .i64 a0_n.kind), (.str a0_n.text), (.sl 1 false (a0_n.gaps.map sc)), (.sl 4 false (a0_n.kids.map Node.cells)), (.int .i64 a3), (.str a4), (.bs 1 5 5 0 a5.length), (.bs 4 6 6 0 a6.length), (.int .i64 a7)]), (1, .var 70 [(.fn 41 [(.ptr 2 2 0), (.ptr 3 3 0)])]), (2, .var 9 [(.str a0)]), (3, .var 60 [(.optr 3 3 0), (.bs 1 4 4 0 a2.length)]), (4, .row 5 (a2.map c8).flatten), (5, .row 9 (a5.map sc).flatten), (6, .row 26 (a6.map Node.cells).flatten)] (.tup []) 10 [(0, .var 96 [(.ptr 1 1 0), (.int .i64 a0_n.kind), (.str a0_n.text), (.sl 1 false (a0_n.gaps.map sc)), (.sl 4 false (a0_n.kids.map Node.cells)), (.int .i64 a3), (.str a4), (.bs 1 5 8 0 r.2.2.1.length), (.bs 4 6 9 0 r.2.2.2.length), (.int .i64 a7)]), (1, .var 70 [(.fn 41 [(.ptr 2 2 0), (.ptr 3 3 0)])]), (2, .var 9 [(.str r.1)]), (3, .var 60 [(.optr 3 3 0), (.bs 1 4 7 0 r.2.1.length)]), (7, .row 5 (r.2.1.map c8).flatten), (8, .row 9 (r.2.2.1.map sc).flatten), (9, .row 26 (r.2.2.2.map Node.cells).flatten)]
@[reducible] def qgz (a0 : BA) (a2 : LU) (a0_n : Node) (a3 : Int) (a4 : BA) (a5 : LB) (a6 : LN) (a7 : Int) (a1 : BA) (r : BA × LU × LB × LN × Int) : Prop :=
  AC Tryz.prog G 93 [(.ptr 0 0 0), (.str a1)] 7 [(0, .var 96 [(.ptr 1 1 0), (.int .i64 a0_n.kind), (.str a0_n.text), (.sl 1 false (a0_n.gaps.map sc)), (.sl 4 false (a0_n.kids.map Node.cells)), (.int .i64 a3), (.str a4), (.bs 1 5 5 0 a5.length), (.bs 4 6 6 0 a6.length), (.int .i64 a7)]), (1, .var 70 [(.fn 41 [(.ptr 2 2 0), (.ptr 3 3 0)])]), (2, .var 9 [(.str a0)]), (3, .var 60 [(.optr 3 3 0), (.bs 1 4 4 0 a2.length)]), (4, .row 5 (a2.map c8).flatten), (5, .row 9 (a5.map sc).flatten), (6, .row 26 (a6.map Node.cells).flatten)] (.tup []) 10 [(0, .var 96 [(.ptr 1 1 0), (.int .i64 a0_n.kind), (.str a0_n.text), (.sl 1 false (a0_n.gaps.map sc)), (.sl 4 false (a0_n.kids.map Node.cells)), (.int .i64 a3), (.str a4), (.bs 1 5 8 0 r.2.2.1.length), (.bs 4 6 9 0 r.2.2.2.1.length), (.int .i64 r.2.2.2.2)]), (1, .var 70 [(.fn 41 [(.ptr 2 2 0), (.ptr 3 3 0)])]), (2, .var 9 [(.str r.1)]), (3, .var 60 [(.optr 3 3 0), (.bs 1 4 7 0 r.2.1.length)]), (7, .row 5 (r.2.1.map c8).flatten), (8, .row 9 (r.2.2.1.map sc).flatten), (9, .row 26 (r.2.2.2.1.map Node.cells).flatten)]
@[reducible] def qi3 (a0 : BA) (a1 : LU) (a0_n : Node) (a2 : Int) (a3 : BA) (a4 : LB) (a5 : LN) (a6 : Int) (r : BA × LU × LB × LN) : Prop :=
  AC Tryz.prog G 122 [(.ptr 0 0 0)] 7 [(0, .var 96 [(.ptr 1 1 0), (.int .i64 a0_n.kind), (.str a0_n.text), (.sl 1 false (a0_n.gaps.map sc)), (.sl 4 false (a0_n.kids.map Node.cells)), (.int .i64 a2), (.str a3), (.bs 1 5 5 0 a4.length), (.bs 4 6 6 0 a5.length), (.int .i64 a6)]), (1, .var 70 [(.fn 41 [(.ptr 2 2 0), (.ptr 3 3 0)])]), (2, .var 9 [(.str a0)]), (3, .var 60 [(.optr 3 3 0), (.bs 1 4 4 0 a1.length)]), (4, .row 5 (a1.map c8).flatten), (5, .row 9 (a4.map sc).flatten), (6, .row 26 (a5.map Node.cells).flatten)] (.tup []) 10 [(0, .var 96 [(.ptr 1 1 0), (.int .i64 a0_n.kind), (.str a0_n.text), (.sl 1 false (a0_n.gaps.map sc)), (.sl 4 false (a0_n.kids.map Node.cells)), (.int .i64 a2), (.str a3), (.bs 1 5 8 0 r.2.2.1.length), (.bs 4 6 9 0 r.2.2.2.length), (.int .i64 a6)]), (1, .var 70 [(.fn 41 [(.ptr 2 2 0), (.ptr 3 3 0)])]), (2, .var 9 [(.str r.1)]), (3, .var 60 [(.optr 3 3 0), (.bs 1 4 7 0 r.2.1.length)]), (7, .row 5 (r.2.1.map c8).flatten), (8, .row 9 (r.2.2.1.map sc).flatten), (9, .row 26 (r.2.2.2.map Node.cells).flatten)]
@[reducible] def qnu (a0 : BA) (a2 : LU) (a0_n : Node) (a3 : Int) (a4 : BA) (a5 : LB) (a6 : LN) (a7 : Int) (a1 : BA) (r : BA × LU × LN) : Prop :=
  AC Tryz.prog G 123 [(.ptr 0 0 0), (.str a1)] 7 [(0, .var 96 [(.ptr 1 1 0), (.int .i64 a0_n.kind), (.str a0_n.text), (.sl 1 false (a0_n.gaps.map sc)), (.sl 4 false (a0_n.kids.map Node.cells)), (.int .i64 a3), (.str a4), (.bs 1 5 5 0 a5.length), (.bs 4 6 6 0 a6.length), (.int .i64 a7)]), (1, .var 70 [(.fn 41 [(.ptr 2 2 0), (.ptr 3 3 0)])]), (2, .var 9 [(.str a0)]), (3, .var 60 [(.optr 3 3 0), (.bs 1 4 4 0 a2.length)]), (4, .row 5 (a2.map c8).flatten), (5, .row 9 (a5.map sc).flatten), (6, .row 26 (a6.map Node.cells).flatten)] (.tup []) 9 [(0, .var 96 [(.ptr 1 1 0), (.int .i64 a0_n.kind), (.str a0_n.text), (.sl 1 false (a0_n.gaps.map sc)), (.sl 4 false (a0_n.kids.map Node.cells)), (.int .i64 a3), (.str a4), (.bs 1 5 5 0 a5.length), (.bs 4 6 8 0 r.2.2.length), (.int .i64 a7)]), (1, .var 70 [(.fn 41 [(.ptr 2 2 0), (.ptr 3 3 0)])]), (2, .var 9 [(.str r.1)]), (3, .var 60 [(.optr 3 3 0), (.bs 1 4 7 0 r.2.1.length)]), (7, .row 5 (r.2.1.map c8).flatten), (5, .row 9 (a5.map sc).flatten), (8, .row 26 (r.2.2.map Node.cells).flatten)]
@[reducible] def qg0 (a0 : BA) (a3 : LU) (a0_n : Node) (a4 : Int) (a5 : BA) (a6 : LB) (a7 : LN) (a8 : Int) (a1 : BA) (a2 : BA) (r : BA × LU × LB × LN) : Prop :=
  AC Tryz.prog G 124 [(.ptr 0 0 0), (.str a1), (.str a2)] 7 [(0, .var 96 [(.ptr 1 1 0), (.int .i64 a0_n.kind), (.str a0_n.text), (.sl 1 false (a0_n.gaps.map sc)), (.sl 4 false (a0_n.kids.map Node.cells)), (.int .i64 a4), (.str a5), (.bs 1 5 5 0 a6.length), (.bs 4 6 6 0 a7.length), (.int .i64 a8)]), (1, .var 70 [(.fn 41 [(.ptr 2 2 0), (.ptr 3 3 0)])]), (2, .var 9 [(.str a0)]), (3, .var 60 [(.optr 3 3 0), (.bs 1 4 4 0 a3.length)]), (4, .row 5 (a3.map c8).flatten), (5, .row 9 (a6.map sc).flatten), (6, .row 26 (a7.map Node.cells).flatten)] (.tup []) 10 [(0, .var 96 [(.ptr 1 1 0), (.int .i64 a0_n.kind), (.str a0_n.text), (.sl 1 false (a0_n.gaps.map sc)), (.sl 4 false (a0_n.kids.map Node.cells)), (.int .i64 a4), (.str a5), (.bs 1 5 8 0 r.2.2.1.length), (.bs 4 6 9 0 r.2.2.2.length), (.int .i64 a8)]), (1, .var 70 [(.fn 41 [(.ptr 2 2 0), (.ptr 3 3 0)])]), (2, .var 9 [(.str r.1)]), (3, .var 60 [(.optr 3 3 0), (.bs 1 4 7 0 r.2.1.length)]), (7, .row 5 (r.2.1.map c8).flatten), (8, .row 9 (r.2.2.1.map sc).flatten), (9, .row 26 (r.2.2.2.map Node.cells).flatten)]
@[reducible] def qi5 (a0 : BA) (a2 : LU) (a0_n : Node) (a3 : Int) (a4 : BA) (a5 : LB) (a6 : LN) (a7 : Int) (a1 : Int) (r : BA × LU × LB × LN × Int) : Prop :=
  AC Tryz.prog G 125 [(.ptr 0 0 0), (.int .i64 a1)] 7 [(0, .var 96 [(.ptr 1 1 0), (.int .i64 a0_n.kind), (.str a0_n.text), (.sl 1 false (a0_n.gaps.map sc)), (.sl 4 false (a0_n.kids.map Node.cells)), (.int .i64 a3), (.str a4), (.bs 1 5 5 0 a5.length), (.bs 4 6 6 0 a6.length), (.int .i64 a7)]), (1, .var 70 [(.fn 41 [(.ptr 2 2 0), (.ptr 3 3 0)])]), (2, .var 9 [(.str a0)]), (3, .var 60 [(.optr 3 3 0), (.bs 1 4 4 0 a2.length)]), (4, .row 5 (a2.map c8).flatten), (5, .row 9 (a5.map sc).flatten), (6, .row 26 (a6.map Node.cells).flatten)] (.tup []) 10 [(0, .var 96 [(.ptr 1 1 0), (.int .i64 a0_n.kind), (.str a0_n.text), (.sl 1 false (a0_n.gaps.map sc)), (.sl 4 false (a0_n.kids.map Node.cells)), (.int .i64 a3), (.str a4), (.bs 1 5 8 0 r.2.2.1.length), (.bs 4 6 9 0 r.2.2.2.1.length), (.int .i64 r.2.2.2.2)]), (1, .var 70 [(.fn 41 [(.ptr 2 2 0), (.ptr 3 3 0)])]), (2, .var 9 [(.str r.1)]), (3, .var 60 [(.optr 3 3 0), (.bs 1 4 7 0 r.2.1.length)]), (7, .row 5 (r.2.1.map c8).flatten), (8, .row 9 (r.2.2.1.map sc).flatten), (9, .row 26 (r.2.2.2.1.map Node.cells).flatten)]
@[reducible] def Yp (t1 : BA) (t4 : BA) (o0_1 : Node) (a0 : Int) (a1 : BA) (a2 : LB) (a3 : LN) (o0_3 : Int) (o2 : BA) (o3_1 : LU) (r : BA × LU × LB × LN) : Prop :=
  Ok Tryz.prog G tt 69 7 (Ret Tryz.prog [] (fun y H => ua Tryz.prog G 7 H y (.tup []) ⟨10, [(0, .var 96 [(.ptr 1 1 0), (.int .i64 o0_1.kind), (.str o0_1.text), (.sl 1 false (o0_1.gaps.map sc)), (.sl 4 false (o0_1.kids.map Node.cells)), (.int .i64 a0), (.str a1), (.bs 1 5 8 0 r.2.2.1.length), (.bs 4 6 9 0 r.2.2.2.length), (.int .i64 o0_3)]), (1, .var 70 [(.fn 41 [(.ptr 2 2 0), (.ptr 3 3 0)])]), (2, .var 9 [(.str r.1)]), (3, .var 60 [(.optr 3 3 0), (.bs 1 4 7 0 r.2.1.length)]), (7, .row 5 (r.2.1.map c8).flatten), (8, .row 9 (r.2.2.1.map sc).flatten), (9, .row 26 (r.2.2.2.map Node.cells).flatten)]⟩)) (.go [] (vc [53] Tryz.f92 53) [] (.n (.ptr 0 0 0) (.n (.str t1) .z .z) (.n .undef (.n (.str t4) .z .z) .z)) 10 [(0, .var 96 [(.ptr 1 1 0), (.int .i64 o0_1.kind), (.str o0_1.text), (.sl 1 false (o0_1.gaps.map sc)), (.sl 4 false (o0_1.kids.map Node.cells)), (.int .i64 a0), (.str a1), (.bs 1 5 8 0 a2.length), (.bs 4 6 9 0 a3.length), (.int .i64 o0_3)]), (1, .var 70 [(.fn 41 [(.ptr 2 2 0), (.ptr 3 3 0)])]), (2, .var 9 [(.str o2)]), (3, .var 60 [(.optr 3 3 0), (.bs 1 4 7 0 o3_1.length)]), (7, .row 5 (o3_1.map c8).flatten), (8, .row 9 (a2.map sc).flatten), (9, .row 26 (a3.map Node.cells).flatten)])
@[reducible] def qbt (a0 : LN) (j0 : Nat) (t1 : BA) (o0_1 : Node) (a1 : Int) (a2 : BA) (a3 : LB) (a4 : LN) (o0_3 : Int) (o2 : BA) (o3_1 : LU) (r : BA × LU × LB × LN × Int) : Prop :=
  ∀ (l0 : LN), l0.drop j0 = a0 → j0 ≤ l0.length → l0.length ≤ 9223372036854775807 → Ok Tryz.prog G tt 146 7 (Ret Tryz.prog [] (fun y H => ua Tryz.prog G 7 H y (.tup []) ⟨10, [(0, .var 96 [(.ptr 1 1 0), (.int .i64 o0_1.kind), (.str o0_1.text), (.sl 1 false (o0_1.gaps.map sc)), (.sl 4 false (o0_1.kids.map Node.cells)), (.int .i64 a1), (.str a2), (.bs 1 5 8 0 r.2.2.1.length), (.bs 4 6 9 0 r.2.2.2.1.length), (.int .i64 r.2.2.2.2)]), (1, .var 70 [(.fn 41 [(.ptr 2 2 0), (.ptr 3 3 0)])]), (2, .var 9 [(.str r.1)]), (3, .var 60 [(.optr 3 3 0), (.bs 1 4 7 0 r.2.1.length)]), (7, .row 5 (r.2.1.map c8).flatten), (8, .row 9 (r.2.2.1.map sc).flatten), (9, .row 26 (r.2.2.2.1.map Node.cells).flatten)]⟩)) (.again (wu [22, 33] Tryz.f93 0).1 (wu [22, 33] Tryz.f93 0).2 (.n (.ptr 0 0 0) (.n (.str t1) .z (.n .undef (.n .undef (.n (.int .i64 ((l0.map Node.cells).length : Int)) .z .z) .z) .z)) (.n .undef (.n .undef (.n .undef (.n (.sl 4 false (l0.map Node.cells)) .z .z) .z) .z) (.n .undef (.n .undef (.n (.int .i64 ((j0 : Nat) : Int)) .z .z) .z) .z))) 10 [(0, .var 96 [(.ptr 1 1 0), (.int .i64 o0_1.kind), (.str o0_1.text), (.sl 1 false (o0_1.gaps.map sc)), (.sl 4 false (o0_1.kids.map Node.cells)), (.int .i64 a1), (.str a2), (.bs 1 5 8 0 a3.length), (.bs 4 6 9 0 a4.length), (.int .i64 o0_3)]), (1, .var 70 [(.fn 41 [(.ptr 2 2 0), (.ptr 3 3 0)])]), (2, .var 9 [(.str o2)]), (3, .var 60 [(.optr 3 3 0), (.bs 1 4 7 0 o3_1.length)]), (7, .row 5 (o3_1.map c8).flatten), (8, .row 9 (a3.map sc).flatten), (9, .row 26 (a4.map Node.cells).flatten)])
@[reducible] def qdv (t2 : Bool) (o0_1 : Node) (a0 : Int) (a1 : BA) (a2 : LB) (a3 : LN) (o0_3 : Int) (o2 : BA) (o3_1 : LU) (r : BA × LU × LB × LN) : Prop :=
  Ok Tryz.prog G tt 25 7 (Ret Tryz.prog [] (fun y H => ua Tryz.prog G 7 H y (.tup []) ⟨10, [(0, .var 96 [(.ptr 1 1 0), (.int .i64 o0_1.kind), (.str o0_1.text), (.sl 1 false (o0_1.gaps.map sc)), (.sl 4 false (o0_1.kids.map Node.cells)), (.int .i64 a0), (.str a1), (.bs 1 5 8 0 r.2.2.1.length), (.bs 4 6 9 0 r.2.2.2.length), (.int .i64 o0_3)]), (1, .var 70 [(.fn 41 [(.ptr 2 2 0), (.ptr 3 3 0)])]), (2, .var 9 [(.str r.1)]), (3, .var 60 [(.optr 3 3 0), (.bs 1 4 7 0 r.2.1.length)]), (7, .row 5 (r.2.1.map c8).flatten), (8, .row 9 (r.2.2.1.map sc).flatten), (9, .row 26 (r.2.2.2.map Node.cells).flatten)]⟩)) (.again (wu [1000001] Tryz.f122 0).1 (wu [1000001] Tryz.f122 0).2 (.n (.ptr 0 0 0) .z (.n (.bool t2) .z .z)) 10 [(0, .var 96 [(.ptr 1 1 0), (.int .i64 o0_1.kind), (.str o0_1.text), (.sl 1 false (o0_1.gaps.map sc)), (.sl 4 false (o0_1.kids.map Node.cells)), (.int .i64 a0), (.str a1), (.bs 1 5 8 0 a2.length), (.bs 4 6 9 0 a3.length), (.int .i64 o0_3)]), (1, .var 70 [(.fn 41 [(.ptr 2 2 0), (.ptr 3 3 0)])]), (2, .var 9 [(.str o2)]), (3, .var 60 [(.optr 3 3 0), (.bs 1 4 7 0 o3_1.length)]), (7, .row 5 (o3_1.map c8).flatten), (8, .row 9 (a2.map sc).flatten), (9, .row 26 (a3.map Node.cells).flatten)])
@[reducible] def qdx (t1 : Int) (o0_1 : Node) (a0 : Int) (a1 : BA) (a2 : LB) (a3 : LN) (o0_3 : Int) (o2 : BA) (o3_1 : LU) (r : BA × LU × LB × LN × Int) : Prop :=
  Ok Tryz.prog G tt 55 7 (Ret Tryz.prog [] (fun y H => ua Tryz.prog G 7 H y (.tup []) ⟨10, [(0, .var 96 [(.ptr 1 1 0), (.int .i64 o0_1.kind), (.str o0_1.text), (.sl 1 false (o0_1.gaps.map sc)), (.sl 4 false (o0_1.kids.map Node.cells)), (.int .i64 a0), (.str a1), (.bs 1 5 8 0 r.2.2.1.length), (.bs 4 6 9 0 r.2.2.2.1.length), (.int .i64 r.2.2.2.2)]), (1, .var 70 [(.fn 41 [(.ptr 2 2 0), (.ptr 3 3 0)])]), (2, .var 9 [(.str r.1)]), (3, .var 60 [(.optr 3 3 0), (.bs 1 4 7 0 r.2.1.length)]), (7, .row 5 (r.2.1.map c8).flatten), (8, .row 9 (r.2.2.1.map sc).flatten), (9, .row 26 (r.2.2.2.1.map Node.cells).flatten)]⟩)) (.again (wu [] Tryz.f125 0).1 (wu [] Tryz.f125 0).2 (.n (.ptr 0 0 0) (.n (.int .i64 t1) .z .z) .z) 10 [(0, .var 96 [(.ptr 1 1 0), (.int .i64 o0_1.kind), (.str o0_1.text), (.sl 1 false (o0_1.gaps.map sc)), (.sl 4 false (o0_1.kids.map Node.cells)), (.int .i64 a0), (.str a1), (.bs 1 5 8 0 a2.length), (.bs 4 6 9 0 a3.length), (.int .i64 o0_3)]), (1, .var 70 [(.fn 41 [(.ptr 2 2 0), (.ptr 3 3 0)])]), (2, .var 9 [(.str o2)]), (3, .var 60 [(.optr 3 3 0), (.bs 1 4 7 0 o3_1.length)]), (7, .row 5 (o3_1.map c8).flatten), (8, .row 9 (a2.map sc).flatten), (9, .row 26 (a3.map Node.cells).flatten)])
@[reducible] def Ki (a0 : LN) (o0_1 : Node) (a1 : Int) (a2 : BA) (a3 : LB) (a4 : LN) (o0_3 : Int) (o2 : BA) (o3_1 : LU) (r : BA × LU × LB × LN) : Prop :=
  ∀ (l0 : LN) (j0 : Nat), l0.drop j0 = a0 → j0 ≤ l0.length → l0.length ≤ 9223372036854775807 → Ok Tryz.prog G tt 69 7 (Ret Tryz.prog [] (fun y H => ua Tryz.prog G 7 H y (.tup []) ⟨10, [(0, .var 96 [(.ptr 1 1 0), (.int .i64 o0_1.kind), (.str o0_1.text), (.sl 1 false (o0_1.gaps.map sc)), (.sl 4 false (o0_1.kids.map Node.cells)), (.int .i64 a1), (.str a2), (.bs 1 5 8 0 r.2.2.1.length), (.bs 4 6 9 0 r.2.2.2.length), (.int .i64 o0_3)]), (1, .var 70 [(.fn 41 [(.ptr 2 2 0), (.ptr 3 3 0)])]), (2, .var 9 [(.str r.1)]), (3, .var 60 [(.optr 3 3 0), (.bs 1 4 7 0 r.2.1.length)]), (7, .row 5 (r.2.1.map c8).flatten), (8, .row 9 (r.2.2.1.map sc).flatten), (9, .row 26 (r.2.2.2.map Node.cells).flatten)]⟩)) (.again (wu [53] Tryz.f92 0).1 (wu [53] Tryz.f92 0).2 (.n (.ptr 0 0 0) (.n .undef (.n .undef (.n .undef (.n .undef (.n .undef (.n (.int .i64 ((l0.map Node.cells).length : Int)) .z .z) .z) .z) .z) .z) .z) (.n .undef (.n .undef (.n .undef (.n .undef (.n .undef (.n (.int .i64 ((j0 : Nat) : Int)) .z .z) .z) .z) .z) .z) (.n .undef .z (.n .undef .z (.n .undef .z (.n (.sl 4 false (l0.map Node.cells)) .z .z)))))) 15 [(0, .var 96 [(.ptr 1 1 0), (.int .i64 o0_1.kind), (.str o0_1.text), (.sl 1 false (o0_1.gaps.map sc)), (.sl 4 false (o0_1.kids.map Node.cells)), (.int .i64 a1), (.str a2), (.bs 1 5 13 0 a3.length), (.bs 4 6 14 0 a4.length), (.int .i64 o0_3)]), (1, .var 70 [(.fn 41 [(.ptr 2 2 0), (.ptr 3 3 0)])]), (2, .var 9 [(.str o2)]), (3, .var 60 [(.optr 3 3 0), (.bs 1 4 12 0 o3_1.length)]), (12, .row 5 (o3_1.map c8).flatten), (13, .row 9 (a3.map sc).flatten), (14, .row 26 (a4.map Node.cells).flatten)])
@[reducible] def qax (a0 : LN) (j0 : Nat) (t1 : BA) (o0_1 : Node) (a1 : Int) (a2 : BA) (a3 : LB) (a4 : LN) (o0_3 : Int) (o2 : BA) (o3_1 : LU) (r : BA × LU × LB × LN × Int) : Prop :=
  ∀ (l0 : LN), l0.drop (j0 + 1) = a0 → j0 + 1 ≤ l0.length → l0.length ≤ 9223372036854775807 → Ok Tryz.prog G tt 146 7 (Ret Tryz.prog [] (fun y H => ua Tryz.prog G 7 H y (.tup []) ⟨10, [(0, .var 96 [(.ptr 1 1 0), (.int .i64 o0_1.kind), (.str o0_1.text), (.sl 1 false (o0_1.gaps.map sc)), (.sl 4 false (o0_1.kids.map Node.cells)), (.int .i64 a1), (.str a2), (.bs 1 5 8 0 r.2.2.1.length), (.bs 4 6 9 0 r.2.2.2.1.length), (.int .i64 r.2.2.2.2)]), (1, .var 70 [(.fn 41 [(.ptr 2 2 0), (.ptr 3 3 0)])]), (2, .var 9 [(.str r.1)]), (3, .var 60 [(.optr 3 3 0), (.bs 1 4 7 0 r.2.1.length)]), (7, .row 5 (r.2.1.map c8).flatten), (8, .row 9 (r.2.2.1.map sc).flatten), (9, .row 26 (r.2.2.2.1.map Node.cells).flatten)]⟩)) (.go [] (vc [22, 33] Tryz.f93 22) [] (.n (.ptr 0 0 0) (.n (.str t1) .z (.n .undef (.n .undef (.n (.int .i64 ((l0.map Node.cells).length : Int)) .z .z) .z) .z)) (.n .undef (.n .undef (.n .undef (.n (.sl 4 false (l0.map Node.cells)) .z .z) .z) .z) (.n .undef (.n .undef (.n (.int .i64 ((j0 : Nat) : Int)) .z .z) .z) .z))) 13 [(0, .var 96 [(.ptr 1 1 0), (.int .i64 o0_1.kind), (.str o0_1.text), (.sl 1 false (o0_1.gaps.map sc)), (.sl 4 false (o0_1.kids.map Node.cells)), (.int .i64 a1), (.str a2), (.bs 1 5 11 0 a3.length), (.bs 4 6 12 0 a4.length), (.int .i64 o0_3)]), (1, .var 70 [(.fn 41 [(.ptr 2 2 0), (.ptr 3 3 0)])]), (2, .var 9 [(.str o2)]), (3, .var 60 [(.optr 3 3 0), (.bs 1 4 10 0 o3_1.length)]), (10, .row 5 (o3_1.map c8).flatten), (11, .row 9 (a3.map sc).flatten), (12, .row 26 (a4.map Node.cells).flatten)])
@[reducible] def qdw (o0_1 : Node) (a0 : Int) (a1 : BA) (a2 : LB) (a3 : LN) (o0_3 : Int) (o2 : BA) (o3_1 : LU) (r : BA × LU × LB × LN) : Prop :=
  Ok Tryz.prog G tt 25 7 (Ret Tryz.prog [] (fun y H => ua Tryz.prog G 7 H y (.tup []) ⟨10, [(0, .var 96 [(.ptr 1 1 0), (.int .i64 o0_1.kind), (.str o0_1.text), (.sl 1 false (o0_1.gaps.map sc)), (.sl 4 false (o0_1.kids.map Node.cells)), (.int .i64 a0), (.str a1), (.bs 1 5 8 0 r.2.2.1.length), (.bs 4 6 9 0 r.2.2.2.length), (.int .i64 o0_3)]), (1, .var 70 [(.fn 41 [(.ptr 2 2 0), (.ptr 3 3 0)])]), (2, .var 9 [(.str r.1)]), (3, .var 60 [(.optr 3 3 0), (.bs 1 4 7 0 r.2.1.length)]), (7, .row 5 (r.2.1.map c8).flatten), (8, .row 9 (r.2.2.1.map sc).flatten), (9, .row 26 (r.2.2.2.map Node.cells).flatten)]⟩)) (.go [] (qrk [1000001] Tryz.f122 1) [] (.n (.ptr 0 0 0) .z .z) 15 [(0, .var 96 [(.ptr 1 1 0), (.int .i64 o0_1.kind), (.str o0_1.text), (.sl 1 false (o0_1.gaps.map sc)), (.sl 4 false (o0_1.kids.map Node.cells)), (.int .i64 a0), (.str a1), (.bs 1 5 13 0 a2.length), (.bs 4 6 14 0 a3.length), (.int .i64 o0_3)]), (1, .var 70 [(.fn 41 [(.ptr 2 2 0), (.ptr 3 3 0)])]), (2, .var 9 [(.str o2)]), (3, .var 60 [(.optr 3 3 0), (.bs 1 4 12 0 o3_1.length)]), (12, .row 5 (o3_1.map c8).flatten), (13, .row 9 (a2.map sc).flatten), (14, .row 26 (a3.map Node.cells).flatten)])
theorem wh : PC5 qi4 qaf ∧ PC9 qgz qc0 ∧ PC10 qg0 Wm ∧ PC9 qnu wz ∧ PC9 qi5 qbk ∧ PC9 qdx Z1 ∧ PC8 qi3 qae ∧ PC9 qdv Zb ∧ PC8 qdw Ys ∧ PC11 qbt Q3 ∧ PC11 qax Z0 ∧ PC9 qav Jz ∧ PC10 Yp ub ∧ PC9 Ki w8 ∧ PC9 Ww Jc := by
 refine qaf.mutual_partial_correctness qi4 qgz qg0 qnu qi5 qdx qi3 qdv qdw qbt qax qav Yp Ki Ww (fun qc0 Jz Jc qn0 qe5 qd6 a0 a4 a1 a2 a3 r h => ?_) (fun Wm wz qbk qae Q3 qdz y9 qjd qcz Wd a0 a2 a0_n a3 a4 a5 a6 a7 a1 r h => ?_) (fun wz y9 a0 a3 a0_n a4 a5 a6 a7 a8 a1 a2 r h => ?_) (fun qaf qjc a0 a2 a0_n a3 a4 a5 a6 a7 a1 r h => ?_) (fun Z1 qad a0 a2 a0_n a3 a4 a5 a6 a7 a1 r h => ?_) (fun wz Z1 y9 qad t1 o0_1 a0 a1 a2 a3 o0_3 o2 o3_1 r h => ?_) (fun Zb qac a0 a1 a0_n a2 a3 a4 a5 a6 r h => ?_) (fun wz Ys y9 qdy t2 o0_1 a0 a1 a2 a3 o0_3 o2 o3_1 r h => ?_) (fun Zb qac o0_1 a0 a1 a2 a3 o0_3 o2 o3_1 r h => ?_) (fun Z0 qa4 a0 j0 t1 o0_1 a1 a2 a3 a4 o0_3 o2 o3_1 r h => ?_) (fun wz Q3 y9 Wd a0 j0 t1 o0_1 a1 a2 a3 a4 o0_3 o2 o3_1 r h => ?_) (fun Wm wz ub qdz y9 Qk a0 a2 a0_n a3 a4 a5 a6 a7 a1 r h => ?_) (fun w8 Jj t1 t4 o0_1 a0 a1 a2 a3 o0_3 o2 o3_1 r h => ?_) (fun wz w8 y9 Jj a0 o0_1 a1 a2 a3 a4 o0_3 o2 o3_1 r h => ?_) (fun wz qae y9 qcz a0 a2 a0_n a3 a4 a5 a6 a7 a1 r h => ?_)
 ·unfold qa at h
  refine ⟨?_, (zm rfl rfl (zm rfl rfl (zm rfl rfl (jj zv rfl jk)))), (qj (qj (qj (zb zv zd)))), (zo rfl (zo rfl (zo rfl (jp zv jq)))), (qj (qj (qj (zb zv zd)))), rfl, rfl, rfl, rfl⟩
  refine y8 (T := tt) (N := 41) (rs := [.cell 8 26]) (fun vs w => by simp) Tryz.func46 rfl rfl rfl (by kernel_rfl) (by kernel_rfl) ?_
  refine kr [23, 30] ?_
  obtain ⟨x1, hx, h⟩ := bind_some h
  refine qt (qbi _ _ hx) ?_
  refine kr [23, 30] ?_
  refine qg (fun hb => ?_) (fun hb => ?_)
  ·replace h := qw hb h
   refine kr [23, 30] ?_
   obtain ⟨x2, hx, h⟩ := bind_some h
   refine qb (ACalls.ghost (e := 9) (ACalls.ghost (e := 26) (ACalls.wkg (AC.go (objs := [(0, .var 70 [(.fn 41 [(.ptr 1 1 0), (.ptr 2 2 0)])]), (1, .var 9 [(.str a0)]), (2, .var 60 [(.optr 2 2 0), (.bs 1 3 3 0 a4.length)]), (3, .row 5 (a4.map c8).flatten), (4, .var 26 (zp a1)), (5, .var 26 [(.int .i64 0), (.str ⟨#[]⟩), (.sl 0 true []), (.sl 0 true [])]), (6, .var 96 [(.ptr 0 0 0), (.int .i64 a1.kind), (.str a1.text), (.sl 1 false (a1.gaps.map sc)), (.sl 4 false (a1.kids.map Node.cells)), (.int .i64 a1.kind), (.str a1.text), (.bs 1 7 7 0 ([] : LB).length), (.bs 4 8 8 0 ([] : LN).length), (.int .i64 a3)]), (7, .row 9 (([] : LB).map sc).flatten), (8, .row 26 (([] : LN).map Node.cells).flatten)]) (xs := [(.ptr 6 6 0), (.str a2)]) (qd6 _ _ _ _ _ _ _ _ _ _ hx) [6, 0, 1, 2, 3, 7, 8] [6, 0, 1, 2, 3, 7, 8] rfl rfl rfl rfl rfl rfl rfl rfl rfl) (qi (qn _) (qi (qn _) z6)) (qe (qe (qe (qe (qe (qe (jb (qd (ql _) (qd (ql _) (qd (ql _) (qd (ql _) (qd (ql _) (qd (ql _) (qd (ql _) (qd (zg rfl) (qd (zg rfl) (qd (ql _) js)))))))))) (zt _))))))))))) ?_
   refine kr [23, 30] ?_
   exact qz (by kernel_rfl) rfl lQ (qf3 _ _ _ _ _ _ _ _ _ h)
  ·replace h := qx hb h
   refine kr [23, 30] ?_
   obtain ⟨x3, hx, h⟩ := bind_some h
   refine qt (qbi _ _ hx) ?_
   refine kr [23, 30] ?_
   refine qg (fun hb => ?_) (fun hb => ?_)
   ·replace h := qw hb h
    refine kr [23, 30] ?_
    obtain ⟨x4, hx, h⟩ := bind_some h
    refine qb (ACalls.ghost (e := 9) (ACalls.ghost (e := 26) (ACalls.wkg (AC.go (objs := [(0, .var 70 [(.fn 41 [(.ptr 1 1 0), (.ptr 2 2 0)])]), (1, .var 9 [(.str a0)]), (2, .var 60 [(.optr 2 2 0), (.bs 1 3 3 0 a4.length)]), (3, .row 5 (a4.map c8).flatten), (4, .var 26 (zp a1)), (5, .var 26 [(.int .i64 0), (.str ⟨#[]⟩), (.sl 0 true []), (.sl 0 true [])]), (6, .var 96 [(.ptr 0 0 0), (.int .i64 a1.kind), (.str a1.text), (.sl 1 false (a1.gaps.map sc)), (.sl 4 false (a1.kids.map Node.cells)), (.int .i64 a1.kind), (.str a1.text), (.bs 1 7 7 0 ([] : LB).length), (.bs 4 8 8 0 ([] : LN).length), (.int .i64 a3)]), (7, .row 9 (([] : LB).map sc).flatten), (8, .row 26 (([] : LN).map Node.cells).flatten)]) (xs := [(.ptr 6 6 0), (.str a2)]) (qe5 _ _ _ _ _ _ _ _ _ _ hx) [6, 0, 1, 2, 3, 7, 8] [6, 0, 1, 2, 3, 7, 8] rfl rfl rfl rfl rfl rfl rfl rfl rfl) (qi (qn _) (qi (qn _) z6)) (qe (qe (qe (qe (qe (qe (jb (qd (ql _) (qd (ql _) (qd (ql _) (qd (ql _) (qd (ql _) (qd (ql _) (qd (ql _) (qd (zg rfl) (qd (zg rfl) (qd (ql _) js)))))))))) (zt _))))))))))) ?_
    refine kr [23, 30] ?_
    exact qz (by kernel_rfl) rfl lQ (qf2 _ _ _ _ _ _ _ _ _ h)
   ·replace h := qx hb h
    refine kr [23, 30] ?_
    obtain ⟨x5, hx, h⟩ := bind_some h
    refine qb (ACalls.ghost (e := 9) (ACalls.ghost (e := 26) (ACalls.wkg (AC.go (objs := [(0, .var 70 [(.fn 41 [(.ptr 1 1 0), (.ptr 2 2 0)])]), (1, .var 9 [(.str a0)]), (2, .var 60 [(.optr 2 2 0), (.bs 1 3 3 0 a4.length)]), (3, .row 5 (a4.map c8).flatten), (4, .var 26 (zp a1)), (5, .var 26 [(.int .i64 0), (.str ⟨#[]⟩), (.sl 0 true []), (.sl 0 true [])]), (6, .var 96 [(.ptr 0 0 0), (.int .i64 a1.kind), (.str a1.text), (.sl 1 false (a1.gaps.map sc)), (.sl 4 false (a1.kids.map Node.cells)), (.int .i64 a1.kind), (.str a1.text), (.bs 1 7 7 0 ([] : LB).length), (.bs 4 8 8 0 ([] : LN).length), (.int .i64 a3)]), (7, .row 9 (([] : LB).map sc).flatten), (8, .row 26 (([] : LN).map Node.cells).flatten)]) (xs := [(.ptr 6 6 0), (.str a2)]) (qn0 _ _ _ _ _ _ _ _ _ _ hx) [6, 0, 1, 2, 3, 7, 8] [6, 0, 1, 2, 3, 7, 8] rfl rfl rfl rfl rfl rfl rfl rfl rfl) (qi (qn _) (qi (qn _) z6)) (qe (qe (qe (qe (qe (qe (jb (qd (ql _) (qd (ql _) (qd (ql _) (qd (ql _) (qd (ql _) (qd (ql _) (qd (ql _) (qd (zg rfl) (qd (zg rfl) (qd (ql _) js)))))))))) (zt _))))))))))) ?_
    refine kr [23, 30] ?_
    exact qz (by kernel_rfl) rfl lQ (qf2 _ _ _ _ _ _ _ _ _ h)
 ·unfold qa at h
  refine ⟨?_, (zm rfl rfl (zm rfl rfl (zm rfl rfl (zm rfl rfl (jj zv rfl (jj zr rfl (jj qk rfl jk))))))), (qj (qj (qj (qj (zb zv (zb zr (zb qk zd))))))), (zo rfl (zo rfl (zo rfl (zo rfl (jp zv (jp zr (jp qk jq))))))), (qj (qj (qj (qj (zb zv (zb zr (zb qk zd))))))), rfl, rfl, rfl, rfl⟩
  refine y8 (T := tt) (N := 146) (rs := []) (fun vs w => by simp) Tryz.func93 rfl rfl rfl (by kernel_rfl) (by kernel_rfl) ?_
  refine kr [22, 33] ?_
  refine qg (fun hb => ?_) (fun hb => ?_)
  ·replace h := qw hb h
   refine kr [22, 33] ?_
   refine qxk 16 rfl (fun hm => ?_)
   exact wq (by kernel_rfl) lQ (Wd _ _ _ _ _ _ _ _ _ _ _ _ h a0_n.kids rfl (Nat.zero_le _) (qmj hm))
  ·replace h := qx hb h
   refine kr [22, 33] ?_
   refine qg (fun hb => ?_) (fun hb => ?_)
   ·replace h := qw hb h
    refine kr [22, 33] ?_
    obtain ⟨x37, hx, h⟩ := bind_some h
    refine qb (AC.g9 (jn _ _ _ _ _ _ _ _ _ _ _ hx) [0, 1, 2, 3, 4, 5, 6] [0, 1, 2, 3, 4, 5, 6]) ?_
    refine kr [22, 33] ?_
    obtain ⟨x38, hx, h⟩ := bind_some h
    refine qb (AC.g9 (jn _ _ _ _ _ _ _ _ _ _ _ hx) [0, 1, 2, 3, 4, 5, 6] [0, 1, 2, 3, 7, 8, 6]) ?_
    refine kr [22, 33] ?_
    obtain ⟨x39, hx, h⟩ := bind_some h
    refine qb (AC.g9 (y9 _ _ _ _ _ _ _ _ _ _ hx) [0, 1, 2, 3, 4, 5, 6] [0, 1, 2, 3, 9, 10, 6]) ?_
    refine kr [22, 33] ?_
    obtain ⟨x40, hx, h⟩ := bind_some h
    refine qb (AC.g9 (y9 _ _ _ _ _ _ _ _ _ _ hx) [0, 1, 2, 3, 4, 5, 6] [0, 1, 2, 3, 11, 10, 12]) ?_
    refine kr [22, 33] ?_
    obtain ⟨x41, hx, h⟩ := bind_some h
    refine qb (AC.g9 (y9 _ _ _ _ _ _ _ _ _ _ hx) [0, 1, 2, 3, 4, 5, 6] [0, 1, 2, 3, 13, 10, 14]) ?_
    refine kr [22, 33] ?_
    cases h
    exact je env rfl (tS [some 0, some 1, some 2, some 3, some 4, some 5, some 6] (sV (lS (lS (lS (lS (lS (lS (lS (lS (lS (lS lN)))))))))) (sV (lS lN) (sV (lS lN) (sV (lS (lS lN)) (sR zv (sR zr (sR qk qy))))))) (ju jc))
   ·replace h := qx hb h
    refine kr [22, 33] ?_
    refine qg (fun hb => ?_) (fun hb => ?_)
    ·replace h := qw hb h
     refine kr [22, 33] ?_
     obtain ⟨x42, hx, h⟩ := bind_some h
     refine qb (AC.g9 (jn _ _ _ _ _ _ _ _ _ _ _ hx) [0, 1, 2, 3, 4, 5, 6] [0, 1, 2, 3, 4, 5, 6]) ?_
     refine kr [22, 33] ?_
     obtain ⟨x43, hx, h⟩ := bind_some h
     refine qb (AC.g9 (qcz _ _ _ _ _ _ _ _ _ hx) [0, 1, 2, 3, 4, 5, 6] [0, 1, 2, 3, 7, 8, 6]) ?_
     refine kr [22, 33] ?_
     cases h
     exact je env rfl (tS [some 0, some 1, some 2, some 3, some 4, some 5, some 6] (sV (lS (lS (lS (lS (lS (lS (lS (lS (lS (lS lN)))))))))) (sV (lS lN) (sV (lS lN) (sV (lS (lS lN)) (sR zv (sR zr (sR qk qy))))))) (ju jc))
    ·replace h := qx hb h
     refine kr [22, 33] ?_
     refine qg (fun hb => ?_) (fun hb => ?_)
     ·replace h := qw hb h
      refine kr [22, 33] ?_
      obtain ⟨x44, hx, h⟩ := bind_some h
      refine qb (AC.g9 (jn _ _ _ _ _ _ _ _ _ _ _ hx) [0, 1, 2, 3, 4, 5, 6] [0, 1, 2, 3, 4, 5, 6]) ?_
      refine kr [22, 33] ?_
      obtain ⟨x45, hx, h⟩ := bind_some h
      refine qb (AC.g9 (y9 _ _ _ _ _ _ _ _ _ _ hx) [0, 1, 2, 3, 4, 5, 6] [0, 1, 2, 3, 7, 8, 6]) ?_
      refine kr [22, 33] ?_
      cases h
      exact je env rfl (tS [some 0, some 1, some 2, some 3, some 4, some 5, some 6] (sV (lS (lS (lS (lS (lS (lS (lS (lS (lS (lS lN)))))))))) (sV (lS lN) (sV (lS lN) (sV (lS (lS lN)) (sR zv (sR zr (sR qk qy))))))) (ju jc))
     ·replace h := qx hb h
      refine kr [22, 33] ?_
      refine qg (fun hb => ?_) (fun hb => ?_)
      ·replace h := qw hb h
       refine kr [22, 33] ?_
       obtain ⟨x46, hx, h⟩ := bind_some h
       refine qb (AC.g9 (jn _ _ _ _ _ _ _ _ _ _ _ hx) [0, 1, 2, 3, 4, 5, 6] [0, 1, 2, 3, 4, 5, 6]) ?_
       refine kr [22, 33] ?_
       cases h
       exact je env rfl (tS [some 0, some 1, some 2, some 3, some 4, some 5, some 6] (sV (lS (lS (lS (lS (lS (lS (lS (lS (lS (lS lN)))))))))) (sV (lS lN) (sV (lS lN) (sV (lS (lS lN)) (sR zv (sR zr (sR qk qy))))))) (ju jc))
      ·replace h := qx hb h
       refine kr [22, 33] ?_
       refine qg (fun hb => ?_) (fun hb => ?_)
       ·replace h := qw hb h
        refine kr [22, 33] ?_
        obtain ⟨x47, hx, h⟩ := bind_some h
        refine qb (AC.g9 (jn _ _ _ _ _ _ _ _ _ _ _ hx) [0, 1, 2, 3, 4, 5, 6] [0, 1, 2, 3, 4, 5, 6]) ?_
        refine kr [22, 33] ?_
        obtain ⟨x48, hx, h⟩ := bind_some h
        refine qb (AC.g9 (qjd _ _ _ _ _ _ _ _ _ _ hx) [0, 1, 2, 3, 4, 5, 6] [0, 1, 2, 3, 7, 8, 6]) ?_
        refine kr [22, 33] ?_
        cases h
        exact je env rfl (tS [some 0, some 1, some 2, some 3, some 4, some 5, some 6] (sV (lS (lS (lS (lS (lS (lS (lS (lS (lS (lS lN)))))))))) (sV (lS lN) (sV (lS lN) (sV (lS (lS lN)) (sR zv (sR zr (sR qk qy))))))) (ju jc))
       ·replace h := qx hb h
        refine kr [22, 33] ?_
        refine qg (fun hb => ?_) (fun hb => ?_)
        ·replace h := qw hb h
         refine kr [22, 33] ?_
         obtain ⟨x49, hx, h⟩ := bind_some h
         refine qb (AC.g9 (jn _ _ _ _ _ _ _ _ _ _ _ hx) [0, 1, 2, 3, 4, 5, 6] [0, 1, 2, 3, 4, 5, 6]) ?_
         refine kr [22, 33] ?_
         obtain ⟨x50, hx, h⟩ := bind_some h
         refine qb (AC.g9 (jn _ _ _ _ _ _ _ _ _ _ _ hx) [0, 1, 2, 3, 4, 5, 6] [0, 1, 2, 3, 7, 8, 6]) ?_
         refine kr [22, 33] ?_
         obtain ⟨x51, hx, h⟩ := bind_some h
         refine qb (AC.g9 (y9 _ _ _ _ _ _ _ _ _ _ hx) [0, 1, 2, 3, 4, 5, 6] [0, 1, 2, 3, 9, 10, 6]) ?_
         refine kr [22, 33] ?_
         obtain ⟨x52, hx, h⟩ := bind_some h
         refine qb (AC.g9 (jn _ _ _ _ _ _ _ _ _ _ _ hx) [0, 1, 2, 3, 4, 5, 6] [0, 1, 2, 3, 11, 10, 12]) ?_
         refine kr [22, 33] ?_
         obtain ⟨x53, hx, h⟩ := bind_some h
         refine qb (AC.g9 (qjd _ _ _ _ _ _ _ _ _ _ hx) [0, 1, 2, 3, 4, 5, 6] [0, 1, 2, 3, 13, 14, 12]) ?_
         refine kr [22, 33] ?_
         cases h
         exact je env rfl (tS [some 0, some 1, some 2, some 3, some 4, some 5, some 6] (sV (lS (lS (lS (lS (lS (lS (lS (lS (lS (lS lN)))))))))) (sV (lS lN) (sV (lS lN) (sV (lS (lS lN)) (sR zv (sR zr (sR qk qy))))))) (ju jc))
        ·replace h := qx hb h
         refine kr [22, 33] ?_
         refine qg (fun hb => ?_) (fun hb => ?_)
         ·replace h := qw hb h
          refine kr [22, 33] ?_
          refine qg (fun hb => ?_) (fun hb => ?_)
          ·replace h := qw hb h
           refine kr [22, 33] ?_
           obtain ⟨x54, hx, h⟩ := bind_some h
           refine qb (AC.g9 (jn _ _ _ _ _ _ _ _ _ _ _ hx) [0, 1, 2, 3, 4, 5, 6] [0, 1, 2, 3, 4, 5, 6]) ?_
           refine kr [22, 33] ?_
           obtain ⟨x55, hx, h⟩ := bind_some h
           refine qb (AC.g9 (jn _ _ _ _ _ _ _ _ _ _ _ hx) [0, 1, 2, 3, 4, 5, 6] [0, 1, 2, 3, 7, 8, 6]) ?_
           refine kr [22, 33] ?_
           cases h
           exact je env rfl (tS [some 0, some 1, some 2, some 3, some 4, some 5, some 6] (sV (lS (lS (lS (lS (lS (lS (lS (lS (lS (lS lN)))))))))) (sV (lS lN) (sV (lS lN) (sV (lS (lS lN)) (sR zv (sR zr (sR qk qy))))))) (ju jc))
          ·replace h := qx hb h
           refine kr [22, 33] ?_
           cases h
           exact je env rfl (tS [some 0, some 1, some 2, some 3, some 4, some 5, some 6] (sV (lS (lS (lS (lS (lS (lS (lS (lS (lS (lS lN)))))))))) (sV (lS lN) (sV (lS lN) (sV (lS (lS lN)) (sR zv (sR zr (sR qk qy))))))) (ju jc))
         ·replace h := qx hb h
          refine kr [22, 33] ?_
          refine qg (fun hb => ?_) (fun hb => ?_)
          ·replace h := qw hb h
           refine kr [22, 33] ?_
           obtain ⟨x56, hx, h⟩ := bind_some h
           refine qb (AC.g9 (qdz _ _ _ _ _ _ _ _ _ _ _ hx) [0, 1, 2, 3, 4, 5, 6] [0, 1, 2, 3, 4, 5, 6]) ?_
           refine kr [22, 33] ?_
           cases h
           exact je env rfl (tS [some 0, some 1, some 2, some 3, some 4, some 5, some 6] (sV (lS (lS (lS (lS (lS (lS (lS (lS (lS (lS lN)))))))))) (sV (lS lN) (sV (lS lN) (sV (lS (lS lN)) (sR zv (sR zr (sR qk qy))))))) (ju jc))
          ·replace h := qx hb h
           refine kr [22, 33] ?_
           refine qg (fun hb => ?_) (fun hb => ?_)
           ·replace h := qw hb h
            refine kr [22, 33] ?_
            refine qg (fun hb => ?_) (fun hb => ?_)
            ·replace h := qw hb h
             refine kr [22, 33] ?_
             obtain ⟨x57, hx, h⟩ := bind_some h
             refine qb (AC.g9 (jn _ _ _ _ _ _ _ _ _ _ _ hx) [0, 1, 2, 3, 4, 5, 6] [0, 1, 2, 3, 4, 5, 6]) ?_
             refine kr [22, 33] ?_
             obtain ⟨x58, hx, h⟩ := bind_some h
             refine qb (AC.g9 (y9 _ _ _ _ _ _ _ _ _ _ hx) [0, 1, 2, 3, 4, 5, 6] [0, 1, 2, 3, 7, 8, 6]) ?_
             refine kr [22, 33] ?_
             cases h
             exact je env rfl (tS [some 0, some 1, some 2, some 3, some 4, some 5, some 6] (sV (lS (lS (lS (lS (lS (lS (lS (lS (lS (lS lN)))))))))) (sV (lS lN) (sV (lS lN) (sV (lS (lS lN)) (sR zv (sR zr (sR qk qy))))))) (ju jc))
            ·replace h := qx hb h
             refine kr [22, 33] ?_
             cases h
             exact je env rfl (tS [some 0, some 1, some 2, some 3, some 4, some 5, some 6] (sV (lS (lS (lS (lS (lS (lS (lS (lS (lS (lS lN)))))))))) (sV (lS lN) (sV (lS lN) (sV (lS (lS lN)) (sR zv (sR zr (sR qk qy))))))) (ju jc))
           ·replace h := qx hb h
            refine kr [22, 33] ?_
            cases h
            exact je env rfl (tS [some 0, some 1, some 2, some 3, some 4, some 5, some 6] (sV (lS (lS (lS (lS (lS (lS (lS (lS (lS (lS lN)))))))))) (sV (lS lN) (sV (lS lN) (sV (lS (lS lN)) (sR zv (sR zr (sR qk qy))))))) (ju jc))
 ·unfold qa at h
  refine ⟨?_, (zm rfl rfl (zm rfl rfl (zm rfl rfl (zm rfl rfl (jj zv rfl (jj zr rfl (jj qk rfl jk))))))), (qj (qj (qj (qj (zb zv (zb zr (zb qk zd))))))), (zo rfl (zo rfl (zo rfl (zo rfl (jp zv (jp zr (jp qk jq))))))), (qj (qj (qj (qj (zb zv (zb zr (zb qk zd))))))), rfl, rfl, rfl, rfl⟩
  refine y8 (T := tt) (N := 23) (rs := []) (fun vs w => by simp) Tryz.func124 rfl rfl rfl (by kernel_rfl) (by kernel_rfl) ?_
  refine kr [] ?_
  obtain ⟨x62, hx, h⟩ := bind_some h
  refine qb (AC.g9 (jn _ _ _ _ _ _ _ _ _ _ _ hx) [0, 1, 2, 3, 4, 5, 6] [0, 1, 2, 3, 4, 5, 6]) ?_
  refine kr [] ?_
  obtain ⟨x63, hx, h⟩ := bind_some h
  refine qb (AC.g9 (jn _ _ _ _ _ _ _ _ _ _ _ hx) [0, 1, 2, 3, 4, 5, 6] [0, 1, 2, 3, 7, 8, 6]) ?_
  refine kr [] ?_
  obtain ⟨x64, hx, h⟩ := bind_some h
  refine qb (AC.g9 (jn _ _ _ _ _ _ _ _ _ _ _ hx) [0, 1, 2, 3, 4, 5, 6] [0, 1, 2, 3, 9, 10, 6]) ?_
  refine kr [] ?_
  obtain ⟨x65, hx, h⟩ := bind_some h
  refine qb (AC.g9 (y9 _ _ _ _ _ _ _ _ _ _ hx) [0, 1, 2, 3, 4, 5, 6] [0, 1, 2, 3, 11, 12, 6]) ?_
  refine kr [] ?_
  obtain ⟨x66, hx, h⟩ := bind_some h
  refine qb (AC.g9 (jn _ _ _ _ _ _ _ _ _ _ _ hx) [0, 1, 2, 3, 4, 5, 6] [0, 1, 2, 3, 13, 12, 14]) ?_
  refine kr [] ?_
  cases h
  exact je env rfl (tS [some 0, some 1, some 2, some 3, some 4, some 5, some 6] (sV (lS (lS (lS (lS (lS (lS (lS (lS (lS (lS lN)))))))))) (sV (lS lN) (sV (lS lN) (sV (lS (lS lN)) (sR zv (sR zr (sR qk qy))))))) (ju jc))
 ·unfold qa at h
  refine ⟨?_, (zm rfl rfl (zm rfl rfl (zm rfl rfl (zm rfl rfl (jj zv rfl (jj zr rfl (jj qk rfl jk))))))), (qj (qj (qj (qj (zb zv (zb zr (zb qk zd))))))), (zo rfl (zo rfl (zo rfl (zo rfl (jp zv (jp zr (jp qk jq))))))), (qj (qj (qj (qj (zb zv (zb zr (zb qk zd))))))), rfl, rfl, rfl, rfl⟩
  refine y8 (T := tt) (N := 41) (rs := []) (fun vs w => by simp) Tryz.func123 rfl rfl rfl (by kernel_rfl) (by kernel_rfl) ?_
  refine kr [] ?_
  obtain ⟨x59, hx, h⟩ := bind_some h
  refine K1 env hx rfl rfl rfl rfl (Node.cells_eq x59) ?_
  refine kr [] ?_
  obtain ⟨x60, hx, h⟩ := bind_some h
  refine qb (AC.g9 (qjc _ _ _ _ _ _ hx) [1, 2, 3, 4] [1, 2, 3, 4]) ?_
  refine kr [] ?_
  obtain ⟨x61, hx, h⟩ := bind_some h
  have hz_x61 := hx
  refine qnm (C := Node.cells) env hx rfl rfl Node.cells_len rfl rfl rfl rfl rfl (by decide) rfl rfl rfl ?_
  refine kr [] ?_
  refine qvm env rfl rfl rfl rfl (Int.natCast_nonneg _) (qnh hz_x61) ?_
  refine kr [] ?_
  refine qiy hz_x61 qk rfl rfl (Node.cells_eq x60.1).symm rfl rfl rfl ?_
  refine kr [] ?_
  cases h
  exact je env rfl (tS [some 0, some 1, some 2, some 3, some 4, some 5, some 6] (sV (lS (lS (lS (lS (lS (lS (lS (lS (lS (lS lN)))))))))) (sV (lS lN) (sV (lS lN) (sV (lS (lS lN)) (sR zv (sR zr (sR qk qy))))))) (ju jc))
 ·unfold qa at h
  refine ⟨?_, (zm rfl rfl (zm rfl rfl (zm rfl rfl (zm rfl rfl (jj zv rfl (jj zr rfl (jj qk rfl jk))))))), (qj (qj (qj (qj (zb zv (zb zr (zb qk zd))))))), (zo rfl (zo rfl (zo rfl (zo rfl (jp zv (jp zr (jp qk jq))))))), (qj (qj (qj (qj (zb zv (zb zr (zb qk zd))))))), rfl, rfl, rfl, rfl⟩
  refine y8 (T := tt) (N := 55) (rs := []) (fun vs w => by simp) Tryz.func125 rfl rfl rfl (by kernel_rfl) (by kernel_rfl) ?_
  refine kr [] ?_
  exact wq (by kernel_rfl) lQ (qad _ _ _ _ _ _ _ _ _ _ h)
 ·unfold qa at h
  refine uz ?_
  refine kr [] ?_
  refine qg (fun hb => ?_) (fun hb => ?_)
  ·replace h := qw hb h
   refine kr [] ?_
   obtain ⟨x72, hx, h⟩ := bind_some h
   refine qt (qe6 _ _ hx) ?_
   refine kr [] ?_
   obtain ⟨x73, hx, h⟩ := bind_some h
   refine qb (AC.g9 (y9 _ _ _ _ _ _ _ _ _ _ hx) [0, 1, 2, 3, 4, 5, 6] [0, 1, 2, 3, 7, 8, 9]) ?_
   refine kr [] ?_
   exact wa (by kernel_rfl) lQ (qad _ _ _ _ _ _ _ _ _ _ h)
  ·replace h := qx hb h
   refine kr [] ?_
   refine qg (fun hb => ?_) (fun hb => ?_)
   ·replace h := qw hb h
    refine kr [] ?_
    obtain ⟨x74, hx, h⟩ := bind_some h
    refine qt (qe6 _ _ hx) ?_
    refine kr [] ?_
    obtain ⟨x75, hx, h⟩ := bind_some h
    refine qb (AC.g9 (jn _ _ _ _ _ _ _ _ _ _ _ hx) [0, 1, 2, 3, 4, 5, 6] [0, 1, 2, 3, 7, 8, 9]) ?_
    refine kr [] ?_
    cases h
    exact je env rfl (tS [some 0, some 1, some 2, some 3, some 4, some 5, some 6] (sV (lS (lS (lS (lS (lS (lS (lS (lS (lS (lS lN)))))))))) (sV (lS lN) (sV (lS lN) (sV (lS (lS lN)) (sR zv (sR zr (sR qk qy))))))) (ju jc))
   ·replace h := qx hb h
    refine kr [] ?_
    obtain ⟨x76, hx, h⟩ := bind_some h
    refine qb (AC.g9 (jn _ _ _ _ _ _ _ _ _ _ _ hx) [0, 1, 2, 3, 4, 5, 6] [0, 1, 2, 3, 7, 8, 9]) ?_
    refine kr [] ?_
    cases h
    exact je env rfl (tS [some 0, some 1, some 2, some 3, some 4, some 5, some 6] (sV (lS (lS (lS (lS (lS (lS (lS (lS (lS (lS lN)))))))))) (sV (lS lN) (sV (lS lN) (sV (lS (lS lN)) (sR zv (sR zr (sR qk qy))))))) (ju jc))
 ·unfold qa at h
  refine ⟨?_, (zm rfl rfl (zm rfl rfl (zm rfl rfl (zm rfl rfl (jj zv rfl (jj zr rfl (jj qk rfl jk))))))), (qj (qj (qj (qj (zb zv (zb zr (zb qk zd))))))), (zo rfl (zo rfl (zo rfl (zo rfl (jp zv (jp zr (jp qk jq))))))), (qj (qj (qj (qj (zb zv (zb zr (zb qk zd))))))), rfl, rfl, rfl, rfl⟩
  refine y8 (T := tt) (N := 25) (rs := []) (fun vs w => by simp) Tryz.func122 rfl rfl rfl (by kernel_rfl) (by kernel_rfl) ?_
  refine kr [1000001] ?_
  exact wq (by kernel_rfl) lQ (qac _ _ _ _ _ _ _ _ _ _ h)
 ·unfold qa at h
  refine uz ?_
  refine kr [1000001] ?_
  refine qg (fun hb => ?_) (fun hb => ?_)
  ·replace h := qw hb h
   refine kr [1000001] ?_
   refine qg (fun hb => ?_) (fun hb => ?_)
   ·replace h := qw hb h
    refine kr [1000001] ?_
    obtain ⟨x68, hx, h⟩ := bind_some h
    refine qb (AC.g9 (y9 _ _ _ _ _ _ _ _ _ _ hx) [0, 1, 2, 3, 4, 5, 6] [0, 1, 2, 3, 7, 8, 9]) ?_
    refine kr [1000001] ?_
    exact qz (by kernel_rfl) rfl lQ (qdy _ _ _ _ _ _ _ _ _ h)
   ·replace h := qx hb h
    refine kr [1000001] ?_
    obtain ⟨x69, hx, h⟩ := bind_some h
    refine qb (AC.g9 (jn _ _ _ _ _ _ _ _ _ _ _ hx) [0, 1, 2, 3, 4, 5, 6] [0, 1, 2, 3, 7, 8, 9]) ?_
    refine kr [1000001] ?_
    obtain ⟨x70, hx, h⟩ := bind_some h
    refine qb (AC.g9 (y9 _ _ _ _ _ _ _ _ _ _ hx) [0, 1, 2, 3, 4, 5, 6] [0, 1, 2, 3, 10, 11, 9]) ?_
    refine kr [1000001] ?_
    exact qz (by kernel_rfl) rfl lQ (qdy _ _ _ _ _ _ _ _ _ h)
  ·replace h := qx hb h
   refine kr [1000001] ?_
   obtain ⟨x71, hx, h⟩ := bind_some h
   refine qb (AC.g9 (jn _ _ _ _ _ _ _ _ _ _ _ hx) [0, 1, 2, 3, 4, 5, 6] [0, 1, 2, 3, 7, 8, 9]) ?_
   refine kr [1000001] ?_
   cases h
   exact je env rfl (tS [some 0, some 1, some 2, some 3, some 4, some 5, some 6] (sV (lS (lS (lS (lS (lS (lS (lS (lS (lS (lS lN)))))))))) (sV (lS lN) (sV (lS lN) (sV (lS (lS lN)) (sR zv (sR zr (sR qk qy))))))) (ju jc))
 ·unfold qa at h
  refine kr [1000001] ?_
  exact wa (by kernel_rfl) lQ (qac _ _ _ _ _ _ _ _ _ _ h)
 ·unfold qa at h
  intro l0 hl0 hj0 hm0
  refine uz ?_
  cases a0 with
  | nil =>
    have hb := qo9 (C := Node.cells) hl0 hj0
    refine kr [22, 33] ?_
    refine za hb ?_
    refine kr [22, 33] ?_
    refine qg (fun hb => ?_) (fun hb => ?_)
    ·replace h := qw hb h
     refine kr [22, 33] ?_
     exact qz (by kernel_rfl) rfl lQ (qe7 _ _ _ _ _ _ _ _ _ _ h)
    ·replace h := qx hb h
     refine kr [22, 33] ?_
     exact qz (by kernel_rfl) rfl lQ (qe7 _ _ _ _ _ _ _ _ _ _ h)
  | cons x_0 a0 =>
    obtain ⟨hb, hx0, hd0, hk0, hw0⟩ := qlv (C := Node.cells) hl0 hm0
    refine kr [22, 33] ?_
    refine q9 hb ?_
    refine kr [22, 33] ?_
    refine qg (fun hb => ?_) (fun hb => ?_)
    ·replace h := qw hb h
     refine kr [22, 33] ?_
     exact qz (by kernel_rfl) rfl lQ (qa4 _ _ _ _ _ _ _ _ _ _ _ _ h l0 hd0 hk0 hm0)
    ·replace h := qx hb h
     refine kr [22, 33] ?_
     exact qz (by kernel_rfl) rfl lQ (qa4 _ _ _ _ _ _ _ _ _ _ _ _ h l0 hd0 hk0 hm0)
 ·unfold qa at h
  intro l0 hd0 hk0 hm0
  have hw0 := q19 hk0 hm0
  refine kr [22, 33] ?_
  obtain ⟨x79, hx, h⟩ := bind_some h
  refine qb (AC.g9 (y9 _ _ _ _ _ _ _ _ _ _ hx) [0, 1, 2, 3, 4, 5, 6] [0, 1, 2, 3, 10, 11, 12]) ?_
  refine kr [22, 33] ?_
  exact wa (by kernel_rfl) (qmi (qmo rfl) (Nat.le_of_ble_eq_true rfl) (by simp only [hw0]; simp <;> (repeat' apply And.intro) <;> first | rfl | exact fun x a _ h => (qk.all a x h).2 | exact fun x a _ h => (zv.all a x h).2 | exact fun x a _ h => (zr.all a x h).2) (by simp <;> (repeat' apply And.intro) <;> first | rfl | exact fun x a _ h => (qk.all a x h).2 | exact fun x a _ h => (zv.all a x h).2 | exact fun x a _ h => (zr.all a x h).2)) (Wd _ _ _ _ _ _ _ _ _ _ _ _ h l0 hd0 hk0 hm0)
 ·unfold qa at h
  refine ⟨?_, (zm rfl rfl (zm rfl rfl (zm rfl rfl (zm rfl rfl (jj zv rfl (jj zr rfl (jj qk rfl jk))))))), (qj (qj (qj (qj (zb zv (zb zr (zb qk zd))))))), (zo rfl (zo rfl (zo rfl (zo rfl (jp zv (jp zr (jp qk jq))))))), (qj (qj (qj (qj (zb zv (zb zr (zb qk zd))))))), rfl, rfl, rfl, rfl⟩
  refine y8 (T := tt) (N := 69) (rs := []) (fun vs w => by simp) Tryz.func92 rfl rfl rfl (by kernel_rfl) (by kernel_rfl) ?_
  refine kr [53] ?_
  refine qg (fun hb => ?_) (fun hb => ?_)
  ·replace h := qw hb h
   refine kr [53] ?_
   obtain ⟨x27, hx, h⟩ := bind_some h
   refine qb (AC.g9 (qdz _ _ _ _ _ _ _ _ _ _ _ hx) [0, 1, 2, 3, 4, 5, 6] [0, 1, 2, 3, 4, 5, 6]) ?_
   refine kr [53] ?_
   cases h
   exact je env rfl (tS [some 0, some 1, some 2, some 3, some 4, some 5, some 6] (sV (lS (lS (lS (lS (lS (lS (lS (lS (lS (lS lN)))))))))) (sV (lS lN) (sV (lS lN) (sV (lS (lS lN)) (sR zv (sR zr (sR qk qy))))))) (ju jc))
  ·replace h := qx hb h
   refine kr [53] ?_
   refine qg (fun hb => ?_) (fun hb => ?_)
   ·replace h := qw hb h
    refine kr [53] ?_
    obtain ⟨x28, hx, h⟩ := bind_some h
    refine qb (AC.g9 (jn _ _ _ _ _ _ _ _ _ _ _ hx) [0, 1, 2, 3, 4, 5, 6] [0, 1, 2, 3, 4, 5, 6]) ?_
    refine kr [53] ?_
    obtain ⟨x29, hx, h⟩ := bind_some h
    refine qb (AC.g9 (jn _ _ _ _ _ _ _ _ _ _ _ hx) [0, 1, 2, 3, 4, 5, 6] [0, 1, 2, 3, 7, 8, 6]) ?_
    refine kr [53] ?_
    obtain ⟨x30, hx, h⟩ := bind_some h
    refine qb (AC.g9 (y9 _ _ _ _ _ _ _ _ _ _ hx) [0, 1, 2, 3, 4, 5, 6] [0, 1, 2, 3, 9, 10, 6]) ?_
    refine kr [53] ?_
    obtain ⟨x31, hx, h⟩ := bind_some h
    refine qb (AC.g9 (jn _ _ _ _ _ _ _ _ _ _ _ hx) [0, 1, 2, 3, 4, 5, 6] [0, 1, 2, 3, 11, 10, 12]) ?_
    refine kr [53] ?_
    cases h
    exact je env rfl (tS [some 0, some 1, some 2, some 3, some 4, some 5, some 6] (sV (lS (lS (lS (lS (lS (lS (lS (lS (lS (lS lN)))))))))) (sV (lS lN) (sV (lS lN) (sV (lS (lS lN)) (sR zv (sR zr (sR qk qy))))))) (ju jc))
   ·replace h := qx hb h
    refine kr [53] ?_
    refine qg (fun hb => ?_) (fun hb => ?_)
    ·replace h := qw hb h
     refine kr [53] ?_
     obtain ⟨x32, hx, h⟩ := bind_some h
     refine qb (AC.g9 (jn _ _ _ _ _ _ _ _ _ _ _ hx) [0, 1, 2, 3, 4, 5, 6] [0, 1, 2, 3, 4, 5, 6]) ?_
     refine kr [53] ?_
     obtain ⟨x33, hx, h⟩ := bind_some h
     refine qb (AC.g9 (y9 _ _ _ _ _ _ _ _ _ _ hx) [0, 1, 2, 3, 4, 5, 6] [0, 1, 2, 3, 7, 8, 6]) ?_
     refine kr [53] ?_
     obtain ⟨x34, hx, h⟩ := bind_some h
     refine qb (AC.g9 (jn _ _ _ _ _ _ _ _ _ _ _ hx) [0, 1, 2, 3, 4, 5, 6] [0, 1, 2, 3, 9, 8, 10]) ?_
     refine kr [53] ?_
     cases h
     exact je env rfl (tS [some 0, some 1, some 2, some 3, some 4, some 5, some 6] (sV (lS (lS (lS (lS (lS (lS (lS (lS (lS (lS lN)))))))))) (sV (lS lN) (sV (lS lN) (sV (lS (lS lN)) (sR zv (sR zr (sR qk qy))))))) (ju jc))
    ·replace h := qx hb h
     refine kr [53] ?_
     refine qg (fun hb => ?_) (fun hb => ?_)
     ·replace h := qw hb h
      refine kr [53] ?_
      refine qg (fun hb => ?_) (fun hb => ?_)
      ·replace h := qw hb h
       refine kr [53] ?_
       exact qz (by kernel_rfl) rfl lQ (Qk _ _ _ _ _ _ _ _ _ _ _ h)
      ·replace h := qx hb h
       refine kr [53] ?_
       exact qz (by kernel_rfl) rfl lQ (Qk _ _ _ _ _ _ _ _ _ _ _ h)
     ·replace h := qx hb h
      refine kr [53] ?_
      refine qg (fun hb => ?_) (fun hb => ?_)
      ·replace h := qw hb h
       refine kr [53] ?_
       refine qg (fun hb => ?_) (fun hb => ?_)
       ·replace h := qw hb h
        refine kr [53] ?_
        exact qz (by kernel_rfl) rfl lQ (Qk _ _ _ _ _ _ _ _ _ _ _ h)
       ·replace h := qx hb h
        refine kr [53] ?_
        exact qz (by kernel_rfl) rfl lQ (Qk _ _ _ _ _ _ _ _ _ _ _ h)
      ·replace h := qx hb h
       refine kr [53] ?_
       obtain ⟨x35, hx, h⟩ := bind_some h
       refine qb (AC.g9 (y9 _ _ _ _ _ _ _ _ _ _ hx) [0, 1, 2, 3, 4, 5, 6] [0, 1, 2, 3, 4, 5, 6]) ?_
       refine kr [53] ?_
       obtain ⟨x36, hx, h⟩ := bind_some h
       refine qb (AC.g9 (jn _ _ _ _ _ _ _ _ _ _ _ hx) [0, 1, 2, 3, 4, 5, 6] [0, 1, 2, 3, 7, 5, 8]) ?_
       refine kr [53] ?_
       cases h
       exact je env rfl (tS [some 0, some 1, some 2, some 3, some 4, some 5, some 6] (sV (lS (lS (lS (lS (lS (lS (lS (lS (lS (lS lN)))))))))) (sV (lS lN) (sV (lS lN) (sV (lS (lS lN)) (sR zv (sR zr (sR qk qy))))))) (ju jc))
 ·unfold qa at h
  refine kr [53] ?_
  obtain ⟨x67, hx, h⟩ := bind_some h
  refine qb (AC.g9 (jn _ _ _ _ _ _ _ _ _ _ _ hx) [0, 1, 2, 3, 4, 5, 6] [0, 1, 2, 3, 7, 8, 9]) ?_
  refine kr [53] ?_
  refine qxk 62 rfl (fun hm => ?_)
  exact wq (by kernel_rfl) lQ (Jj _ _ _ _ _ _ _ _ _ _ h o0_1.kids 0 rfl (Nat.zero_le _) (qmj hm))
 ·unfold qa at h
  intro l0 j0 hl0 hj0 hm0
  refine uz ?_
  cases a0 with
  | nil =>
    have hb := qo9 (C := Node.cells) hl0 hj0
    refine kr [53] ?_
    refine za hb ?_
    refine kr [53] ?_
    cases h
    exact je env rfl (tS [some 0, some 1, some 2, some 3, some 4, some 5, some 6] (sV (lS (lS (lS (lS (lS (lS (lS (lS (lS (lS lN)))))))))) (sV (lS lN) (sV (lS lN) (sV (lS (lS lN)) (sR zv (sR zr (sR qk qy))))))) (ju jc))
  | cons x_0 a0 =>
    obtain ⟨hb, hx0, hd0, hk0, hw0⟩ := qlv (C := Node.cells) hl0 hm0
    refine kr [53] ?_
    refine q9 hb ?_
    refine kr [53] ?_
    obtain ⟨x77, hx, h⟩ := bind_some h
    refine qb (AC.g9 (y9 _ _ _ _ _ _ _ _ _ _ hx) [0, 1, 2, 3, 4, 5, 6] [0, 1, 2, 3, 12, 13, 14]) ?_
    refine kr [53] ?_
    exact wa (by kernel_rfl) (qmi (qmo rfl) (Nat.le_of_ble_eq_true rfl) (by simp only [hw0]; simp <;> (repeat' apply And.intro) <;> first | rfl | exact fun x a _ h => (qk.all a x h).2 | exact fun x a _ h => (zv.all a x h).2 | exact fun x a _ h => (zr.all a x h).2) (by simp <;> (repeat' apply And.intro) <;> first | rfl | exact fun x a _ h => (qk.all a x h).2 | exact fun x a _ h => (zv.all a x h).2 | exact fun x a _ h => (zr.all a x h).2)) (Jj _ _ _ _ _ _ _ _ _ _ h l0 (j0 + 1) hd0 hk0 hm0)
 ·unfold qa at h
  refine ⟨?_, (zm rfl rfl (zm rfl rfl (zm rfl rfl (zm rfl rfl (jj zv rfl (jj zr rfl (jj qk rfl jk))))))), (qj (qj (qj (qj (zb zv (zb zr (zb qk zd))))))), (zo rfl (zo rfl (zo rfl (zo rfl (jp zv (jp zr (jp qk jq))))))), (qj (qj (qj (qj (zb zv (zb zr (zb qk zd))))))), rfl, rfl, rfl, rfl⟩
  refine y8 (T := tt) (N := 100) (rs := []) (fun vs w => by simp) Tryz.func91 rfl rfl rfl (by kernel_rfl) (by kernel_rfl) ?_
  refine kr [] ?_
  refine qg (fun hb => ?_) (fun hb => ?_)
  ·replace h := qw hb h
   refine kr [] ?_
   obtain ⟨x6, hx, h⟩ := bind_some h
   refine qb (AC.g9 (jn _ _ _ _ _ _ _ _ _ _ _ hx) [0, 1, 2, 3, 4, 5, 6] [0, 1, 2, 3, 4, 5, 6]) ?_
   refine kr [] ?_
   obtain ⟨x7, hx, h⟩ := bind_some h
   refine qb (AC.g9 (jn _ _ _ _ _ _ _ _ _ _ _ hx) [0, 1, 2, 3, 4, 5, 6] [0, 1, 2, 3, 7, 8, 6]) ?_
   refine kr [] ?_
   obtain ⟨x8, hx, h⟩ := bind_some h
   refine qb (AC.g9 (qcz _ _ _ _ _ _ _ _ _ hx) [0, 1, 2, 3, 4, 5, 6] [0, 1, 2, 3, 9, 10, 6]) ?_
   refine kr [] ?_
   cases h
   exact je env rfl (tS [some 0, some 1, some 2, some 3, some 4, some 5, some 6] (sV (lS (lS (lS (lS (lS (lS (lS (lS (lS (lS lN)))))))))) (sV (lS lN) (sV (lS lN) (sV (lS (lS lN)) (sR zv (sR zr (sR qk qy))))))) (ju jc))
  ·replace h := qx hb h
   refine kr [] ?_
   refine qg (fun hb => ?_) (fun hb => ?_)
   ·replace h := qw hb h
    refine kr [] ?_
    obtain ⟨x9, hx, h⟩ := bind_some h
    refine qb (AC.g9 (y9 _ _ _ _ _ _ _ _ _ _ hx) [0, 1, 2, 3, 4, 5, 6] [0, 1, 2, 3, 4, 5, 6]) ?_
    refine kr [] ?_
    obtain ⟨x10, hx, h⟩ := bind_some h
    refine qb (AC.g9 (jn _ _ _ _ _ _ _ _ _ _ _ hx) [0, 1, 2, 3, 4, 5, 6] [0, 1, 2, 3, 7, 5, 8]) ?_
    refine kr [] ?_
    obtain ⟨x11, hx, h⟩ := bind_some h
    refine qb (AC.g9 (jn _ _ _ _ _ _ _ _ _ _ _ hx) [0, 1, 2, 3, 4, 5, 6] [0, 1, 2, 3, 9, 10, 8]) ?_
    refine kr [] ?_
    obtain ⟨x12, hx, h⟩ := bind_some h
    refine qb (AC.g9 (jn _ _ _ _ _ _ _ _ _ _ _ hx) [0, 1, 2, 3, 4, 5, 6] [0, 1, 2, 3, 11, 12, 8]) ?_
    refine kr [] ?_
    obtain ⟨x13, hx, h⟩ := bind_some h
    refine qb (AC.g9 (qcz _ _ _ _ _ _ _ _ _ hx) [0, 1, 2, 3, 4, 5, 6] [0, 1, 2, 3, 13, 14, 8]) ?_
    refine kr [] ?_
    cases h
    exact je env rfl (tS [some 0, some 1, some 2, some 3, some 4, some 5, some 6] (sV (lS (lS (lS (lS (lS (lS (lS (lS (lS (lS lN)))))))))) (sV (lS lN) (sV (lS lN) (sV (lS (lS lN)) (sR zv (sR zr (sR qk qy))))))) (ju jc))
   ·replace h := qx hb h
    refine kr [] ?_
    refine qg (fun hb => ?_) (fun hb => ?_)
    ·replace h := qw hb h
     refine kr [] ?_
     obtain ⟨x14, hx, h⟩ := bind_some h
     refine qb (AC.g9 (jn _ _ _ _ _ _ _ _ _ _ _ hx) [0, 1, 2, 3, 4, 5, 6] [0, 1, 2, 3, 4, 5, 6]) ?_
     refine kr [] ?_
     obtain ⟨x15, hx, h⟩ := bind_some h
     refine qb (AC.g9 (jn _ _ _ _ _ _ _ _ _ _ _ hx) [0, 1, 2, 3, 4, 5, 6] [0, 1, 2, 3, 7, 8, 6]) ?_
     refine kr [] ?_
     obtain ⟨x16, hx, h⟩ := bind_some h
     refine qb (AC.g9 (jn _ _ _ _ _ _ _ _ _ _ _ hx) [0, 1, 2, 3, 4, 5, 6] [0, 1, 2, 3, 9, 10, 6]) ?_
     refine kr [] ?_
     obtain ⟨x17, hx, h⟩ := bind_some h
     refine qb (AC.g9 (jn _ _ _ _ _ _ _ _ _ _ _ hx) [0, 1, 2, 3, 4, 5, 6] [0, 1, 2, 3, 11, 12, 6]) ?_
     refine kr [] ?_
     cases h
     exact je env rfl (tS [some 0, some 1, some 2, some 3, some 4, some 5, some 6] (sV (lS (lS (lS (lS (lS (lS (lS (lS (lS (lS lN)))))))))) (sV (lS lN) (sV (lS lN) (sV (lS (lS lN)) (sR zv (sR zr (sR qk qy))))))) (ju jc))
    ·replace h := qx hb h
     refine kr [] ?_
     refine qg (fun hb => ?_) (fun hb => ?_)
     ·replace h := qw hb h
      refine kr [] ?_
      obtain ⟨x18, hx, h⟩ := bind_some h
      refine qb (AC.g9 (y9 _ _ _ _ _ _ _ _ _ _ hx) [0, 1, 2, 3, 4, 5, 6] [0, 1, 2, 3, 4, 5, 6]) ?_
      refine kr [] ?_
      obtain ⟨x19, hx, h⟩ := bind_some h
      refine qb (AC.g9 (jn _ _ _ _ _ _ _ _ _ _ _ hx) [0, 1, 2, 3, 4, 5, 6] [0, 1, 2, 3, 7, 5, 8]) ?_
      refine kr [] ?_
      obtain ⟨x20, hx, h⟩ := bind_some h
      refine qb (AC.g9 (y9 _ _ _ _ _ _ _ _ _ _ hx) [0, 1, 2, 3, 4, 5, 6] [0, 1, 2, 3, 9, 10, 8]) ?_
      refine kr [] ?_
      cases h
      exact je env rfl (tS [some 0, some 1, some 2, some 3, some 4, some 5, some 6] (sV (lS (lS (lS (lS (lS (lS (lS (lS (lS (lS lN)))))))))) (sV (lS lN) (sV (lS lN) (sV (lS (lS lN)) (sR zv (sR zr (sR qk qy))))))) (ju jc))
     ·replace h := qx hb h
      refine kr [] ?_
      refine qg (fun hb => ?_) (fun hb => ?_)
      ·replace h := qw hb h
       refine kr [] ?_
       obtain ⟨x21, hx, h⟩ := bind_some h
       refine qb (AC.g9 (jn _ _ _ _ _ _ _ _ _ _ _ hx) [0, 1, 2, 3, 4, 5, 6] [0, 1, 2, 3, 4, 5, 6]) ?_
       refine kr [] ?_
       obtain ⟨x22, hx, h⟩ := bind_some h
       refine qb (AC.g9 (y9 _ _ _ _ _ _ _ _ _ _ hx) [0, 1, 2, 3, 4, 5, 6] [0, 1, 2, 3, 7, 8, 6]) ?_
       refine kr [] ?_
       cases h
       exact je env rfl (tS [some 0, some 1, some 2, some 3, some 4, some 5, some 6] (sV (lS (lS (lS (lS (lS (lS (lS (lS (lS (lS lN)))))))))) (sV (lS lN) (sV (lS lN) (sV (lS (lS lN)) (sR zv (sR zr (sR qk qy))))))) (ju jc))
      ·replace h := qx hb h
       refine kr [] ?_
       refine qg (fun hb => ?_) (fun hb => ?_)
       ·replace h := qw hb h
        refine kr [] ?_
        obtain ⟨x23, hx, h⟩ := bind_some h
        refine qb (AC.g9 (jn _ _ _ _ _ _ _ _ _ _ _ hx) [0, 1, 2, 3, 4, 5, 6] [0, 1, 2, 3, 4, 5, 6]) ?_
        refine kr [] ?_
        obtain ⟨x24, hx, h⟩ := bind_some h
        refine qb (AC.g9 (y9 _ _ _ _ _ _ _ _ _ _ hx) [0, 1, 2, 3, 4, 5, 6] [0, 1, 2, 3, 7, 8, 6]) ?_
        refine kr [] ?_
        obtain ⟨x25, hx, h⟩ := bind_some h
        refine qb (AC.g9 (jn _ _ _ _ _ _ _ _ _ _ _ hx) [0, 1, 2, 3, 4, 5, 6] [0, 1, 2, 3, 9, 8, 10]) ?_
        refine kr [] ?_
        cases h
        exact je env rfl (tS [some 0, some 1, some 2, some 3, some 4, some 5, some 6] (sV (lS (lS (lS (lS (lS (lS (lS (lS (lS (lS lN)))))))))) (sV (lS lN) (sV (lS lN) (sV (lS (lS lN)) (sR zv (sR zr (sR qk qy))))))) (ju jc))
       ·replace h := qx hb h
        refine kr [] ?_
        obtain ⟨x26, hx, h⟩ := bind_some h
        refine qb (AC.g9 (jn _ _ _ _ _ _ _ _ _ _ _ hx) [0, 1, 2, 3, 4, 5, 6] [0, 1, 2, 3, 4, 5, 6]) ?_
        refine kr [] ?_
        cases h
        exact je env rfl (tS [some 0, some 1, some 2, some 3, some 4, some 5, some 6] (sV (lS (lS (lS (lS (lS (lS (lS (lS (lS (lS lN)))))))))) (sV (lS lN) (sV (lS lN) (sV (lS (lS lN)) (sR zv (sR zr (sR qk qy))))))) (ju jc))
theorem qjc : PC5 qi4 qaf := wh.1
theorem qn0 : PC9 qgz qc0 := wh.2.1
theorem qdz : PC10 qg0 Wm := wh.2.2.1
theorem y9 : PC9 qnu wz := wh.2.2.2.1
theorem qjd : PC9 qi5 qbk := wh.2.2.2.2.1
theorem qad : PC9 qdx Z1 := wh.2.2.2.2.2.1
theorem qcz : PC8 qi3 qae := wh.2.2.2.2.2.2.1
theorem qac : PC9 qdv Zb := wh.2.2.2.2.2.2.2.1
theorem qdy : PC8 qdw Ys := wh.2.2.2.2.2.2.2.2.1
theorem Wd : PC11 qbt Q3 := wh.2.2.2.2.2.2.2.2.2.1
theorem qa4 : PC11 qax Z0 := wh.2.2.2.2.2.2.2.2.2.2.1
theorem qe5 : PC9 qav Jz := wh.2.2.2.2.2.2.2.2.2.2.2.1
theorem Qk : PC10 Yp ub := wh.2.2.2.2.2.2.2.2.2.2.2.2.1
theorem Jj : PC9 Ki w8 := wh.2.2.2.2.2.2.2.2.2.2.2.2.2.1
theorem qd6 : PC9 Ww Jc := wh.2.2.2.2.2.2.2.2.2.2.2.2.2.2
def Zo (l : LU) : Option Int := some ((l.length : Int))
theorem qbc (l : LU) (r : Int) (h : Zo l = some r) : AC Tryz.prog G 47 [.ptr 0 0 0] 2 [(0, .var 60 [.optr 0 0 0, .bs 1 1 1 0 l.length]), (1, .row 5 (l.map c8).flatten)] (.int .i64 r) 2 [(0, .var 60 [.optr 0 0 0, .bs 1 1 1 0 l.length]), (1, .row 5 (l.map c8).flatten)] := by
 cases h; exact q5i l
def Qn (l : LU) : Option BA := some ((⟨l.toArray⟩ : BA))
theorem Wz (l : LU) (r : BA) (h : Qn l = some r) : AC Tryz.prog G 48 [.ptr 0 0 0] 2 [(0, .var 60 [.optr 0 0 0, .bs 1 1 1 0 l.length]), (1, .row 5 (l.map c8).flatten)] (.str r) 2 [(0, .dead), (1, .dead)] := by
 cases h; exact qy4 l
def Km (a0 : Node) : Option (BA × Int) :=
 yp a0 >>= fun x1 =>
 if (!decide (x1 = (0 : Int))) = true then
  some ((⟨#[]⟩ : BA), x1)
 else
  qaf (⟨#[]⟩ : BA) ([] : LU) a0 (⟨#[]⟩ : BA) (0 : Int) >>= fun x2 =>
  Zo x2.2.2 >>= fun x3 =>
  if (decide ((65536 : Int) < x3)) = true then
   some ((⟨#[]⟩ : BA), (3 : Int))
  else
   Qn x2.2.2 >>= fun x4 =>
   some (x4, (0 : Int))
@[reducible] def qnp (a0 : Node) (r : BA × Int) : Prop :=
  Fn Tryz.prog G 19 [(.agg (zp a0))] (.tup [(.str r.1), (.int .i64 r.2)])
theorem qnz : PC1 qnp Km := fun a0 r h => by
 rw [Km.eq_def] at h
 refine ji (T := tt) (N := 22) (rs := [.tmp 2, .tmp 3]) (fun vs w => by simp) Tryz.func19 rfl rfl rfl rfl (by kernel_rfl) (kw rfl) (jv _ rfl) ?_
 refine kr [] ?_
 obtain ⟨x1, hx, h⟩ := bind_some h
 refine qt (Q2 _ _ hx) ?_
 refine kr [] ?_
 refine qg (fun hb => ?_) (fun hb => ?_)
 ·replace h := qw hb h
  refine kr [] ?_
  cases h
  exact kf
 ·replace h := qx hb h
  refine kr [] ?_
  obtain ⟨x2, hx, h⟩ := bind_some h
  refine qb (ACalls.ghost (e := 5) (ACalls.wkg (AC.go (objs := [(0, .var 26 (zp a0)), (1, .var 60 [(.optr 1 1 0), (.bs 1 4 4 0 ([] : LU).length)]), (2, .var 9 [(.str (⟨#[]⟩ : BA))]), (3, .var 70 [(.fn 41 [(.ptr 2 2 0), (.ptr 1 1 0)])]), (4, .row 5 (([] : LU).map c8).flatten)]) (xs := [(.ptr 3 3 0), (.agg (zp a0)), (.str (⟨#[]⟩ : BA)), (.int .i64 (0 : Int))]) (qjc _ _ _ _ _ _ hx) [3, 2, 1, 4] [3, 2, 1, 4] rfl rfl rfl rfl rfl rfl rfl rfl rfl) (qi (qn _) (qi (qn _) (qi (qn _) (qi (qn _) z6)))) (qe (jb (qd (qxv rfl) (qd (zg rfl) js)) (zt _))))) ?_
  refine kr [] ?_
  obtain ⟨x3, hx, h⟩ := bind_some h
  refine qb (AC.g9 (qbc _ _ hx) [1, 4] [1, 5]) ?_
  refine kr [] ?_
  refine qg (fun hb => ?_) (fun hb => ?_)
  ·replace h := qw hb h
   refine kr [] ?_
   cases h
   exact kf
  ·replace h := qx hb h
   refine kr [] ?_
   obtain ⟨x4, hx, h⟩ := bind_some h
   refine qb (AC.g9 (Wz _ _ hx) [1, 4] [1, 5]) ?_
   refine kr [] ?_
   cases h
   exact kf
mutual
def Zr (a0 : LN) (a1 : Node) : Option LN :=
 app 72 a0 ([a1]) >>= fun x2 =>
 uw (qa x2) (0 : Int) (qa a1)
 partial_fixpoint
def uw (t0 : LN) (t5 : Int) (o2 : Node) : Option LN :=
 if (decide (t5 < ((o2.kids.map Node.cells).length : Int))) = true then
  ix o2.kids t5 >>= fun x5 =>
  Zr (qa t0) (qa x5) >>= fun x6 =>
  uw (qa x6) (IntKind.i64.wrap (t5 + (1 : Int))) (qa o2)
 else
  some t0
 partial_fixpoint
end
@[reducible] def qbu (a0 : LN) (a1 : Node) (r : LN) : Prop :=
  AC Tryz.prog G 113 [(.bs 4 0 0 0 a0.length), (.agg (zp a1))] 2 [(0, .row 26 (a0.map Node.cells).flatten), (1, .row 26 [])] (.bs 4 1 2 0 r.length) 3 [(0, .row 26 []), (2, .row 26 (r.map Node.cells).flatten)]
@[reducible] def K3 (t0 : LN) (t5 : Int) (o2 : Node) (r : LN) : Prop :=
  Ok Tryz.prog G tt 25 2 (Ret Tryz.prog [.tmp 4] (fun y H => ua Tryz.prog G 2 H y (.bs 4 1 2 0 r.length) ⟨3, [(0, .row 26 []), (2, .row 26 (r.map Node.cells).flatten)]⟩)) (.again (wu [] Tryz.f113 0).1 (wu [] Tryz.f113 0).2 (.n (.bs 4 0 4 0 t0.length) (.n .undef (.n (.ptr 2 2 0) .z .z) (.n (.int .i64 t5) .z .z)) .z) 5 [(4, .row 26 (t0.map Node.cells).flatten), (1, .dead), (2, .var 26 (zp o2))])
theorem qd8 : PC2 qbu Zr ∧ PC3 K3 uw := by
 refine Zr.mutual_partial_correctness qbu K3 (fun uw Jx a0 a1 r h => ?_) (fun Zr uw qbx Jx t0 t5 o2 r h => ?_)
 ·unfold qa at h
  refine ⟨?_, (jj qk rfl (qw0 rfl jk)), (zb qk (qku zd)), (qvx (jp qk jq)), (qku (zb qk zd)), rfl, rfl, rfl, rfl⟩
  refine y8 (T := tt) (N := 25) (rs := [.tmp 4]) (fun vs w => by simp) Tryz.func113 rfl rfl rfl (by kernel_rfl) (by kernel_rfl) ?_
  refine kr [] ?_
  obtain ⟨x2, hx, h⟩ := bind_some h
  have hp_x2 := qbh hx (by simp)
  refine W9 (C := Node.cells) env hx rfl (show _ = AV.sl _ _ (List.map Node.cells [a1]) from (by simp only [List.map_cons, List.map_nil, Node.cells_eq]; rfl)) (by simp) Node.cells_len rfl rfl rfl rfl rfl (by decide) rfl rfl rfl ?_
  refine kr [] ?_
  exact wq (by kernel_rfl) lQ (Jx _ _ _ _ h)
 ·unfold qa at h
  refine uz ?_
  refine kr [] ?_
  refine qg (fun hb => ?_) (fun hb => ?_)
  ·replace h := qw hb h
   refine kr [] ?_
   obtain ⟨x5, hx, h⟩ := bind_some h
   refine K1 env hx rfl rfl rfl rfl (Node.cells_eq x5) ?_
   refine kr [] ?_
   obtain ⟨x6, hx, h⟩ := bind_some h
   refine qb (ACalls.ghost (e := 26) (AC.g9 (qbx _ _ _ hx) [0, 3] [4, 5])) ?_
   refine kr [] ?_
   exact wa (by kernel_rfl) (qpg [some 3, none, some 2] rfl rfl rfl (by simp [Reader.cells, Token.cells] <;> (repeat' apply And.intro) <;> first | rfl | exact fun x a _ h => (qk.all a x h).2 | exact fun x a _ h => (zr.all a x h).2) (qln qk rfl rfl (qyb rfl (qlm rfl rfl (Yu rfl rfl (Yu rfl rfl (Yu rfl rfl (Yu rfl rfl qs0)))) qlo)))) (Jx _ _ _ _ h)
  ·replace h := qx hb h
   refine kr [] ?_
   cases h
   exact jw env rfl rfl (tS [none, some 0] (qll rfl rfl (sR qk qy)) (j3 (J8 (qzx rfl rfl rfl) (by simp)) (by simp)))
theorem qbx : PC2 qbu Zr := qd8.1
theorem Jx : PC3 K3 uw := qd8.2
def vm (t0 : LN) (t5 : Int) (o1 : Node) : Option LN :=
 if (decide (t5 < ((o1.kids.map Node.cells).length : Int))) = true then
  ix o1.kids t5 >>= fun x3 =>
  Zr (qa t0) (qa x3) >>= fun x4 =>
  vm (qa x4) (IntKind.i64.wrap (t5 + (1 : Int))) (qa o1)
 else
  some t0
 partial_fixpoint
@[reducible] def qcw (t0 : LN) (t5 : Int) (o1 : Node) (r : LN) : Prop :=
  Ok Tryz.prog G tt 25 1 (Ret Tryz.prog [.tmp 4] (fun y H => ua Tryz.prog G 1 H y (.sl 4 false (r.map Node.cells)) ⟨1, [(0, .row 26 [])]⟩)) (.again (wu [] Tryz.f113 0).1 (wu [] Tryz.f113 0).2 (.n (.bs 4 0 3 0 t0.length) (.n .undef (.n (.ptr 1 1 0) .z .z) (.n (.int .i64 t5) .z .z)) .z) 4 [(3, .row 26 (t0.map Node.cells).flatten), (1, .var 26 (zp o1))])
theorem K6 : PC3 qcw vm := by
 refine vm.partial_correctness qcw (fun vm K6 t0 t5 o1 r h => ?_)
 ·unfold qa at h
  refine uz ?_
  refine kr [] ?_
  refine qg (fun hb => ?_) (fun hb => ?_)
  ·replace h := qw hb h
   refine kr [] ?_
   obtain ⟨x3, hx, h⟩ := bind_some h
   refine K1 env hx rfl rfl rfl rfl (Node.cells_eq x3) ?_
   refine kr [] ?_
   obtain ⟨x4, hx, h⟩ := bind_some h
   refine qb (ACalls.ghost (e := 26) (AC.g9 (qbx _ _ _ hx) [0, 2] [3, 4])) ?_
   refine kr [] ?_
   exact wa (by kernel_rfl) (qpg [some 2, some 1] rfl rfl rfl (by simp [Reader.cells, Token.cells] <;> (repeat' apply And.intro) <;> first | rfl | exact fun x a _ h => (qk.all a x h).2 | exact fun x a _ h => (zr.all a x h).2) (qln qk rfl rfl (qlm rfl rfl (Yu rfl rfl (Yu rfl rfl (Yu rfl rfl (Yu rfl rfl qs0)))) qlo))) (K6 _ _ _ _ h)
  ·replace h := qx hb h
   refine kr [] ?_
   cases h
   exact jw env rfl rfl (tS [none] (qll rfl rfl qy) (j3 (J8 (qf (jz qk rfl) rfl) (by simp)) (by simp)))
def qbl (a0 : LN) (a1 : Node) : Option LN :=
 app 72 a0 ([a1]) >>= fun x1 =>
 vm x1 (0 : Int) a1
@[reducible] def qon (a0 : LN) (a1 : Node) (r : LN) : Prop :=
  AC Tryz.prog G 113 [(.bs 4 0 0 0 a0.length), (.agg (zp a1))] 1 [(0, .row 26 (a0.map Node.cells).flatten)] (.sl 4 false (r.map Node.cells)) 1 [(0, .row 26 [])]
theorem qoo : PC2 qon qbl := fun a0 a1 r h => by
 rw [qbl.eq_def] at h
 refine ⟨?_, (jj qk rfl jk), (zb qk zd), (qvx jq), (qku zd), rfl, rfl, rfl, rfl⟩
 refine y8 (T := tt) (N := 25) (rs := [.tmp 4]) (fun vs w => by simp) Tryz.func113 rfl rfl rfl (by kernel_rfl) (by kernel_rfl) ?_
 refine kr [] ?_
 obtain ⟨x1, hx, h⟩ := bind_some h
 have hp_x1 := qbh hx (by simp)
 refine W9 (C := Node.cells) env hx rfl (show _ = AV.sl _ _ (List.map Node.cells [a1]) from (by simp only [List.map_cons, List.map_nil, Node.cells_eq]; rfl)) (by simp) Node.cells_len rfl rfl rfl rfl rfl (by decide) rfl rfl rfl ?_
 refine kr [] ?_
 exact wq (by kernel_rfl) lQ (K6 _ _ _ _ h)
def qc1 (a0 : Node) : Option LN :=
 qbl ([] : LN) a0 >>= fun x1 =>
 some x1
@[reducible] def qt1 (a0 : Node) (r : LN) : Prop :=
  Fn Tryz.prog G 78 [(.agg (zp a0))] (.sl 4 false (r.map Node.cells))
theorem qt3 : PC1 qt1 qc1 := fun a0 r h => by
 rw [qc1.eq_def] at h
 refine ji (T := tt) (N := 7) (rs := [.tmp 2]) (fun vs w => by simp) Tryz.func78 rfl rfl rfl rfl (by kernel_rfl) (kw rfl) (jv _ rfl) ?_
 refine kr [] ?_
 obtain ⟨x1, hx, h⟩ := bind_some h
 refine qb (ACalls.ghost (e := 26) (ACalls.wkg (AC.go (objs := [(0, .var 26 (zp a0)), (1, .row 26 (([] : LN).map Node.cells).flatten)]) (xs := [(.bs 4 1 1 0 ([] : LN).length), (.agg (zp a0))]) (qoo _ _ _ hx) [1] [1] rfl rfl rfl rfl rfl rfl rfl rfl rfl) (qi (zg rfl) (qi (qn _) z6)) (zt _))) ?_
 refine kr [] ?_
 cases h
 exact kf
def Q4 (t3 : LN) (t4 : Int) : Option Bool :=
 if (decide (t4 < ((t3.map Node.cells).length : Int))) = true then
  ix t3 t4 >>= fun x2 =>
  ix t3 t4 >>= fun x3 =>
  Wg (qa x3) >>= fun x4 =>
  if (!decide (((x2.gaps.map sc).length : Int) = x4)) = true then
   some false
  else
   Q4 (qa t3) (IntKind.i64.wrap (t4 + (1 : Int)))
 else
  some true
 partial_fixpoint
@[reducible] def qe4 (t3 : LN) (t4 : Int) (r : Bool) : Prop :=
  Ok Tryz.prog G tt 25 0 (Ret Tryz.prog [.tmp 2] (fun y H => Told Tryz.prog G H y (.bool r))) (.again (wu [] Tryz.f36 0).1 (wu [] Tryz.f36 0).2 (.n .undef (.n .undef (.n (.sl 4 false (t3.map Node.cells)) .z .z) .z) (.n .undef (.n (.int .i64 t4) .z .z) .z)) 1 [])
theorem qa7 : PC2 qe4 Q4 := by
 refine Q4.partial_correctness qe4 (fun Q4 qa7 t3 t4 r h => ?_)
 ·unfold qa at h
  refine uz ?_
  refine kr [] ?_
  refine qg (fun hb => ?_) (fun hb => ?_)
  ·replace h := qw hb h
   refine kr [] ?_
   obtain ⟨x2, hx, h⟩ := bind_some h
   refine K1 env hx rfl rfl rfl rfl (Node.cells_eq x2) ?_
   refine kr [] ?_
   obtain ⟨x3, hx, h⟩ := bind_some h
   refine K1 env hx rfl rfl rfl rfl (Node.cells_eq x3) ?_
   refine kr [] ?_
   obtain ⟨x4, hx, h⟩ := bind_some h
   refine qt (qki _ _ hx) ?_
   refine kr [] ?_
   refine qg (fun hb => ?_) (fun hb => ?_)
   ·replace h := qw hb h
    refine kr [] ?_
    cases h
    exact kf
   ·replace h := qx hb h
    refine kr [] ?_
    exact wa (by kernel_rfl) lA (qa7 _ _ _ h)
  ·replace h := qx hb h
   refine kr [] ?_
   cases h
   exact kf
def qc2 (a0 : Node) : Option Bool :=
 qc1 a0 >>= fun x1 =>
 Q4 x1 (0 : Int)
@[reducible] def qt2 (a0 : Node) (r : Bool) : Prop :=
  Fn Tryz.prog G 36 [(.agg (zp a0))] (.bool r)
theorem qt4 : PC1 qt2 qc2 := fun a0 r h => by
 rw [qc2.eq_def] at h
 refine ji (T := tt) (N := 25) (rs := [.tmp 2]) (fun vs w => by simp) Tryz.func36 rfl rfl rfl rfl (by kernel_rfl) (kw rfl) (jv _ rfl) ?_
 refine kr [] ?_
 obtain ⟨x1, hx, h⟩ := bind_some h
 refine qt (qt3 _ _ hx) ?_
 refine kr [] ?_
 exact wq (by kernel_rfl) lA (qa7 _ _ _ h)
def wi (a0 : Node) (a1 : BA) : Option Bool :=
 yp a0 >>= fun x1 =>
 if (!decide (x1 = (0 : Int))) = true then
  some false
 else
  qc2 a0 >>= fun x2 =>
  if (!x2) = true then
   some false
  else
   Km a0 >>= fun x3 =>
   if (decide (x3.2 = (0 : Int))) = true then
    some (decide (x3.1 = a1))
   else
    some false
@[reducible] def qkf (a0 : Node) (a1 : BA) (r : Bool) : Prop :=
  Fn Tryz.prog G 16 [(.agg (zp a0)), (.str a1)] (.bool r)
theorem W2 : PC2 qkf wi := fun a0 a1 r h => by
 rw [wi.eq_def] at h
 refine ji (T := tt) (N := 27) (rs := [.tmp 4]) (fun vs w => by simp) Tryz.func16 rfl rfl rfl rfl (by kernel_rfl) (kw rfl) (jv _ rfl) ?_
 refine kr [] ?_
 obtain ⟨x1, hx, h⟩ := bind_some h
 refine qt (Q2 _ _ hx) ?_
 refine kr [] ?_
 refine q8 (fun hb => ?_) (fun hb => ?_)
 ·replace h := qx hb h
  refine kr [] ?_
  obtain ⟨x2, hx, h⟩ := bind_some h
  refine qt (qt4 _ _ hx) ?_
  refine kr [] ?_
  refine qg (fun hb => ?_) (fun hb => ?_)
  ·replace h := qw hb h
   refine kr [] ?_
   cases h
   exact kf
  ·replace h := qx hb h
   refine kr [] ?_
   obtain ⟨x3, hx, h⟩ := bind_some h
   refine qt (qnz _ _ hx) ?_
   refine kr [] ?_
   refine qv (fun hb => ?_) (fun hb => ?_)
   ·replace h := qw hb h
    refine kr [] ?_
    cases h
    exact kf
   ·replace h := qx hb h
    refine kr [] ?_
    cases h
    exact kf
 ·replace h := qw hb h
  refine kr [] ?_
  cases h
  exact kf
def wm (t0 : BA) (o0 : Node) : Option Bool :=
 Zx t0 >>= fun x6 =>
 K8 >>= fun x7 =>
 if x7 = true then
  if (!decide (x6.2.1 = (0 : Int))) = true then
   some true
  else
   wi x6.1 t0 >>= fun x8 =>
   some x8
 else
  some false
@[reducible] def qbv (t0 : BA) (o0 : Node) (r : Bool) : Prop :=
  Ok Tryz.prog G tt 54 0 (Ret Tryz.prog [.tmp 2] (fun y H => Told Tryz.prog G H y (.bool r))) (.go [] (vc [23, 37] Tryz.f6 37) [] (.n (.str t0) (.n .undef (.n (.ptr 0 0 0) .z .z) .z) .z) 1 [(0, .var 26 (zp o0))])
theorem Ye : PC2 qbv wm := fun t0 o0 r h => by
 rw [wm.eq_def] at h
 refine kr [23, 37] ?_
 obtain ⟨x6, hx, h⟩ := bind_some h
 refine qt (qa0 _ _ hx) ?_
 refine kr [23, 37] ?_
 obtain ⟨x7, hx, h⟩ := bind_some h
 refine qt (qh7 _ hx) ?_
 refine kr [23, 37] ?_
 refine qv (fun hb => ?_) (fun hb => ?_)
 ·replace h := qw hb h
  refine kr [23, 37] ?_
  refine q8 (fun hb => ?_) (fun hb => ?_)
  ·replace h := qx hb h
   refine kr [23, 37] ?_
   obtain ⟨x8, hx, h⟩ := bind_some h
   refine qt (W2 _ _ _ hx) ?_
   refine kr [23, 37] ?_
   cases h
   exact kf
  ·replace h := qw hb h
   refine kr [23, 37] ?_
   cases h
   exact kf
 ·replace h := qx hb h
  refine kr [23, 37] ?_
  cases h
  exact kf
def wo (t0 : BA) (o0 : Node) : Option Bool :=
 Zz t0 >>= fun x4 =>
 if (decide (x4.2.1 = (0 : Int))) = true then
  wi x4.1 t0 >>= fun x5 =>
  if (!x5) = true then
   some false
  else
   wm t0 x4.1
 else
  wm t0 x4.1
@[reducible] def qbw (t0 : BA) (o0 : Node) (r : Bool) : Prop :=
  Ok Tryz.prog G tt 54 0 (Ret Tryz.prog [.tmp 2] (fun y H => Told Tryz.prog G H y (.bool r))) (.go [] (vc [23, 37] Tryz.f6 23) [] (.n (.str t0) (.n .undef (.n (.ptr 0 0 0) .z .z) .z) .z) 1 [(0, .var 26 (zp o0))])
theorem Yf : PC2 qbw wo := fun t0 o0 r h => by
 rw [wo.eq_def] at h
 refine kr [23, 37] ?_
 obtain ⟨x4, hx, h⟩ := bind_some h
 refine qt (qa3 _ _ hx) ?_
 refine kr [23, 37] ?_
 refine qv (fun hb => ?_) (fun hb => ?_)
 ·replace h := qw hb h
  refine kr [23, 37] ?_
  obtain ⟨x5, hx, h⟩ := bind_some h
  refine qt (W2 _ _ _ hx) ?_
  refine kr [23, 37] ?_
  refine qg (fun hb => ?_) (fun hb => ?_)
  ·replace h := qw hb h
   refine kr [23, 37] ?_
   cases h
   exact kf
  ·replace h := qx hb h
   refine kr [23, 37] ?_
   exact qz (by kernel_rfl) rfl lA (Ye _ _ _ h)
 ·replace h := qx hb h
  refine kr [23, 37] ?_
  exact qz (by kernel_rfl) rfl lA (Ye _ _ _ h)
def Z2 (a0 : BA) : Option Bool :=
 if (decide ((4000 : Int) < (a0.size : Int))) = true then
  K8 >>= fun x1 =>
  some x1
 else
  Zy a0 >>= fun x2 =>
  if (decide (x2.2.1 = (0 : Int))) = true then
   wi x2.1 a0 >>= fun x3 =>
   if (!x3) = true then
    some false
   else
    wo a0 x2.1
  else
   wo a0 x2.1
@[reducible] def Wl (a0 : BA) (r : Bool) : Prop :=
  Fn Tryz.prog G 6 [(.str a0)] (.bool r)
theorem qe9 : PC1 Wl Z2 := fun a0 r h => by
 rw [Z2.eq_def] at h
 refine ji (T := tt) (N := 54) (rs := [.tmp 2]) (fun vs w => by simp) Tryz.func6 rfl rfl rfl rfl (by kernel_rfl) (kw rfl) (jv _ rfl) ?_
 refine kr [23, 37] ?_
 refine qg (fun hb => ?_) (fun hb => ?_)
 ·replace h := qw hb h
  refine kr [23, 37] ?_
  obtain ⟨x1, hx, h⟩ := bind_some h
  refine qt (qh7 _ hx) ?_
  refine kr [23, 37] ?_
  cases h
  exact kf
 ·replace h := qx hb h
  refine kr [23, 37] ?_
  obtain ⟨x2, hx, h⟩ := bind_some h
  refine qt (qa1 _ _ hx) ?_
  refine kr [23, 37] ?_
  refine qv (fun hb => ?_) (fun hb => ?_)
  ·replace h := qw hb h
   refine kr [23, 37] ?_
   obtain ⟨x3, hx, h⟩ := bind_some h
   refine qt (W2 _ _ _ hx) ?_
   refine kr [23, 37] ?_
   refine qg (fun hb => ?_) (fun hb => ?_)
   ·replace h := qw hb h
    refine kr [23, 37] ?_
    cases h
    exact kf
   ·replace h := qx hb h
    refine kr [23, 37] ?_
    exact qz (by kernel_rfl) rfl lA (Yf _ _ _ h)
  ·replace h := qx hb h
   refine kr [23, 37] ?_
   exact qz (by kernel_rfl) rfl lA (Yf _ _ _ h)
end Go.Proofs.YtigmilhpeodhbaaGreatDoorW.Ex.Gr
