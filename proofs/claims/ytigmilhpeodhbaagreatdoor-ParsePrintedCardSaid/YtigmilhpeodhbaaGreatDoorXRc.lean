/- The functions of the program's layer 9 and of its references, printed as functions on numbers, strings, lists and trees, with the proofs that they are what the code computes. Conditions: those in each theorem. -/
import Derived.Test.YtigmilhpeodhbaaGreatDoorXRb
namespace Go.Proofs.YtigmilhpeodhbaaGreatDoorW.Ex.Gr
open Go Go.Proofs.YtigmilhpeodhbaaGreatDoorW.Ex
set_option linter.all false
set_option maxRecDepth 100000
set_option synthInstance.maxSize 4000
set_option maxHeartbeats 4000000
open Go.Proofs.YtigmilhpeodhbaaGreatDoorW.Plain
def Jh (t0 : BA) (t1 : BA) : Option Bool :=
 if (decide (t0 = (⟨#[47]⟩ : BA))) = true then
  some (decide (t1 = (⟨#[47]⟩ : BA)))
 else
  some false
@[reducible] def qif (t0 : BA) (t1 : BA) (r : Bool) : Prop :=
  Ok Tryz.prog G tt 38 0 (Ret Tryz.prog [.tmp 4] (fun y H => Told Tryz.prog G H y (.bool r))) (.go [] (v7 [11] Tryz.f42 11) [] (.n (.str t0) (.n (.str t1) .z .z) .z) 0 [])
theorem qby : PC2 qif Jh := fun t0 t1 r h => by
 rw [Jh.eq_def] at h
 refine kr [11] ?_
 refine qv (fun hb => ?_) (fun hb => ?_)
 ·replace h := qw hb h
  refine kr [11] ?_
  cases h
  exact kf
 replace h := qx hb h
 refine kr [11] ?_
 cases h
 exact kf
def Wl (a0 : BA) (a1 : BA) : Option Bool :=
 if (decide (a0 = (⟨#[]⟩ : BA))) = true then
  some false
 else
  if (decide (a1 = (⟨#[]⟩ : BA))) = true then
   some false
  else
   sx a0 (IntKind.i64.wrap ((a0.size : Int) - (1 : Int))) >>= fun x1 =>
   Q0 x1 >>= fun x2 =>
   if x2 = true then
    sx a1 (0 : Int) >>= fun x3 =>
    Q0 x3 >>= fun x4 =>
    if x4 = true then
     some true
    else
     if (decide (a0 = (⟨#[61]⟩ : BA))) = true then
      if (decide (a1 = (⟨#[61]⟩ : BA))) = true then
       some true
      else
       some (decide (a1 = (⟨#[61, 61]⟩ : BA)))
     else
      Jh a0 a1
   else
    if (decide (a0 = (⟨#[61]⟩ : BA))) = true then
     if (decide (a1 = (⟨#[61]⟩ : BA))) = true then
      some true
     else
      some (decide (a1 = (⟨#[61, 61]⟩ : BA)))
    else
     Jh a0 a1
@[reducible] def qo8 (a0 : BA) (a1 : BA) (r : Bool) : Prop :=
  Fn Tryz.prog G 42 [(.str a0), (.str a1)] (.bool r)
theorem qpj : PC2 qo8 Wl := fun a0 a1 r h => by
 rw [Wl.eq_def] at h
 refine jk (T := tt) (N := 38) (rs := [.tmp 4]) (fun vs w => by simp) Tryz.func42 rfl rfl rfl rfl (by kernel_rfl) (ko rfl) (jn _ rfl) ?_
 refine kr [11] ?_
 refine qy (fun hb => ?_) (fun hb => ?_)
 ·replace h := qx hb h
  refine kr [11] ?_
  refine qf (fun hb => ?_) (fun hb => ?_)
  ·replace h := qw hb h
   refine kr [11] ?_
   cases h
   exact kf
  replace h := qx hb h
  refine kr [11] ?_
  obtain ⟨x1, hx, h⟩ := bind_some h
  refine qte env hx rfl rfl rfl rfl ?_
  refine kr [11] ?_
  obtain ⟨x2, hx, h⟩ := bind_some h
  refine qn (qat _ _ hx) ?_
  refine kr [11] ?_
  refine qv (fun hb => ?_) (fun hb => ?_)
  ·replace h := qw hb h
   refine kr [11] ?_
   obtain ⟨x3, hx, h⟩ := bind_some h
   refine qte env hx rfl rfl rfl rfl ?_
   refine kr [11] ?_
   obtain ⟨x4, hx, h⟩ := bind_some h
   refine qn (qat _ _ hx) ?_
   refine kr [11] ?_
   refine qf (fun hb => ?_) (fun hb => ?_)
   ·replace h := qw hb h
    refine kr [11] ?_
    cases h
    exact kf
   replace h := qx hb h
   refine kr [11] ?_
   refine qf (fun hb => ?_) (fun hb => ?_)
   ·replace h := qw hb h
    refine kr [11] ?_
    refine qy (fun hb => ?_) (fun hb => ?_)
    ·replace h := qx hb h
     refine kr [11] ?_
     cases h
     exact kf
    replace h := qw hb h
    refine kr [11] ?_
    cases h
    exact kf
   replace h := qx hb h
   refine kr [11] ?_
   exact qz (by kernel_rfl) rfl lA (qby _ _ _ h)
  replace h := qx hb h
  refine kr [11] ?_
  refine qf (fun hb => ?_) (fun hb => ?_)
  ·replace h := qw hb h
   refine kr [11] ?_
   refine qy (fun hb => ?_) (fun hb => ?_)
   ·replace h := qx hb h
    refine kr [11] ?_
    cases h
    exact kf
   replace h := qw hb h
   refine kr [11] ?_
   cases h
   exact kf
  replace h := qx hb h
  refine kr [11] ?_
  exact qz (by kernel_rfl) rfl lA (qby _ _ _ h)
 replace h := qw hb h
 refine kr [11] ?_
 cases h
 exact kf
def Z9  : Option Int :=
 some (0 : Int)
@[reducible] def qfi  (r : Int) : Prop :=
  Ok Tryz.prog G tt 21 0 (Ret Tryz.prog [.tmp 2] (fun y H => Told Tryz.prog G H y (.int .i64 r))) (.go [] (v7 [20] Tryz.f20 20) [] .z 0 [])
theorem Wx : PC0 qfi Z9 := fun  r h => by
 rw [Z9.eq_def] at h
 refine kr [20] ?_
 cases h
 exact kf
def Zp (a0 : Int) : Option Int :=
 if (decide (a0 = (2 : Int))) = true then
  some (1 : Int)
 else
  if (decide (a0 = (7 : Int))) = true then
   some (1 : Int)
  else
   if (decide (a0 = (9 : Int))) = true then
    some (1 : Int)
   else
    if (decide (a0 = (10 : Int))) = true then
     some (2 : Int)
    else
     if (decide (a0 = (11 : Int))) = true then
      some (2 : Int)
     else
      if (decide (a0 = (12 : Int))) = true then
       some (2 : Int)
      else
       if (decide (a0 = (13 : Int))) = true then
        some (2 : Int)
       else
        if (decide (a0 = (15 : Int))) = true then
         some (2 : Int)
        else
         if (decide (a0 = (16 : Int))) = true then
          some (2 : Int)
         else
          if (decide ((17 : Int) ≤ a0)) = true then
           if (decide (a0 ≤ (26 : Int))) = true then
            some (3 : Int)
           else
            Z9 
          else
           Z9 
@[reducible] def qjq (a0 : Int) (r : Int) : Prop :=
  Fn Tryz.prog G 20 [(.int .i64 a0)] (.int .i64 r)
theorem Wh : PC1 qjq Zp := fun a0 r h => by
 rw [Zp.eq_def] at h
 refine jk (T := tt) (N := 21) (rs := [.tmp 2]) (fun vs w => by simp) Tryz.func20 rfl rfl rfl rfl (by kernel_rfl) (ko rfl) (jn _ rfl) ?_
 refine kr [20] ?_
 refine qf (fun hb => ?_) (fun hb => ?_)
 ·replace h := qw hb h
  refine kr [20] ?_
  cases h
  exact kf
 replace h := qx hb h
 refine kr [20] ?_
 refine qf (fun hb => ?_) (fun hb => ?_)
 ·replace h := qw hb h
  refine kr [20] ?_
  cases h
  exact kf
 replace h := qx hb h
 refine kr [20] ?_
 refine qf (fun hb => ?_) (fun hb => ?_)
 ·replace h := qw hb h
  refine kr [20] ?_
  cases h
  exact kf
 replace h := qx hb h
 refine kr [20] ?_
 refine qf (fun hb => ?_) (fun hb => ?_)
 ·replace h := qw hb h
  refine kr [20] ?_
  cases h
  exact kf
 replace h := qx hb h
 refine kr [20] ?_
 refine qf (fun hb => ?_) (fun hb => ?_)
 ·replace h := qw hb h
  refine kr [20] ?_
  cases h
  exact kf
 replace h := qx hb h
 refine kr [20] ?_
 refine qf (fun hb => ?_) (fun hb => ?_)
 ·replace h := qw hb h
  refine kr [20] ?_
  cases h
  exact kf
 replace h := qx hb h
 refine kr [20] ?_
 refine qf (fun hb => ?_) (fun hb => ?_)
 ·replace h := qw hb h
  refine kr [20] ?_
  cases h
  exact kf
 replace h := qx hb h
 refine kr [20] ?_
 refine qf (fun hb => ?_) (fun hb => ?_)
 ·replace h := qw hb h
  refine kr [20] ?_
  cases h
  exact kf
 replace h := qx hb h
 refine kr [20] ?_
 refine qf (fun hb => ?_) (fun hb => ?_)
 ·replace h := qw hb h
  refine kr [20] ?_
  cases h
  exact kf
 replace h := qx hb h
 refine kr [20] ?_
 refine qv (fun hb => ?_) (fun hb => ?_)
 ·replace h := qw hb h
  refine kr [20] ?_
  refine qf (fun hb => ?_) (fun hb => ?_)
  ·replace h := qw hb h
   refine kr [20] ?_
   cases h
   exact kf
  replace h := qx hb h
  refine kr [20] ?_
  exact qz (by kernel_rfl) rfl lA (Wx _ h)
 replace h := qx hb h
 refine kr [20] ?_
 exact qz (by kernel_rfl) rfl lA (Wx _ h)
def Yr (a0 : Int) : Option BA :=
 Ji (⟨#[9]⟩ : BA) a0 >>= fun x1 =>
 cat (⟨#[10]⟩ : BA) x1 >>= fun x2 =>
 some x2
@[reducible] def qo9 (a0 : Int) (r : BA) : Prop :=
  Fn Tryz.prog G 143 [(.int .i64 a0)] (.str r)
theorem qgf : PC1 qo9 Yr := fun a0 r h => by
 rw [Yr.eq_def] at h
 refine jk (T := tt) (N := 6) (rs := [.tmp 2]) (fun vs w => by simp) Tryz.func143 rfl rfl rfl rfl (by kernel_rfl) (ko rfl) (jn _ rfl) ?_
 refine kr [] ?_
 obtain ⟨x1, hx, h⟩ := bind_some h
 refine qn (qik _ _ _ hx) ?_
 refine kr [] ?_
 obtain ⟨x2, hx, h⟩ := bind_some h
 refine q6l env hx rfl rfl ?_
 refine kr [] ?_
 cases h
 exact kf
def yi (l : LU) (c : Int) : Option LU := if l.length + 1 ≤ 140737488355328 ∧ 0 ≤ c ∧ c < 256 then some (l ++ [c.toNat.toUInt8]) else none
theorem vz (l : LU) (c : Int) (r : LU) (h : yi l c = some r) : AC Tryz.prog G 44 [.ptr 0 0 0, .int .u8 c] 2 [(0, .var 60 [.optr 0 0 0, .bs 1 1 1 0 l.length]), (1, .row 5 (l.map c8).flatten)] .nili 3 [(0, .var 60 [.optr 0 0 0, .bs 1 1 2 0 r.length]), (2, .row 5 (r.map c8).flatten)] := by
 unfold yi at h
 split at h
 ·rename_i hc; cases h; exact qtr l c hc
 cases h
def yp (l : LU) (s : BA) : Option LU := if l.length + s.size ≤ 140737488355328 then some (l ++ s.data.toList) else none
theorem Zi (l : LU) (s : BA) (r : LU) (h : yp l s = some r) : AC Tryz.prog G 45 [.ptr 0 0 0, .str s] 2 [(0, .var 60 [.optr 0 0 0, .bs 1 1 1 0 l.length]), (1, .row 5 (l.map c8).flatten)] (.tup [.int .i64 (s.size : Int), .nili]) 3 [(0, .var 60 [.optr 0 0 0, .bs 1 1 2 0 r.length]), (2, .row 5 (r.map c8).flatten)] := by
 unfold yp at h
 split at h
 ·rename_i hc; cases h; exact qpv l s hc
 cases h
def Qi (t0 : BA) (t1 : BA) (o0 : BA) (o1_1 : LU) : Option (BA × LU) :=
 yp o1_1 t0 >>= fun x7 =>
 yp x7 t1 >>= fun x8 =>
 some (t1, x8)
@[reducible] def qp8 (t0 : BA) (t1 : BA) (o0 : BA) (o1_1 : LU) (r : BA × LU) : Prop :=
  Ok Tryz.prog G tt 27 3 (Ret Tryz.prog [] (fun y H => vd Tryz.prog G 3 H y (.tup []) ⟨4, [(0, .var 9 [(.str r.1)]), (1, .var 60 [(.optr 1 1 0), (.bs 1 2 3 0 r.2.length)]), (3, .row 5 (r.2.map c8).flatten)]⟩)) (.go [] (v7 [20] Tryz.f41 20) [] (.n (.str t0) (.n (.str t1) (.n (.ptr 1 1 0) .z .z) .z) (.n (.ptr 0 0 0) .z .z)) 5 [(0, .var 9 [(.str o0)]), (1, .var 60 [(.optr 1 1 0), (.bs 1 2 4 0 o1_1.length)]), (4, .row 5 (o1_1.map c8).flatten)])
theorem Z2 : PC4 qp8 Qi := fun t0 t1 o0 o1_1 r h => by
 rw [Qi.eq_def] at h
 refine kr [20] ?_
 obtain ⟨x7, hx, h⟩ := bind_some h
 refine qb (AC.g9 (Zi _ _ _ hx) [1, 2] [1, 4]) ?_
 refine kr [20] ?_
 obtain ⟨x8, hx, h⟩ := bind_some h
 refine qb (AC.g9 (Zi _ _ _ hx) [1, 2] [1, 5]) ?_
 refine kr [20] ?_
 cases h
 exact ji env rfl (tS [some 0, some 1, some 2] (sV (lS lN) (sV (lS (lS lN)) (sR zx q7))) (j4 jg))
def qg2 (a0 : BA) (a1 : BA) (a2 : BA) (a3 : LU) : Option (BA × LU) :=
 if (decide (a0 = (⟨#[]⟩ : BA))) = true then
  Wl a2 a1 >>= fun x1 =>
  if x1 = true then
   yi a3 (32 : Int) >>= fun x4 =>
   Qi a0 a1 a2 x4
  else
   if (decide (a2 = (⟨#[47]⟩ : BA))) = true then
    y0 a0 (⟨#[47]⟩ : BA) >>= fun x2 =>
    if x2 = true then
     yi a3 (32 : Int) >>= fun x3 =>
     Qi a0 a1 a2 x3
    else
     Qi a0 a1 a2 a3
   else
    Qi a0 a1 a2 a3
 else
  if (decide (a2 = (⟨#[47]⟩ : BA))) = true then
   y0 a0 (⟨#[47]⟩ : BA) >>= fun x5 =>
   if x5 = true then
    yi a3 (32 : Int) >>= fun x6 =>
    Qi a0 a1 a2 x6
   else
    Qi a0 a1 a2 a3
  else
   Qi a0 a1 a2 a3
@[reducible] def q1e (a0 : BA) (a1 : BA) (a2 : BA) (a3 : LU) (r : BA × LU) : Prop :=
  AC Tryz.prog G 41 [(.str a0), (.str a1), (.ptr 0 0 0), (.ptr 1 1 0)] 3 [(0, .var 9 [(.str a2)]), (1, .var 60 [(.optr 1 1 0), (.bs 1 2 2 0 a3.length)]), (2, .row 5 (a3.map c8).flatten)] (.tup []) 4 [(0, .var 9 [(.str r.1)]), (1, .var 60 [(.optr 1 1 0), (.bs 1 2 3 0 r.2.length)]), (3, .row 5 (r.2.map c8).flatten)]
theorem q1f : PC4 q1e qg2 := fun a0 a1 a2 a3 r h => by
 rw [qg2.eq_def] at h
 refine ⟨?_, (zm rfl rfl (zm rfl rfl (ju zx rfl jv))), (qj (qj (ze zx zf))), (zo rfl (zo rfl (jt zx j3))), (qj (qj (ze zx zf))), rfl, rfl, rfl, rfl⟩
 refine wk (T := tt) (N := 27) (rs := []) (fun vs w => by simp) Tryz.func41 rfl rfl rfl (by kernel_rfl) (by kernel_rfl) ?_
 refine kr [20] ?_
 refine qv (fun hb => ?_) (fun hb => ?_)
 ·replace h := qw hb h
  refine kr [20] ?_
  obtain ⟨x1, hx, h⟩ := bind_some h
  refine qn (qpj _ _ _ hx) ?_
  refine kr [20] ?_
  refine qy (fun hb => ?_) (fun hb => ?_)
  ·replace h := qx hb h
   refine kr [20] ?_
   refine qv (fun hb => ?_) (fun hb => ?_)
   ·replace h := qw hb h
    refine kr [20] ?_
    obtain ⟨x2, hx, h⟩ := bind_some h
    refine qn (Zf _ _ _ hx) ?_
    refine kr [20] ?_
    refine qf (fun hb => ?_) (fun hb => ?_)
    ·replace h := qw hb h
     refine kr [20] ?_
     obtain ⟨x3, hx, h⟩ := bind_some h
     refine qb (AC.g9 (vz _ _ _ hx) [1, 2] [1, 2]) ?_
     refine kr [20] ?_
     exact qz (by kernel_rfl) rfl lQ (Z2 _ _ _ _ _ h)
    replace h := qx hb h
    refine kr [20] ?_
    exact qz (by kernel_rfl) rfl lQ (Z2 _ _ _ _ _ h)
   replace h := qx hb h
   refine kr [20] ?_
   exact qz (by kernel_rfl) rfl lQ (Z2 _ _ _ _ _ h)
  replace h := qw hb h
  refine kr [20] ?_
  obtain ⟨x4, hx, h⟩ := bind_some h
  refine qb (AC.g9 (vz _ _ _ hx) [1, 2] [1, 2]) ?_
  refine kr [20] ?_
  exact qz (by kernel_rfl) rfl lQ (Z2 _ _ _ _ _ h)
 replace h := qx hb h
 refine kr [20] ?_
 refine qv (fun hb => ?_) (fun hb => ?_)
 ·replace h := qw hb h
  refine kr [20] ?_
  obtain ⟨x5, hx, h⟩ := bind_some h
  refine qn (Zf _ _ _ hx) ?_
  refine kr [20] ?_
  refine qf (fun hb => ?_) (fun hb => ?_)
  ·replace h := qw hb h
   refine kr [20] ?_
   obtain ⟨x6, hx, h⟩ := bind_some h
   refine qb (AC.g9 (vz _ _ _ hx) [1, 2] [1, 2]) ?_
   refine kr [20] ?_
   exact qz (by kernel_rfl) rfl lQ (Z2 _ _ _ _ _ h)
  replace h := qx hb h
  refine kr [20] ?_
  exact qz (by kernel_rfl) rfl lQ (Z2 _ _ _ _ _ h)
 replace h := qx hb h
 refine kr [20] ?_
 exact qz (by kernel_rfl) rfl lQ (Z2 _ _ _ _ _ h)
def W5 (t1 : BA) (t2 : BA) (t6 : BA) (o0_1 : Node) (a0 : Int) (a1 : BA) (a2 : LB) (a3 : LN) (o0_3 : Int) (o2 : BA) (o3_1 : LU) : Option (BA × LU × LB) :=
 app 16 a2 ([t1]) >>= fun x2 =>
 qg2 t6 t2 o2 o3_1 >>= fun x3 =>
 some (x3.1, x3.2, x2)
@[reducible] def qth (t1 : BA) (t2 : BA) (t6 : BA) (o0_1 : Node) (a0 : Int) (a1 : BA) (a2 : LB) (a3 : LN) (o0_3 : Int) (o2 : BA) (o3_1 : LU) (r : BA × LU × LB) : Prop :=
  Ok Tryz.prog G tt 53 7 (Ret Tryz.prog [] (fun y H => vd Tryz.prog G 7 H y (.tup []) ⟨9, [(0, .var 96 [(.ptr 1 1 0), (.int .i64 o0_1.kind), (.str o0_1.text), (.sl 1 false (o0_1.gaps.map sc)), (.sl 4 false (o0_1.kids.map Node.cells)), (.int .i64 a0), (.str a1), (.bs 1 5 8 0 r.2.2.length), (.bs 4 6 6 0 a3.length), (.int .i64 o0_3)]), (1, .var 70 [(.fn 41 [(.ptr 2 2 0), (.ptr 3 3 0)])]), (2, .var 9 [(.str r.1)]), (3, .var 60 [(.optr 3 3 0), (.bs 1 4 7 0 r.2.1.length)]), (7, .row 5 (r.2.1.map c8).flatten), (8, .row 9 (r.2.2.map sc).flatten), (6, .row 26 (a3.map Node.cells).flatten)]⟩)) (.go [] (v7 [22] Tryz.f121 22) [] (.n (.ptr 0 0 0) (.n (.str t1) .z .z) (.n (.str t2) .z (.n (.str t6) .z .z))) 9 [(0, .var 96 [(.ptr 1 1 0), (.int .i64 o0_1.kind), (.str o0_1.text), (.sl 1 false (o0_1.gaps.map sc)), (.sl 4 false (o0_1.kids.map Node.cells)), (.int .i64 a0), (.str a1), (.bs 1 5 8 0 a2.length), (.bs 4 6 6 0 a3.length), (.int .i64 o0_3)]), (1, .var 70 [(.fn 41 [(.ptr 2 2 0), (.ptr 3 3 0)])]), (2, .var 9 [(.str o2)]), (3, .var 60 [(.optr 3 3 0), (.bs 1 4 7 0 o3_1.length)]), (7, .row 5 (o3_1.map c8).flatten), (8, .row 9 (a2.map sc).flatten), (6, .row 26 (a3.map Node.cells).flatten)])
theorem qjs : PC11 qth W5 := fun t1 t2 t6 o0_1 a0 a1 a2 a3 o0_3 o2 o3_1 r h => by
 rw [W5.eq_def] at h
 refine kr [22] ?_
 obtain ⟨x2, hx, h⟩ := bind_some h
 have hp_x2 := qgx hx (by simp)
 refine qex (C := sc) env hx rfl rfl (by simp) (fun _ => rfl) rfl rfl rfl rfl rfl (by decide) rfl rfl rfl ?_
 refine kr [22] ?_
 obtain ⟨x3, hx, h⟩ := bind_some h
 refine qb (AC.g9 (q1f _ _ _ _ _ hx) [2, 3, 4] [2, 3, 7]) ?_
 refine kr [22] ?_
 cases h
 exact ji env rfl (tS [some 0, some 1, some 2, some 3, some 4, some 5, some 6] (sV (lS (lS (lS (lS (lS (lS (lS (lS (lS (lS lN)))))))))) (sV (lS lN) (sV (lS lN) (sV (lS (lS lN)) (sR zx (sR zr (sR ql q7))))))) (j4 jg))
def yy (a0 : BA) (a3 : LU) (a0_n : Node) (a4 : Int) (a5 : BA) (a6 : LB) (a7 : LN) (a8 : Int) (a1 : BA) (a2 : BA) : Option (BA × LU × LB) :=
 if (decide ((a6.length : Int) < ((a0_n.gaps.map sc).length : Int))) = true then
  ix a0_n.gaps (a6.length : Int) >>= fun x1 =>
  W5 a1 a2 x1 a0_n a4 a5 a6 a7 a8 a0 a3
 else
  W5 a1 a2 a1 a0_n a4 a5 a6 a7 a8 a0 a3
@[reducible] def q4m (a0 : BA) (a3 : LU) (a0_n : Node) (a4 : Int) (a5 : BA) (a6 : LB) (a7 : LN) (a8 : Int) (a1 : BA) (a2 : BA) (r : BA × LU × LB) : Prop :=
  AC Tryz.prog G 121 [(.ptr 0 0 0), (.str a1), (.str a2)] 7 [(0, .var 96 [(.ptr 1 1 0), (.int .i64 a0_n.kind), (.str a0_n.text), (.sl 1 false (a0_n.gaps.map sc)), (.sl 4 false (a0_n.kids.map Node.cells)), (.int .i64 a4), (.str a5), (.bs 1 5 5 0 a6.length), (.bs 4 6 6 0 a7.length), (.int .i64 a8)]), (1, .var 70 [(.fn 41 [(.ptr 2 2 0), (.ptr 3 3 0)])]), (2, .var 9 [(.str a0)]), (3, .var 60 [(.optr 3 3 0), (.bs 1 4 4 0 a3.length)]), (4, .row 5 (a3.map c8).flatten), (5, .row 9 (a6.map sc).flatten), (6, .row 26 (a7.map Node.cells).flatten)] (.tup []) 9 [(0, .var 96 [(.ptr 1 1 0), (.int .i64 a0_n.kind), (.str a0_n.text), (.sl 1 false (a0_n.gaps.map sc)), (.sl 4 false (a0_n.kids.map Node.cells)), (.int .i64 a4), (.str a5), (.bs 1 5 8 0 r.2.2.length), (.bs 4 6 6 0 a7.length), (.int .i64 a8)]), (1, .var 70 [(.fn 41 [(.ptr 2 2 0), (.ptr 3 3 0)])]), (2, .var 9 [(.str r.1)]), (3, .var 60 [(.optr 3 3 0), (.bs 1 4 7 0 r.2.1.length)]), (7, .row 5 (r.2.1.map c8).flatten), (8, .row 9 (r.2.2.map sc).flatten), (6, .row 26 (a7.map Node.cells).flatten)]
theorem jr : PC10 q4m yy := fun a0 a3 a0_n a4 a5 a6 a7 a8 a1 a2 r h => by
 rw [yy.eq_def] at h
 refine ⟨?_, (zm rfl rfl (zm rfl rfl (zm rfl rfl (zm rfl rfl (ju zx rfl (ju zr rfl (ju ql rfl jv))))))), (qj (qj (qj (qj (ze zx (ze zr (ze ql zf))))))), (zo rfl (zo rfl (zo rfl (zo rfl (jt zx (jt zr (jt ql j3))))))), (qj (qj (qj (qj (ze zx (ze zr (ze ql zf))))))), rfl, rfl, rfl, rfl⟩
 refine wk (T := tt) (N := 53) (rs := []) (fun vs w => by simp) Tryz.func121 rfl rfl rfl (by kernel_rfl) (by kernel_rfl) ?_
 refine kr [22] ?_
 refine qf (fun hb => ?_) (fun hb => ?_)
 ·replace h := qw hb h
  refine kr [22] ?_
  obtain ⟨x1, hx, h⟩ := bind_some h
  refine Kf env hx rfl rfl rfl rfl rfl ?_
  refine kr [22] ?_
  exact qz (by kernel_rfl) rfl lQ (qjs _ _ _ _ _ _ _ _ _ _ _ _ h)
 replace h := qx hb h
 refine kr [22] ?_
 exact qz (by kernel_rfl) rfl lQ (qjs _ _ _ _ _ _ _ _ _ _ _ _ h)
def Yu (t1 : BA) (o0_1 : Node) (a0 : Int) (a1 : BA) (a2 : LB) (a3 : LN) (o0_3 : Int) (o2 : BA) (o3_1 : LU) : Option (BA × LU × LB × LN × Int) :=
 yy o2 o3_1 o0_1 a0 a1 a2 a3 o0_3 t1 (⟨#[]⟩ : BA) >>= fun x78 =>
 some (x78.1, x78.2.1, x78.2.2, a3, o0_3)
@[reducible] def qpe (t1 : BA) (o0_1 : Node) (a0 : Int) (a1 : BA) (a2 : LB) (a3 : LN) (o0_3 : Int) (o2 : BA) (o3_1 : LU) (r : BA × LU × LB × LN × Int) : Prop :=
  Ok Tryz.prog G tt 146 7 (Ret Tryz.prog [] (fun y H => vd Tryz.prog G 7 H y (.tup []) ⟨10, [(0, .var 96 [(.ptr 1 1 0), (.int .i64 o0_1.kind), (.str o0_1.text), (.sl 1 false (o0_1.gaps.map sc)), (.sl 4 false (o0_1.kids.map Node.cells)), (.int .i64 a0), (.str a1), (.bs 1 5 8 0 r.2.2.1.length), (.bs 4 6 9 0 r.2.2.2.1.length), (.int .i64 r.2.2.2.2)]), (1, .var 70 [(.fn 41 [(.ptr 2 2 0), (.ptr 3 3 0)])]), (2, .var 9 [(.str r.1)]), (3, .var 60 [(.optr 3 3 0), (.bs 1 4 7 0 r.2.1.length)]), (7, .row 5 (r.2.1.map c8).flatten), (8, .row 9 (r.2.2.1.map sc).flatten), (9, .row 26 (r.2.2.2.1.map Node.cells).flatten)]⟩)) (.go [] (v7 [22, 33] Tryz.f93 33) [] (.n (.ptr 0 0 0) (.n (.str t1) .z .z) .z) 13 [(0, .var 96 [(.ptr 1 1 0), (.int .i64 o0_1.kind), (.str o0_1.text), (.sl 1 false (o0_1.gaps.map sc)), (.sl 4 false (o0_1.kids.map Node.cells)), (.int .i64 a0), (.str a1), (.bs 1 5 11 0 a2.length), (.bs 4 6 12 0 a3.length), (.int .i64 o0_3)]), (1, .var 70 [(.fn 41 [(.ptr 2 2 0), (.ptr 3 3 0)])]), (2, .var 9 [(.str o2)]), (3, .var 60 [(.optr 3 3 0), (.bs 1 4 10 0 o3_1.length)]), (10, .row 5 (o3_1.map c8).flatten), (11, .row 9 (a2.map sc).flatten), (12, .row 26 (a3.map Node.cells).flatten)])
theorem qgg : PC9 qpe Yu := fun t1 o0_1 a0 a1 a2 a3 o0_3 o2 o3_1 r h => by
 rw [Yu.eq_def] at h
 refine kr [22, 33] ?_
 obtain ⟨x78, hx, h⟩ := bind_some h
 refine qb (AC.g9 (jr _ _ _ _ _ _ _ _ _ _ _ hx) [0, 1, 2, 3, 4, 5, 6] [0, 1, 2, 3, 10, 11, 12]) ?_
 refine kr [22, 33] ?_
 cases h
 exact ji env rfl (tS [some 0, some 1, some 2, some 3, some 4, some 5, some 6] (sV (lS (lS (lS (lS (lS (lS (lS (lS (lS (lS lN)))))))))) (sV (lS lN) (sV (lS lN) (sV (lS (lS lN)) (sR zx (sR zr (sR ql q7))))))) (j4 jg))
def Yk (o1 : BA) (o2_1 : LU) (o6_1 : Node) (a0 : Int) (a1 : BA) (a2 : LB) (a3 : LN) (o6_3 : Int) : Option (Node × BA × LU) :=
 some ((Node.mk a0 a1 a2 a3), o1, o2_1)
@[reducible] def qp7 (o1 : BA) (o2_1 : LU) (o6_1 : Node) (a0 : Int) (a1 : BA) (a2 : LB) (a3 : LN) (o6_3 : Int) (r : Node × BA × LU) : Prop :=
  Ok Tryz.prog G tt 41 4 (Ret Tryz.prog [.cell 8 26] (fun y H => vd Tryz.prog G 4 H y (.agg (zp r.1)) ⟨5, [(0, .var 70 [(.fn 41 [(.ptr 1 1 0), (.ptr 2 2 0)])]), (1, .var 9 [(.str r.2.1)]), (2, .var 60 [(.optr 2 2 0), (.bs 1 3 4 0 r.2.2.length)]), (4, .row 5 (r.2.2.map c8).flatten)]⟩)) (.go [] (v7 [23, 30] Tryz.f46 23) [] (.n .undef (.n .undef .z (.n .undef (.n (.ptr 6 6 0) .z .z) .z)) (.n .undef (.n .undef (.n (.ptr 5 5 0) .z .z) .z) .z)) 13 [(0, .var 70 [(.fn 41 [(.ptr 1 1 0), (.ptr 2 2 0)])]), (1, .var 9 [(.str o1)]), (2, .var 60 [(.optr 2 2 0), (.bs 1 3 12 0 o2_1.length)]), (12, .row 5 (o2_1.map c8).flatten), (4, .dead), (5, .var 26 [(.int .i64 0), (.str ⟨#[]⟩), (.sl 0 true []), (.sl 0 true [])]), (6, .var 96 [(.ptr 0 0 0), (.int .i64 o6_1.kind), (.str o6_1.text), (.sl 1 false (o6_1.gaps.map sc)), (.sl 4 false (o6_1.kids.map Node.cells)), (.int .i64 a0), (.str a1), (.bs 1 7 10 0 a2.length), (.bs 4 8 11 0 a3.length), (.int .i64 o6_3)]), (10, .row 9 (a2.map sc).flatten), (11, .row 26 (a3.map Node.cells).flatten)])
theorem qhh : PC8 qp7 Yk := fun o1 o2_1 o6_1 a0 a1 a2 a3 o6_3 r h => by
 rw [Yk.eq_def] at h
 refine kr [23, 30] ?_
 cases h
 exact j8 env rfl rfl (tS [some 0, some 1, some 2, some 3] (sV (lS lN) (sV (lS lN) (sV (lS (lS lN)) (sR zx q7)))) (yf (yr (qh (qg (zy rfl) rfl) (qh (qg (jw rfl) rfl) (qh (qg (ya zr rfl) rfl) (qh (qg (ya ql rfl) rfl) yq))))) (by simp)))
def Ks (o1 : BA) (o2_1 : LU) (o6_1 : Node) (a0 : Int) (a1 : BA) (a2 : LB) (a3 : LN) (o6_3 : Int) : Option (Node × BA × LU) :=
 Yk o1 o2_1 o6_1 a0 a1 a2 a3 o6_3
@[reducible] def qp6 (o1 : BA) (o2_1 : LU) (o6_1 : Node) (a0 : Int) (a1 : BA) (a2 : LB) (a3 : LN) (o6_3 : Int) (r : Node × BA × LU) : Prop :=
  Ok Tryz.prog G tt 41 4 (Ret Tryz.prog [.cell 8 26] (fun y H => vd Tryz.prog G 4 H y (.agg (zp r.1)) ⟨5, [(0, .var 70 [(.fn 41 [(.ptr 1 1 0), (.ptr 2 2 0)])]), (1, .var 9 [(.str r.2.1)]), (2, .var 60 [(.optr 2 2 0), (.bs 1 3 4 0 r.2.2.length)]), (4, .row 5 (r.2.2.map c8).flatten)]⟩)) (.go [] (v7 [23, 30] Tryz.f46 30) [] (.n .undef (.n .undef .z (.n .undef (.n (.ptr 6 6 0) .z .z) .z)) (.n .undef (.n .undef (.n (.ptr 5 5 0) .z .z) .z) .z)) 13 [(0, .var 70 [(.fn 41 [(.ptr 1 1 0), (.ptr 2 2 0)])]), (1, .var 9 [(.str o1)]), (2, .var 60 [(.optr 2 2 0), (.bs 1 3 12 0 o2_1.length)]), (12, .row 5 (o2_1.map c8).flatten), (4, .dead), (5, .var 26 [(.int .i64 0), (.str ⟨#[]⟩), (.sl 0 true []), (.sl 0 true [])]), (6, .var 96 [(.ptr 0 0 0), (.int .i64 o6_1.kind), (.str o6_1.text), (.sl 1 false (o6_1.gaps.map sc)), (.sl 4 false (o6_1.kids.map Node.cells)), (.int .i64 a0), (.str a1), (.bs 1 7 10 0 a2.length), (.bs 4 8 11 0 a3.length), (.int .i64 o6_3)]), (10, .row 9 (a2.map sc).flatten), (11, .row 26 (a3.map Node.cells).flatten)])
theorem qhg : PC8 qp6 Ks := fun o1 o2_1 o6_1 a0 a1 a2 a3 o6_3 r h => by
 rw [Ks.eq_def] at h
 refine kr [23, 30] ?_
 exact qz (by kernel_rfl) rfl lQ (qhh _ _ _ _ _ _ _ _ _ h)
mutual
def qbb (a0 : BA) (a4 : LU) (a1 : Node) (a2 : BA) (a3 : Int) : Option (Node × BA × LU) :=
 Zp a1.kind >>= fun x1 =>
 if (decide (x1 = (3 : Int))) = true then
  J5 (qa a0) (qa a4) (qa a1) a1.kind a1.text ([] : LB) ([] : LN) (qa a3) (qa a2) >>= fun x2 =>
  Yk x2.1 x2.2.1 (qa a1) a1.kind a1.text x2.2.2.1 x2.2.2.2 (qa a3)
 else
  Zp a1.kind >>= fun x3 =>
  if (decide (x3 = (2 : Int))) = true then
   Yq (qa a0) (qa a4) (qa a1) a1.kind a1.text ([] : LB) ([] : LN) (qa a3) (qa a2) >>= fun x4 =>
   Ks x4.1 x4.2.1 (qa a1) a1.kind a1.text x4.2.2.1 x4.2.2.2 (qa a3)
  else
   qd1 (qa a0) (qa a4) (qa a1) a1.kind a1.text ([] : LB) ([] : LN) (qa a3) (qa a2) >>= fun x5 =>
   Ks x5.1 x5.2.1 (qa a1) a1.kind a1.text x5.2.2.1 x5.2.2.2.1 x5.2.2.2.2
 partial_fixpoint
def J5 (a0 : BA) (a2 : LU) (a0_n : Node) (a3 : Int) (a4 : BA) (a5 : LB) (a6 : LN) (a7 : Int) (a1 : BA) : Option (BA × LU × LB × LN) :=
 if (decide (a0_n.kind = (20 : Int))) = true then
  yy (qa a0) (qa a2) (qa a0_n) (qa a3) (qa a4) (qa a5) (qa a6) (qa a7) (qa a1) a0_n.text >>= fun x6 =>
  yy x6.1 x6.2.1 (qa a0_n) (qa a3) (qa a4) x6.2.2 (qa a6) (qa a7) (⟨#[]⟩ : BA) (⟨#[40]⟩ : BA) >>= fun x7 =>
  qba x7.1 x7.2.1 (qa a0_n) (qa a3) (qa a4) x7.2.2 (qa a6) (qa a7) >>= fun x8 =>
  some (x8.1, x8.2.1, x8.2.2.1, x8.2.2.2)
 else
  if (decide (a0_n.kind = (21 : Int))) = true then
   ur (qa a0) (qa a2) (qa a0_n) (qa a3) (qa a4) (qa a5) (qa a6) (qa a7) (qa a1) >>= fun x9 =>
   yy x9.1 x9.2.1 (qa a0_n) (qa a3) (qa a4) (qa a5) x9.2.2 (qa a7) (⟨#[]⟩ : BA) (⟨#[46]⟩ : BA) >>= fun x10 =>
   yy x10.1 x10.2.1 (qa a0_n) (qa a3) (qa a4) x10.2.2 x9.2.2 (qa a7) (⟨#[]⟩ : BA) a0_n.text >>= fun x11 =>
   yy x11.1 x11.2.1 (qa a0_n) (qa a3) (qa a4) x11.2.2 x9.2.2 (qa a7) (⟨#[]⟩ : BA) (⟨#[40]⟩ : BA) >>= fun x12 =>
   qba x12.1 x12.2.1 (qa a0_n) (qa a3) (qa a4) x12.2.2 x9.2.2 (qa a7) >>= fun x13 =>
   some (x13.1, x13.2.1, x13.2.2.1, x13.2.2.2)
  else
   if (decide (a0_n.kind = (22 : Int))) = true then
    yy (qa a0) (qa a2) (qa a0_n) (qa a3) (qa a4) (qa a5) (qa a6) (qa a7) (qa a1) (⟨#[110, 101, 119]⟩ : BA) >>= fun x14 =>
    yy x14.1 x14.2.1 (qa a0_n) (qa a3) (qa a4) x14.2.2 (qa a6) (qa a7) (⟨#[32]⟩ : BA) a0_n.text >>= fun x15 =>
    yy x15.1 x15.2.1 (qa a0_n) (qa a3) (qa a4) x15.2.2 (qa a6) (qa a7) (⟨#[]⟩ : BA) (⟨#[40]⟩ : BA) >>= fun x16 =>
    yy x16.1 x16.2.1 (qa a0_n) (qa a3) (qa a4) x16.2.2 (qa a6) (qa a7) (⟨#[]⟩ : BA) (⟨#[41]⟩ : BA) >>= fun x17 =>
    some (x17.1, x17.2.1, x17.2.2, a6)
   else
    if (decide (a0_n.kind = (24 : Int))) = true then
     ur (qa a0) (qa a2) (qa a0_n) (qa a3) (qa a4) (qa a5) (qa a6) (qa a7) (qa a1) >>= fun x18 =>
     yy x18.1 x18.2.1 (qa a0_n) (qa a3) (qa a4) (qa a5) x18.2.2 (qa a7) (⟨#[32]⟩ : BA) a0_n.text >>= fun x19 =>
     ur x19.1 x19.2.1 (qa a0_n) (qa a3) (qa a4) x19.2.2 x18.2.2 (qa a7) (⟨#[32]⟩ : BA) >>= fun x20 =>
     some (x20.1, x20.2.1, x19.2.2, x20.2.2)
    else
     if (decide (a0_n.kind = (25 : Int))) = true then
      yy (qa a0) (qa a2) (qa a0_n) (qa a3) (qa a4) (qa a5) (qa a6) (qa a7) (qa a1) a0_n.text >>= fun x21 =>
      ur x21.1 x21.2.1 (qa a0_n) (qa a3) (qa a4) x21.2.2 (qa a6) (qa a7) (⟨#[]⟩ : BA) >>= fun x22 =>
      some (x22.1, x22.2.1, x21.2.2, x22.2.2)
     else
      if (decide (a0_n.kind = (26 : Int))) = true then
       yy (qa a0) (qa a2) (qa a0_n) (qa a3) (qa a4) (qa a5) (qa a6) (qa a7) (qa a1) (⟨#[40]⟩ : BA) >>= fun x23 =>
       ur x23.1 x23.2.1 (qa a0_n) (qa a3) (qa a4) x23.2.2 (qa a6) (qa a7) (⟨#[]⟩ : BA) >>= fun x24 =>
       yy x24.1 x24.2.1 (qa a0_n) (qa a3) (qa a4) x23.2.2 x24.2.2 (qa a7) (⟨#[]⟩ : BA) (⟨#[41]⟩ : BA) >>= fun x25 =>
       some (x25.1, x25.2.1, x25.2.2, x24.2.2)
      else
       yy (qa a0) (qa a2) (qa a0_n) (qa a3) (qa a4) (qa a5) (qa a6) (qa a7) (qa a1) a0_n.text >>= fun x26 =>
       some (x26.1, x26.2.1, x26.2.2, a6)
 partial_fixpoint
def Yq (a0 : BA) (a2 : LU) (a0_n : Node) (a3 : Int) (a4 : BA) (a5 : LB) (a6 : LN) (a7 : Int) (a1 : BA) : Option (BA × LU × LB × LN) :=
 if (decide (a0_n.kind = (10 : Int))) = true then
  qag (qa a0) (qa a2) (qa a0_n) (qa a3) (qa a4) (qa a5) (qa a6) (qa a7) (qa a1) (⟨#[108, 101, 116]⟩ : BA) >>= fun x27 =>
  some (x27.1, x27.2.1, x27.2.2.1, x27.2.2.2)
 else
  if (decide (a0_n.kind = (11 : Int))) = true then
   yy (qa a0) (qa a2) (qa a0_n) (qa a3) (qa a4) (qa a5) (qa a6) (qa a7) (qa a1) a0_n.text >>= fun x28 =>
   yy x28.1 x28.2.1 (qa a0_n) (qa a3) (qa a4) x28.2.2 (qa a6) (qa a7) (⟨#[32]⟩ : BA) (⟨#[61]⟩ : BA) >>= fun x29 =>
   ur x29.1 x29.2.1 (qa a0_n) (qa a3) (qa a4) x29.2.2 (qa a6) (qa a7) (⟨#[32]⟩ : BA) >>= fun x30 =>
   yy x30.1 x30.2.1 (qa a0_n) (qa a3) (qa a4) x29.2.2 x30.2.2 (qa a7) (⟨#[]⟩ : BA) (⟨#[59]⟩ : BA) >>= fun x31 =>
   some (x31.1, x31.2.1, x31.2.2, x30.2.2)
  else
   if (decide (a0_n.kind = (12 : Int))) = true then
    yy (qa a0) (qa a2) (qa a0_n) (qa a3) (qa a4) (qa a5) (qa a6) (qa a7) (qa a1) (⟨#[114, 101, 116, 117, 114, 110]⟩ : BA) >>= fun x32 =>
    ur x32.1 x32.2.1 (qa a0_n) (qa a3) (qa a4) x32.2.2 (qa a6) (qa a7) (⟨#[32]⟩ : BA) >>= fun x33 =>
    yy x33.1 x33.2.1 (qa a0_n) (qa a3) (qa a4) x32.2.2 x33.2.2 (qa a7) (⟨#[]⟩ : BA) (⟨#[59]⟩ : BA) >>= fun x34 =>
    some (x34.1, x34.2.1, x34.2.2, x33.2.2)
   else
    if (decide (a0_n.kind = (13 : Int))) = true then
     if (decide (a0_n.kind = (15 : Int))) = true then
      uz (qa a1) (⟨#[119, 104, 105, 108, 101]⟩ : BA) (qa a0_n) (qa a3) (qa a4) (qa a5) (qa a6) (qa a7) (qa a0) (qa a2)
     else
      uz (qa a1) (⟨#[105, 102]⟩ : BA) (qa a0_n) (qa a3) (qa a4) (qa a5) (qa a6) (qa a7) (qa a0) (qa a2)
    else
     if (decide (a0_n.kind = (15 : Int))) = true then
      if (decide (a0_n.kind = (15 : Int))) = true then
       uz (qa a1) (⟨#[119, 104, 105, 108, 101]⟩ : BA) (qa a0_n) (qa a3) (qa a4) (qa a5) (qa a6) (qa a7) (qa a0) (qa a2)
      else
       uz (qa a1) (⟨#[105, 102]⟩ : BA) (qa a0_n) (qa a3) (qa a4) (qa a5) (qa a6) (qa a7) (qa a0) (qa a2)
     else
      ur (qa a0) (qa a2) (qa a0_n) (qa a3) (qa a4) (qa a5) (qa a6) (qa a7) (qa a1) >>= fun x35 =>
      yy x35.1 x35.2.1 (qa a0_n) (qa a3) (qa a4) (qa a5) x35.2.2 (qa a7) (⟨#[]⟩ : BA) (⟨#[59]⟩ : BA) >>= fun x36 =>
      some (x36.1, x36.2.1, x36.2.2, x35.2.2)
 partial_fixpoint
def qd1 (a0 : BA) (a2 : LU) (a0_n : Node) (a3 : Int) (a4 : BA) (a5 : LB) (a6 : LN) (a7 : Int) (a1 : BA) : Option (BA × LU × LB × LN × Int) :=
 if (decide (a0_n.kind = (1 : Int))) = true then
  Zu a0_n.kids 0 (qa a1) (qa a0_n) (qa a3) (qa a4) (qa a5) (qa a6) (qa a7) (qa a0) (qa a2)
 else
  if (decide (a0_n.kind = (2 : Int))) = true then
   yy (qa a0) (qa a2) (qa a0_n) (qa a3) (qa a4) (qa a5) (qa a6) (qa a7) (qa a1) (⟨#[102, 110]⟩ : BA) >>= fun x37 =>
   yy x37.1 x37.2.1 (qa a0_n) (qa a3) (qa a4) x37.2.2 (qa a6) (qa a7) (⟨#[32]⟩ : BA) a0_n.text >>= fun x38 =>
   ur x38.1 x38.2.1 (qa a0_n) (qa a3) (qa a4) x38.2.2 (qa a6) (qa a7) (⟨#[]⟩ : BA) >>= fun x39 =>
   ur x39.1 x39.2.1 (qa a0_n) (qa a3) (qa a4) x38.2.2 x39.2.2 (qa a7) (⟨#[32]⟩ : BA) >>= fun x40 =>
   ur x40.1 x40.2.1 (qa a0_n) (qa a3) (qa a4) x38.2.2 x40.2.2 (qa a7) (⟨#[32]⟩ : BA) >>= fun x41 =>
   some (x41.1, x41.2.1, x38.2.2, x41.2.2, a7)
  else
   if (decide (a0_n.kind = (3 : Int))) = true then
    yy (qa a0) (qa a2) (qa a0_n) (qa a3) (qa a4) (qa a5) (qa a6) (qa a7) (qa a1) (⟨#[40]⟩ : BA) >>= fun x42 =>
    qba x42.1 x42.2.1 (qa a0_n) (qa a3) (qa a4) x42.2.2 (qa a6) (qa a7) >>= fun x43 =>
    some (x43.1, x43.2.1, x43.2.2.1, x43.2.2.2, a7)
   else
    if (decide (a0_n.kind = (4 : Int))) = true then
     yy (qa a0) (qa a2) (qa a0_n) (qa a3) (qa a4) (qa a5) (qa a6) (qa a7) (qa a1) a0_n.text >>= fun x44 =>
     ur x44.1 x44.2.1 (qa a0_n) (qa a3) (qa a4) x44.2.2 (qa a6) (qa a7) (⟨#[32]⟩ : BA) >>= fun x45 =>
     some (x45.1, x45.2.1, x44.2.2, x45.2.2, a7)
    else
     if (decide (a0_n.kind = (5 : Int))) = true then
      yy (qa a0) (qa a2) (qa a0_n) (qa a3) (qa a4) (qa a5) (qa a6) (qa a7) (qa a1) a0_n.text >>= fun x46 =>
      some (x46.1, x46.2.1, x46.2.2, a6, a7)
     else
      if (decide (a0_n.kind = (6 : Int))) = true then
       yy (qa a0) (qa a2) (qa a0_n) (qa a3) (qa a4) (qa a5) (qa a6) (qa a7) (qa a1) (⟨#[123]⟩ : BA) >>= fun x47 =>
       qcm x47.1 x47.2.1 (qa a0_n) (qa a3) (qa a4) x47.2.2 (qa a6) (qa a7) (0 : Int) >>= fun x48 =>
       some (x48.1, x48.2.1, x48.2.2.1, x48.2.2.2.1, x48.2.2.2.2)
      else
       if (decide (a0_n.kind = (7 : Int))) = true then
        yy (qa a0) (qa a2) (qa a0_n) (qa a3) (qa a4) (qa a5) (qa a6) (qa a7) (qa a1) (⟨#[99, 108, 97, 115, 115]⟩ : BA) >>= fun x49 =>
        yy x49.1 x49.2.1 (qa a0_n) (qa a3) (qa a4) x49.2.2 (qa a6) (qa a7) (⟨#[32]⟩ : BA) a0_n.text >>= fun x50 =>
        ur x50.1 x50.2.1 (qa a0_n) (qa a3) (qa a4) x50.2.2 (qa a6) (qa a7) (⟨#[32]⟩ : BA) >>= fun x51 =>
        yy x51.1 x51.2.1 (qa a0_n) (qa a3) (qa a4) x50.2.2 x51.2.2 (qa a7) (⟨#[32]⟩ : BA) (⟨#[123]⟩ : BA) >>= fun x52 =>
        qcm x52.1 x52.2.1 (qa a0_n) (qa a3) (qa a4) x52.2.2 x51.2.2 (qa a7) (1 : Int) >>= fun x53 =>
        some (x53.1, x53.2.1, x53.2.2.1, x53.2.2.2.1, x53.2.2.2.2)
       else
        if (decide (a0_n.kind = (8 : Int))) = true then
         if (!decide (a0_n.text = (⟨#[]⟩ : BA))) = true then
          yy (qa a0) (qa a2) (qa a0_n) (qa a3) (qa a4) (qa a5) (qa a6) (qa a7) (qa a1) (⟨#[58]⟩ : BA) >>= fun x54 =>
          yy x54.1 x54.2.1 (qa a0_n) (qa a3) (qa a4) x54.2.2 (qa a6) (qa a7) (⟨#[32]⟩ : BA) a0_n.text >>= fun x55 =>
          some (x55.1, x55.2.1, x55.2.2, a6, a7)
         else
          some (a0, a2, a5, a6, a7)
        else
         if (decide (a0_n.kind = (9 : Int))) = true then
          qag (qa a0) (qa a2) (qa a0_n) (qa a3) (qa a4) (qa a5) (qa a6) (qa a7) (qa a1) (⟨#[99, 111, 110, 115, 116]⟩ : BA) >>= fun x56 =>
          some (x56.1, x56.2.1, x56.2.2.1, x56.2.2.2, a7)
         else
          if (decide (a0_n.kind = (14 : Int))) = true then
           if (decide ((0 : Int) < ((a0_n.kids.map Node.cells).length : Int))) = true then
            yy (qa a0) (qa a2) (qa a0_n) (qa a3) (qa a4) (qa a5) (qa a6) (qa a7) (qa a1) (⟨#[101, 108, 115, 101]⟩ : BA) >>= fun x57 =>
            ur x57.1 x57.2.1 (qa a0_n) (qa a3) (qa a4) x57.2.2 (qa a6) (qa a7) (⟨#[32]⟩ : BA) >>= fun x58 =>
            some (x58.1, x58.2.1, x57.2.2, x58.2.2, a7)
           else
            some (a0, a2, a5, a6, a7)
          else
           some (a0, a2, a5, a6, a7)
 partial_fixpoint
def qba (a0 : BA) (a1 : LU) (a0_n : Node) (a2 : Int) (a3 : BA) (a4 : LB) (a5 : LN) (a6 : Int) : Option (BA × LU × LB × LN) :=
 Z4 (qa true) (qa a0_n) (qa a2) (qa a3) (qa a4) (qa a5) (qa a6) (qa a0) (qa a1)
 partial_fixpoint
def ur (a0 : BA) (a2 : LU) (a0_n : Node) (a3 : Int) (a4 : BA) (a5 : LB) (a6 : LN) (a7 : Int) (a1 : BA) : Option (BA × LU × LN) :=
 ix a0_n.kids (a6.length : Int) >>= fun x59 =>
 qbb (qa a0) (qa a2) (qa x59) (qa a1) (qa a7) >>= fun x60 =>
 app 72 a6 [x60.1] >>= fun x61 =>
 some (x60.2.1, x60.2.2, x61)
 partial_fixpoint
def qag (a0 : BA) (a3 : LU) (a0_n : Node) (a4 : Int) (a5 : BA) (a6 : LB) (a7 : LN) (a8 : Int) (a1 : BA) (a2 : BA) : Option (BA × LU × LB × LN) :=
 yy (qa a0) (qa a3) (qa a0_n) (qa a4) (qa a5) (qa a6) (qa a7) (qa a8) (qa a1) (qa a2) >>= fun x62 =>
 yy x62.1 x62.2.1 (qa a0_n) (qa a4) (qa a5) x62.2.2 (qa a7) (qa a8) (⟨#[32]⟩ : BA) a0_n.text >>= fun x63 =>
 yy x63.1 x63.2.1 (qa a0_n) (qa a4) (qa a5) x63.2.2 (qa a7) (qa a8) (⟨#[32]⟩ : BA) (⟨#[61]⟩ : BA) >>= fun x64 =>
 ur x64.1 x64.2.1 (qa a0_n) (qa a4) (qa a5) x64.2.2 (qa a7) (qa a8) (⟨#[32]⟩ : BA) >>= fun x65 =>
 yy x65.1 x65.2.1 (qa a0_n) (qa a4) (qa a5) x64.2.2 x65.2.2 (qa a8) (⟨#[]⟩ : BA) (⟨#[59]⟩ : BA) >>= fun x66 =>
 some (x66.1, x66.2.1, x66.2.2, x65.2.2)
 partial_fixpoint
def qcm (a0 : BA) (a2 : LU) (a0_n : Node) (a3 : Int) (a4 : BA) (a5 : LB) (a6 : LN) (a7 : Int) (a1 : Int) : Option (BA × LU × LB × LN × Int) :=
 Ju (qa a1) (qa a0_n) (qa a3) (qa a4) (qa a5) (qa a6) (IntKind.i64.wrap (a7 + (1 : Int))) (qa a0) (qa a2)
 partial_fixpoint
def uz (t1 : BA) (t4 : BA) (o0_1 : Node) (a0 : Int) (a1 : BA) (a2 : LB) (a3 : LN) (o0_3 : Int) (o2 : BA) (o3_1 : LU) : Option (BA × LU × LB × LN) :=
 yy (qa o2) (qa o3_1) (qa o0_1) (qa a0) (qa a1) (qa a2) (qa a3) (qa o0_3) (qa t1) (qa t4) >>= fun x67 =>
 uv o0_1.kids (qa o0_1) (qa a0) (qa a1) x67.2.2 (qa a3) (qa o0_3) x67.1 x67.2.1
 partial_fixpoint
def Zu (a0 : LN) (j0 : Nat) (t1 : BA) (o0_1 : Node) (a1 : Int) (a2 : BA) (a3 : LB) (a4 : LN) (o0_3 : Int) (o2 : BA) (o3_1 : LU) : Option (BA × LU × LB × LN × Int) :=
 match a0 with
 | [] =>
   if (decide ((0 : Int) < ((o0_1.kids.map Node.cells).length : Int))) = true then
    Yu (⟨#[10]⟩ : BA) (qa o0_1) (qa a1) (qa a2) (qa a3) (qa a4) (qa o0_3) (qa o2) (qa o3_1)
   else
    Yu (qa t1) (qa o0_1) (qa a1) (qa a2) (qa a3) (qa a4) (qa o0_3) (qa o2) (qa o3_1)
 | x_0 :: a0 =>
   if (decide ((0 : Int) < ((j0 : Nat) : Int))) = true then
    Jt (qa a0) (qa j0) (⟨#[10, 10]⟩ : BA) (qa o0_1) (qa a1) (qa a2) (qa a3) (qa a4) (qa o0_3) (qa o2) (qa o3_1)
   else
    Jt (qa a0) (qa j0) (qa t1) (qa o0_1) (qa a1) (qa a2) (qa a3) (qa a4) (qa o0_3) (qa o2) (qa o3_1)
 partial_fixpoint
def Z4 (t2 : Bool) (o0_1 : Node) (a0 : Int) (a1 : BA) (a2 : LB) (a3 : LN) (o0_3 : Int) (o2 : BA) (o3_1 : LU) : Option (BA × LU × LB × LN) :=
 if (decide ((a3.length : Int) < ((o0_1.kids.map Node.cells).length : Int))) = true then
  if t2 = true then
   ur (qa o2) (qa o3_1) (qa o0_1) (qa a0) (qa a1) (qa a2) (qa a3) (qa o0_3) (⟨#[]⟩ : BA) >>= fun x68 =>
   Kj (qa o0_1) (qa a0) (qa a1) (qa a2) x68.2.2 (qa o0_3) x68.1 x68.2.1
  else
   yy (qa o2) (qa o3_1) (qa o0_1) (qa a0) (qa a1) (qa a2) (qa a3) (qa o0_3) (⟨#[]⟩ : BA) (⟨#[44]⟩ : BA) >>= fun x69 =>
   ur x69.1 x69.2.1 (qa o0_1) (qa a0) (qa a1) x69.2.2 (qa a3) (qa o0_3) (⟨#[32]⟩ : BA) >>= fun x70 =>
   Kj (qa o0_1) (qa a0) (qa a1) x69.2.2 x70.2.2 (qa o0_3) x70.1 x70.2.1
 else
  yy (qa o2) (qa o3_1) (qa o0_1) (qa a0) (qa a1) (qa a2) (qa a3) (qa o0_3) (⟨#[]⟩ : BA) (⟨#[41]⟩ : BA) >>= fun x71 =>
  some (x71.1, x71.2.1, x71.2.2, a3)
 partial_fixpoint
def Ju (t1 : Int) (o0_1 : Node) (a0 : Int) (a1 : BA) (a2 : LB) (a3 : LN) (o0_3 : Int) (o2 : BA) (o3_1 : LU) : Option (BA × LU × LB × LN × Int) :=
 if (decide ((a3.length : Int) < ((o0_1.kids.map Node.cells).length : Int))) = true then
  Yr (qa o0_3) >>= fun x72 =>
  ur (qa o2) (qa o3_1) (qa o0_1) (qa a0) (qa a1) (qa a2) (qa a3) (qa o0_3) (qa x72) >>= fun x73 =>
  Ju (qa t1) (qa o0_1) (qa a0) (qa a1) (qa a2) x73.2.2 (qa o0_3) x73.1 x73.2.1
 else
  if (decide (t1 < ((o0_1.kids.map Node.cells).length : Int))) = true then
   Yr (IntKind.i64.wrap (o0_3 - (1 : Int))) >>= fun x74 =>
   yy (qa o2) (qa o3_1) (qa o0_1) (qa a0) (qa a1) (qa a2) (qa a3) (IntKind.i64.wrap (o0_3 - (1 : Int))) (qa x74) (⟨#[125]⟩ : BA) >>= fun x75 =>
   some (x75.1, x75.2.1, x75.2.2, a3, (IntKind.i64.wrap (o0_3 - (1 : Int))))
  else
   yy (qa o2) (qa o3_1) (qa o0_1) (qa a0) (qa a1) (qa a2) (qa a3) (IntKind.i64.wrap (o0_3 - (1 : Int))) (⟨#[]⟩ : BA) (⟨#[125]⟩ : BA) >>= fun x76 =>
   some (x76.1, x76.2.1, x76.2.2, a3, (IntKind.i64.wrap (o0_3 - (1 : Int))))
 partial_fixpoint
def uv (a0 : LN) (o0_1 : Node) (a1 : Int) (a2 : BA) (a3 : LB) (a4 : LN) (o0_3 : Int) (o2 : BA) (o3_1 : LU) : Option (BA × LU × LB × LN) :=
 match a0 with
 | [] =>
   some (o2, o3_1, a3, a4)
 | x_0 :: a0 =>
   ur (qa o2) (qa o3_1) (qa o0_1) (qa a1) (qa a2) (qa a3) (qa a4) (qa o0_3) (⟨#[32]⟩ : BA) >>= fun x77 =>
   uv (qa a0) (qa o0_1) (qa a1) (qa a2) (qa a3) x77.2.2 (qa o0_3) x77.1 x77.2.1
 partial_fixpoint
def Jt (a0 : LN) (j0 : Nat) (t1 : BA) (o0_1 : Node) (a1 : Int) (a2 : BA) (a3 : LB) (a4 : LN) (o0_3 : Int) (o2 : BA) (o3_1 : LU) : Option (BA × LU × LB × LN × Int) :=
 ur (qa o2) (qa o3_1) (qa o0_1) (qa a1) (qa a2) (qa a3) (qa a4) (qa o0_3) (qa t1) >>= fun x79 =>
 Zu (qa a0) (j0 + 1) (qa t1) (qa o0_1) (qa a1) (qa a2) (qa a3) x79.2.2 (qa o0_3) x79.1 x79.2.1
 partial_fixpoint
def Kj (o0_1 : Node) (a0 : Int) (a1 : BA) (a2 : LB) (a3 : LN) (o0_3 : Int) (o2 : BA) (o3_1 : LU) : Option (BA × LU × LB × LN) :=
 Z4 (qa false) (qa o0_1) (qa a0) (qa a1) (qa a2) (qa a3) (qa o0_3) (qa o2) (qa o3_1)
 partial_fixpoint
end
@[reducible] def qkx (a0 : BA) (a4 : LU) (a1 : Node) (a2 : BA) (a3 : Int) (r : Node × BA × LU) : Prop :=
  AC Tryz.prog G 46 [(.ptr 0 0 0), (.agg (zp a1)), (.str a2), (.int .i64 a3)] 4 [(0, .var 70 [(.fn 41 [(.ptr 1 1 0), (.ptr 2 2 0)])]), (1, .var 9 [(.str a0)]), (2, .var 60 [(.optr 2 2 0), (.bs 1 3 3 0 a4.length)]), (3, .row 5 (a4.map c8).flatten)] (.agg (zp r.1)) 5 [(0, .var 70 [(.fn 41 [(.ptr 1 1 0), (.ptr 2 2 0)])]), (1, .var 9 [(.str r.2.1)]), (2, .var 60 [(.optr 2 2 0), (.bs 1 3 4 0 r.2.2.length)]), (4, .row 5 (r.2.2.map c8).flatten)]
@[reducible] def qaq (a0 : BA) (a2 : LU) (a0_n : Node) (a3 : Int) (a4 : BA) (a5 : LB) (a6 : LN) (a7 : Int) (a1 : BA) (r : BA × LU × LB × LN) : Prop :=
  AC Tryz.prog G 91 [(.ptr 0 0 0), (.str a1)] 7 [(0, .var 96 [(.ptr 1 1 0), (.int .i64 a0_n.kind), (.str a0_n.text), (.sl 1 false (a0_n.gaps.map sc)), (.sl 4 false (a0_n.kids.map Node.cells)), (.int .i64 a3), (.str a4), (.bs 1 5 5 0 a5.length), (.bs 4 6 6 0 a6.length), (.int .i64 a7)]), (1, .var 70 [(.fn 41 [(.ptr 2 2 0), (.ptr 3 3 0)])]), (2, .var 9 [(.str a0)]), (3, .var 60 [(.optr 3 3 0), (.bs 1 4 4 0 a2.length)]), (4, .row 5 (a2.map c8).flatten), (5, .row 9 (a5.map sc).flatten), (6, .row 26 (a6.map Node.cells).flatten)] (.tup []) 10 [(0, .var 96 [(.ptr 1 1 0), (.int .i64 a0_n.kind), (.str a0_n.text), (.sl 1 false (a0_n.gaps.map sc)), (.sl 4 false (a0_n.kids.map Node.cells)), (.int .i64 a3), (.str a4), (.bs 1 5 8 0 r.2.2.1.length), (.bs 4 6 9 0 r.2.2.2.length), (.int .i64 a7)]), (1, .var 70 [(.fn 41 [(.ptr 2 2 0), (.ptr 3 3 0)])]), (2, .var 9 [(.str r.1)]), (3, .var 60 [(.optr 3 3 0), (.bs 1 4 7 0 r.2.1.length)]), (7, .row 5 (r.2.1.map c8).flatten), (8, .row 9 (r.2.2.1.map sc).flatten), (9, .row 26 (r.2.2.2.map Node.cells).flatten)]
@[reducible] def qbt (a0 : BA) (a2 : LU) (a0_n : Node) (a3 : Int) (a4 : BA) (a5 : LB) (a6 : LN) (a7 : Int) (a1 : BA) (r : BA × LU × LB × LN) : Prop :=
  AC Tryz.prog G 92 [(.ptr 0 0 0), (.str a1)] 7 [(0, .var 96 [(.ptr 1 1 0), (.int .i64 a0_n.kind), (.str a0_n.text), (.sl 1 false (a0_n.gaps.map sc)), (.sl 4 false (a0_n.kids.map Node.cells)), (.int .i64 a3), (.str a4), (.bs 1 5 5 0 a5.length), (.bs 4 6 6 0 a6.length), (.int .i64 a7)]), (1, .var 70 [(.fn 41 [(.ptr 2 2 0), (.ptr 3 3 0)])]), (2, .var 9 [(.str a0)]), (3, .var 60 [(.optr 3 3 0), (.bs 1 4 4 0 a2.length)]), (4, .row 5 (a2.map c8).flatten), (5, .row 9 (a5.map sc).flatten), (6, .row 26 (a6.map Node.cells).flatten)] (.tup []) 10 [(0, .var 96 [(.ptr 1 1 0), (.int .i64 a0_n.kind), (.str a0_n.text), (.sl 1 false (a0_n.gaps.map sc)), (.sl 4 false (a0_n.kids.map Node.cells)), (.int .i64 a3), (.str a4), (.bs 1 5 8 0 r.2.2.1.length), (.bs 4 6 9 0 r.2.2.2.length), (.int .i64 a7)]), (1, .var 70 [(.fn 41 [(.ptr 2 2 0), (.ptr 3 3 0)])]), (2, .var 9 [(.str r.1)]), (3, .var 60 [(.optr 3 3 0), (.bs 1 4 7 0 r.2.1.length)]), (7, .row 5 (r.2.1.map c8).flatten), (8, .row 9 (r.2.2.1.map sc).flatten), (9, .row 26 (r.2.2.2.map Node.cells).flatten)]
@[reducible] def qii (a0 : BA) (a2 : LU) (a0_n : Node) (a3 : Int) (a4 : BA) (a5 : LB) (a6 : LN) (a7 : Int) (a1 : BA) (r : BA × LU × LB × LN × Int) : Prop :=
  AC Tryz.prog G 93 [(.ptr 0 0 0), (.str a1)] 7 [(0, .var 96 [(.ptr 1 1 0), (.int .i64 a0_n.kind), (.str a0_n.text), (.sl 1 false (a0_n.gaps.map sc)), (.sl 4 false (a0_n.kids.map Node.cells)), (.int .i64 a3), (.str a4), (.bs 1 5 5 0 a5.length), (.bs 4 6 6 0 a6.length), (.int .i64 a7)]), (1, .var 70 [(.fn 41 [(.ptr 2 2 0), (.ptr 3 3 0)])]), (2, .var 9 [(.str a0)]), (3, .var 60 [(.optr 3 3 0), (.bs 1 4 4 0 a2.length)]), (4, .row 5 (a2.map c8).flatten), (5, .row 9 (a5.map sc).flatten), (6, .row 26 (a6.map Node.cells).flatten)] (.tup []) 10 [(0, .var 96 [(.ptr 1 1 0), (.int .i64 a0_n.kind), (.str a0_n.text), (.sl 1 false (a0_n.gaps.map sc)), (.sl 4 false (a0_n.kids.map Node.cells)), (.int .i64 a3), (.str a4), (.bs 1 5 8 0 r.2.2.1.length), (.bs 4 6 9 0 r.2.2.2.1.length), (.int .i64 r.2.2.2.2)]), (1, .var 70 [(.fn 41 [(.ptr 2 2 0), (.ptr 3 3 0)])]), (2, .var 9 [(.str r.1)]), (3, .var 60 [(.optr 3 3 0), (.bs 1 4 7 0 r.2.1.length)]), (7, .row 5 (r.2.1.map c8).flatten), (8, .row 9 (r.2.2.1.map sc).flatten), (9, .row 26 (r.2.2.2.1.map Node.cells).flatten)]
@[reducible] def qkw (a0 : BA) (a1 : LU) (a0_n : Node) (a2 : Int) (a3 : BA) (a4 : LB) (a5 : LN) (a6 : Int) (r : BA × LU × LB × LN) : Prop :=
  AC Tryz.prog G 122 [(.ptr 0 0 0)] 7 [(0, .var 96 [(.ptr 1 1 0), (.int .i64 a0_n.kind), (.str a0_n.text), (.sl 1 false (a0_n.gaps.map sc)), (.sl 4 false (a0_n.kids.map Node.cells)), (.int .i64 a2), (.str a3), (.bs 1 5 5 0 a4.length), (.bs 4 6 6 0 a5.length), (.int .i64 a6)]), (1, .var 70 [(.fn 41 [(.ptr 2 2 0), (.ptr 3 3 0)])]), (2, .var 9 [(.str a0)]), (3, .var 60 [(.optr 3 3 0), (.bs 1 4 4 0 a1.length)]), (4, .row 5 (a1.map c8).flatten), (5, .row 9 (a4.map sc).flatten), (6, .row 26 (a5.map Node.cells).flatten)] (.tup []) 10 [(0, .var 96 [(.ptr 1 1 0), (.int .i64 a0_n.kind), (.str a0_n.text), (.sl 1 false (a0_n.gaps.map sc)), (.sl 4 false (a0_n.kids.map Node.cells)), (.int .i64 a2), (.str a3), (.bs 1 5 8 0 r.2.2.1.length), (.bs 4 6 9 0 r.2.2.2.length), (.int .i64 a6)]), (1, .var 70 [(.fn 41 [(.ptr 2 2 0), (.ptr 3 3 0)])]), (2, .var 9 [(.str r.1)]), (3, .var 60 [(.optr 3 3 0), (.bs 1 4 7 0 r.2.1.length)]), (7, .row 5 (r.2.1.map c8).flatten), (8, .row 9 (r.2.2.1.map sc).flatten), (9, .row 26 (r.2.2.2.map Node.cells).flatten)]
@[reducible] def qpf (a0 : BA) (a2 : LU) (a0_n : Node) (a3 : Int) (a4 : BA) (a5 : LB) (a6 : LN) (a7 : Int) (a1 : BA) (r : BA × LU × LN) : Prop :=
  AC Tryz.prog G 123 [(.ptr 0 0 0), (.str a1)] 7 [(0, .var 96 [(.ptr 1 1 0), (.int .i64 a0_n.kind), (.str a0_n.text), (.sl 1 false (a0_n.gaps.map sc)), (.sl 4 false (a0_n.kids.map Node.cells)), (.int .i64 a3), (.str a4), (.bs 1 5 5 0 a5.length), (.bs 4 6 6 0 a6.length), (.int .i64 a7)]), (1, .var 70 [(.fn 41 [(.ptr 2 2 0), (.ptr 3 3 0)])]), (2, .var 9 [(.str a0)]), (3, .var 60 [(.optr 3 3 0), (.bs 1 4 4 0 a2.length)]), (4, .row 5 (a2.map c8).flatten), (5, .row 9 (a5.map sc).flatten), (6, .row 26 (a6.map Node.cells).flatten)] (.tup []) 9 [(0, .var 96 [(.ptr 1 1 0), (.int .i64 a0_n.kind), (.str a0_n.text), (.sl 1 false (a0_n.gaps.map sc)), (.sl 4 false (a0_n.kids.map Node.cells)), (.int .i64 a3), (.str a4), (.bs 1 5 5 0 a5.length), (.bs 4 6 8 0 r.2.2.length), (.int .i64 a7)]), (1, .var 70 [(.fn 41 [(.ptr 2 2 0), (.ptr 3 3 0)])]), (2, .var 9 [(.str r.1)]), (3, .var 60 [(.optr 3 3 0), (.bs 1 4 7 0 r.2.1.length)]), (7, .row 5 (r.2.1.map c8).flatten), (5, .row 9 (a5.map sc).flatten), (8, .row 26 (r.2.2.map Node.cells).flatten)]
@[reducible] def qij (a0 : BA) (a3 : LU) (a0_n : Node) (a4 : Int) (a5 : BA) (a6 : LB) (a7 : LN) (a8 : Int) (a1 : BA) (a2 : BA) (r : BA × LU × LB × LN) : Prop :=
  AC Tryz.prog G 124 [(.ptr 0 0 0), (.str a1), (.str a2)] 7 [(0, .var 96 [(.ptr 1 1 0), (.int .i64 a0_n.kind), (.str a0_n.text), (.sl 1 false (a0_n.gaps.map sc)), (.sl 4 false (a0_n.kids.map Node.cells)), (.int .i64 a4), (.str a5), (.bs 1 5 5 0 a6.length), (.bs 4 6 6 0 a7.length), (.int .i64 a8)]), (1, .var 70 [(.fn 41 [(.ptr 2 2 0), (.ptr 3 3 0)])]), (2, .var 9 [(.str a0)]), (3, .var 60 [(.optr 3 3 0), (.bs 1 4 4 0 a3.length)]), (4, .row 5 (a3.map c8).flatten), (5, .row 9 (a6.map sc).flatten), (6, .row 26 (a7.map Node.cells).flatten)] (.tup []) 10 [(0, .var 96 [(.ptr 1 1 0), (.int .i64 a0_n.kind), (.str a0_n.text), (.sl 1 false (a0_n.gaps.map sc)), (.sl 4 false (a0_n.kids.map Node.cells)), (.int .i64 a4), (.str a5), (.bs 1 5 8 0 r.2.2.1.length), (.bs 4 6 9 0 r.2.2.2.length), (.int .i64 a8)]), (1, .var 70 [(.fn 41 [(.ptr 2 2 0), (.ptr 3 3 0)])]), (2, .var 9 [(.str r.1)]), (3, .var 60 [(.optr 3 3 0), (.bs 1 4 7 0 r.2.1.length)]), (7, .row 5 (r.2.1.map c8).flatten), (8, .row 9 (r.2.2.1.map sc).flatten), (9, .row 26 (r.2.2.2.map Node.cells).flatten)]
@[reducible] def qky (a0 : BA) (a2 : LU) (a0_n : Node) (a3 : Int) (a4 : BA) (a5 : LB) (a6 : LN) (a7 : Int) (a1 : Int) (r : BA × LU × LB × LN × Int) : Prop :=
  AC Tryz.prog G 125 [(.ptr 0 0 0), (.int .i64 a1)] 7 [(0, .var 96 [(.ptr 1 1 0), (.int .i64 a0_n.kind), (.str a0_n.text), (.sl 1 false (a0_n.gaps.map sc)), (.sl 4 false (a0_n.kids.map Node.cells)), (.int .i64 a3), (.str a4), (.bs 1 5 5 0 a5.length), (.bs 4 6 6 0 a6.length), (.int .i64 a7)]), (1, .var 70 [(.fn 41 [(.ptr 2 2 0), (.ptr 3 3 0)])]), (2, .var 9 [(.str a0)]), (3, .var 60 [(.optr 3 3 0), (.bs 1 4 4 0 a2.length)]), (4, .row 5 (a2.map c8).flatten), (5, .row 9 (a5.map sc).flatten), (6, .row 26 (a6.map Node.cells).flatten)] (.tup []) 10 [(0, .var 96 [(.ptr 1 1 0), (.int .i64 a0_n.kind), (.str a0_n.text), (.sl 1 false (a0_n.gaps.map sc)), (.sl 4 false (a0_n.kids.map Node.cells)), (.int .i64 a3), (.str a4), (.bs 1 5 8 0 r.2.2.1.length), (.bs 4 6 9 0 r.2.2.2.1.length), (.int .i64 r.2.2.2.2)]), (1, .var 70 [(.fn 41 [(.ptr 2 2 0), (.ptr 3 3 0)])]), (2, .var 9 [(.str r.1)]), (3, .var 60 [(.optr 3 3 0), (.bs 1 4 7 0 r.2.1.length)]), (7, .row 5 (r.2.1.map c8).flatten), (8, .row 9 (r.2.2.1.map sc).flatten), (9, .row 26 (r.2.2.2.1.map Node.cells).flatten)]
@[reducible] def Kg (t1 : BA) (t4 : BA) (o0_1 : Node) (a0 : Int) (a1 : BA) (a2 : LB) (a3 : LN) (o0_3 : Int) (o2 : BA) (o3_1 : LU) (r : BA × LU × LB × LN) : Prop :=
  Ok Tryz.prog G tt 69 7 (Ret Tryz.prog [] (fun y H => vd Tryz.prog G 7 H y (.tup []) ⟨10, [(0, .var 96 [(.ptr 1 1 0), (.int .i64 o0_1.kind), (.str o0_1.text), (.sl 1 false (o0_1.gaps.map sc)), (.sl 4 false (o0_1.kids.map Node.cells)), (.int .i64 a0), (.str a1), (.bs 1 5 8 0 r.2.2.1.length), (.bs 4 6 9 0 r.2.2.2.length), (.int .i64 o0_3)]), (1, .var 70 [(.fn 41 [(.ptr 2 2 0), (.ptr 3 3 0)])]), (2, .var 9 [(.str r.1)]), (3, .var 60 [(.optr 3 3 0), (.bs 1 4 7 0 r.2.1.length)]), (7, .row 5 (r.2.1.map c8).flatten), (8, .row 9 (r.2.2.1.map sc).flatten), (9, .row 26 (r.2.2.2.map Node.cells).flatten)]⟩)) (.go [] (v7 [53] Tryz.f92 53) [] (.n (.ptr 0 0 0) (.n (.str t1) .z .z) (.n .undef (.n (.str t4) .z .z) .z)) 10 [(0, .var 96 [(.ptr 1 1 0), (.int .i64 o0_1.kind), (.str o0_1.text), (.sl 1 false (o0_1.gaps.map sc)), (.sl 4 false (o0_1.kids.map Node.cells)), (.int .i64 a0), (.str a1), (.bs 1 5 8 0 a2.length), (.bs 4 6 9 0 a3.length), (.int .i64 o0_3)]), (1, .var 70 [(.fn 41 [(.ptr 2 2 0), (.ptr 3 3 0)])]), (2, .var 9 [(.str o2)]), (3, .var 60 [(.optr 3 3 0), (.bs 1 4 7 0 o3_1.length)]), (7, .row 5 (o3_1.map c8).flatten), (8, .row 9 (a2.map sc).flatten), (9, .row 26 (a3.map Node.cells).flatten)])
@[reducible] def qcv (a0 : LN) (j0 : Nat) (t1 : BA) (o0_1 : Node) (a1 : Int) (a2 : BA) (a3 : LB) (a4 : LN) (o0_3 : Int) (o2 : BA) (o3_1 : LU) (r : BA × LU × LB × LN × Int) : Prop :=
  ∀ (l0 : LN), l0.drop j0 = a0 → j0 ≤ l0.length → l0.length ≤ 9223372036854775807 → Ok Tryz.prog G tt 146 7 (Ret Tryz.prog [] (fun y H => vd Tryz.prog G 7 H y (.tup []) ⟨10, [(0, .var 96 [(.ptr 1 1 0), (.int .i64 o0_1.kind), (.str o0_1.text), (.sl 1 false (o0_1.gaps.map sc)), (.sl 4 false (o0_1.kids.map Node.cells)), (.int .i64 a1), (.str a2), (.bs 1 5 8 0 r.2.2.1.length), (.bs 4 6 9 0 r.2.2.2.1.length), (.int .i64 r.2.2.2.2)]), (1, .var 70 [(.fn 41 [(.ptr 2 2 0), (.ptr 3 3 0)])]), (2, .var 9 [(.str r.1)]), (3, .var 60 [(.optr 3 3 0), (.bs 1 4 7 0 r.2.1.length)]), (7, .row 5 (r.2.1.map c8).flatten), (8, .row 9 (r.2.2.1.map sc).flatten), (9, .row 26 (r.2.2.2.1.map Node.cells).flatten)]⟩)) (.again (ud [22, 33] Tryz.f93 0).1 (ud [22, 33] Tryz.f93 0).2 (.n (.ptr 0 0 0) (.n (.str t1) .z (.n .undef (.n .undef (.n (.int .i64 ((l0.map Node.cells).length : Int)) .z .z) .z) .z)) (.n .undef (.n .undef (.n .undef (.n (.sl 4 false (l0.map Node.cells)) .z .z) .z) .z) (.n .undef (.n .undef (.n (.int .i64 ((j0 : Nat) : Int)) .z .z) .z) .z))) 10 [(0, .var 96 [(.ptr 1 1 0), (.int .i64 o0_1.kind), (.str o0_1.text), (.sl 1 false (o0_1.gaps.map sc)), (.sl 4 false (o0_1.kids.map Node.cells)), (.int .i64 a1), (.str a2), (.bs 1 5 8 0 a3.length), (.bs 4 6 9 0 a4.length), (.int .i64 o0_3)]), (1, .var 70 [(.fn 41 [(.ptr 2 2 0), (.ptr 3 3 0)])]), (2, .var 9 [(.str o2)]), (3, .var 60 [(.optr 3 3 0), (.bs 1 4 7 0 o3_1.length)]), (7, .row 5 (o3_1.map c8).flatten), (8, .row 9 (a3.map sc).flatten), (9, .row 26 (a4.map Node.cells).flatten)])
@[reducible] def qey (t2 : Bool) (o0_1 : Node) (a0 : Int) (a1 : BA) (a2 : LB) (a3 : LN) (o0_3 : Int) (o2 : BA) (o3_1 : LU) (r : BA × LU × LB × LN) : Prop :=
  Ok Tryz.prog G tt 25 7 (Ret Tryz.prog [] (fun y H => vd Tryz.prog G 7 H y (.tup []) ⟨10, [(0, .var 96 [(.ptr 1 1 0), (.int .i64 o0_1.kind), (.str o0_1.text), (.sl 1 false (o0_1.gaps.map sc)), (.sl 4 false (o0_1.kids.map Node.cells)), (.int .i64 a0), (.str a1), (.bs 1 5 8 0 r.2.2.1.length), (.bs 4 6 9 0 r.2.2.2.length), (.int .i64 o0_3)]), (1, .var 70 [(.fn 41 [(.ptr 2 2 0), (.ptr 3 3 0)])]), (2, .var 9 [(.str r.1)]), (3, .var 60 [(.optr 3 3 0), (.bs 1 4 7 0 r.2.1.length)]), (7, .row 5 (r.2.1.map c8).flatten), (8, .row 9 (r.2.2.1.map sc).flatten), (9, .row 26 (r.2.2.2.map Node.cells).flatten)]⟩)) (.again (ud [1000001] Tryz.f122 0).1 (ud [1000001] Tryz.f122 0).2 (.n (.ptr 0 0 0) .z (.n (.bool t2) .z .z)) 10 [(0, .var 96 [(.ptr 1 1 0), (.int .i64 o0_1.kind), (.str o0_1.text), (.sl 1 false (o0_1.gaps.map sc)), (.sl 4 false (o0_1.kids.map Node.cells)), (.int .i64 a0), (.str a1), (.bs 1 5 8 0 a2.length), (.bs 4 6 9 0 a3.length), (.int .i64 o0_3)]), (1, .var 70 [(.fn 41 [(.ptr 2 2 0), (.ptr 3 3 0)])]), (2, .var 9 [(.str o2)]), (3, .var 60 [(.optr 3 3 0), (.bs 1 4 7 0 o3_1.length)]), (7, .row 5 (o3_1.map c8).flatten), (8, .row 9 (a2.map sc).flatten), (9, .row 26 (a3.map Node.cells).flatten)])
@[reducible] def qe0 (t1 : Int) (o0_1 : Node) (a0 : Int) (a1 : BA) (a2 : LB) (a3 : LN) (o0_3 : Int) (o2 : BA) (o3_1 : LU) (r : BA × LU × LB × LN × Int) : Prop :=
  Ok Tryz.prog G tt 55 7 (Ret Tryz.prog [] (fun y H => vd Tryz.prog G 7 H y (.tup []) ⟨10, [(0, .var 96 [(.ptr 1 1 0), (.int .i64 o0_1.kind), (.str o0_1.text), (.sl 1 false (o0_1.gaps.map sc)), (.sl 4 false (o0_1.kids.map Node.cells)), (.int .i64 a0), (.str a1), (.bs 1 5 8 0 r.2.2.1.length), (.bs 4 6 9 0 r.2.2.2.1.length), (.int .i64 r.2.2.2.2)]), (1, .var 70 [(.fn 41 [(.ptr 2 2 0), (.ptr 3 3 0)])]), (2, .var 9 [(.str r.1)]), (3, .var 60 [(.optr 3 3 0), (.bs 1 4 7 0 r.2.1.length)]), (7, .row 5 (r.2.1.map c8).flatten), (8, .row 9 (r.2.2.1.map sc).flatten), (9, .row 26 (r.2.2.2.1.map Node.cells).flatten)]⟩)) (.again (ud [] Tryz.f125 0).1 (ud [] Tryz.f125 0).2 (.n (.ptr 0 0 0) (.n (.int .i64 t1) .z .z) .z) 10 [(0, .var 96 [(.ptr 1 1 0), (.int .i64 o0_1.kind), (.str o0_1.text), (.sl 1 false (o0_1.gaps.map sc)), (.sl 4 false (o0_1.kids.map Node.cells)), (.int .i64 a0), (.str a1), (.bs 1 5 8 0 a2.length), (.bs 4 6 9 0 a3.length), (.int .i64 o0_3)]), (1, .var 70 [(.fn 41 [(.ptr 2 2 0), (.ptr 3 3 0)])]), (2, .var 9 [(.str o2)]), (3, .var 60 [(.optr 3 3 0), (.bs 1 4 7 0 o3_1.length)]), (7, .row 5 (o3_1.map c8).flatten), (8, .row 9 (a2.map sc).flatten), (9, .row 26 (a3.map Node.cells).flatten)])
@[reducible] def Wd (a0 : LN) (o0_1 : Node) (a1 : Int) (a2 : BA) (a3 : LB) (a4 : LN) (o0_3 : Int) (o2 : BA) (o3_1 : LU) (r : BA × LU × LB × LN) : Prop :=
  ∀ (l0 : LN) (j0 : Nat), l0.drop j0 = a0 → j0 ≤ l0.length → l0.length ≤ 9223372036854775807 → Ok Tryz.prog G tt 69 7 (Ret Tryz.prog [] (fun y H => vd Tryz.prog G 7 H y (.tup []) ⟨10, [(0, .var 96 [(.ptr 1 1 0), (.int .i64 o0_1.kind), (.str o0_1.text), (.sl 1 false (o0_1.gaps.map sc)), (.sl 4 false (o0_1.kids.map Node.cells)), (.int .i64 a1), (.str a2), (.bs 1 5 8 0 r.2.2.1.length), (.bs 4 6 9 0 r.2.2.2.length), (.int .i64 o0_3)]), (1, .var 70 [(.fn 41 [(.ptr 2 2 0), (.ptr 3 3 0)])]), (2, .var 9 [(.str r.1)]), (3, .var 60 [(.optr 3 3 0), (.bs 1 4 7 0 r.2.1.length)]), (7, .row 5 (r.2.1.map c8).flatten), (8, .row 9 (r.2.2.1.map sc).flatten), (9, .row 26 (r.2.2.2.map Node.cells).flatten)]⟩)) (.again (ud [53] Tryz.f92 0).1 (ud [53] Tryz.f92 0).2 (.n (.ptr 0 0 0) (.n .undef (.n .undef (.n .undef (.n .undef (.n .undef (.n (.int .i64 ((l0.map Node.cells).length : Int)) .z .z) .z) .z) .z) .z) .z) (.n .undef (.n .undef (.n .undef (.n .undef (.n .undef (.n (.int .i64 ((j0 : Nat) : Int)) .z .z) .z) .z) .z) .z) (.n .undef .z (.n .undef .z (.n .undef .z (.n (.sl 4 false (l0.map Node.cells)) .z .z)))))) 15 [(0, .var 96 [(.ptr 1 1 0), (.int .i64 o0_1.kind), (.str o0_1.text), (.sl 1 false (o0_1.gaps.map sc)), (.sl 4 false (o0_1.kids.map Node.cells)), (.int .i64 a1), (.str a2), (.bs 1 5 13 0 a3.length), (.bs 4 6 14 0 a4.length), (.int .i64 o0_3)]), (1, .var 70 [(.fn 41 [(.ptr 2 2 0), (.ptr 3 3 0)])]), (2, .var 9 [(.str o2)]), (3, .var 60 [(.optr 3 3 0), (.bs 1 4 12 0 o3_1.length)]), (12, .row 5 (o3_1.map c8).flatten), (13, .row 9 (a3.map sc).flatten), (14, .row 26 (a4.map Node.cells).flatten)])
@[reducible] def qbv (a0 : LN) (j0 : Nat) (t1 : BA) (o0_1 : Node) (a1 : Int) (a2 : BA) (a3 : LB) (a4 : LN) (o0_3 : Int) (o2 : BA) (o3_1 : LU) (r : BA × LU × LB × LN × Int) : Prop :=
  ∀ (l0 : LN), l0.drop (j0 + 1) = a0 → j0 + 1 ≤ l0.length → l0.length ≤ 9223372036854775807 → Ok Tryz.prog G tt 146 7 (Ret Tryz.prog [] (fun y H => vd Tryz.prog G 7 H y (.tup []) ⟨10, [(0, .var 96 [(.ptr 1 1 0), (.int .i64 o0_1.kind), (.str o0_1.text), (.sl 1 false (o0_1.gaps.map sc)), (.sl 4 false (o0_1.kids.map Node.cells)), (.int .i64 a1), (.str a2), (.bs 1 5 8 0 r.2.2.1.length), (.bs 4 6 9 0 r.2.2.2.1.length), (.int .i64 r.2.2.2.2)]), (1, .var 70 [(.fn 41 [(.ptr 2 2 0), (.ptr 3 3 0)])]), (2, .var 9 [(.str r.1)]), (3, .var 60 [(.optr 3 3 0), (.bs 1 4 7 0 r.2.1.length)]), (7, .row 5 (r.2.1.map c8).flatten), (8, .row 9 (r.2.2.1.map sc).flatten), (9, .row 26 (r.2.2.2.1.map Node.cells).flatten)]⟩)) (.go [] (v7 [22, 33] Tryz.f93 22) [] (.n (.ptr 0 0 0) (.n (.str t1) .z (.n .undef (.n .undef (.n (.int .i64 ((l0.map Node.cells).length : Int)) .z .z) .z) .z)) (.n .undef (.n .undef (.n .undef (.n (.sl 4 false (l0.map Node.cells)) .z .z) .z) .z) (.n .undef (.n .undef (.n (.int .i64 ((j0 : Nat) : Int)) .z .z) .z) .z))) 13 [(0, .var 96 [(.ptr 1 1 0), (.int .i64 o0_1.kind), (.str o0_1.text), (.sl 1 false (o0_1.gaps.map sc)), (.sl 4 false (o0_1.kids.map Node.cells)), (.int .i64 a1), (.str a2), (.bs 1 5 11 0 a3.length), (.bs 4 6 12 0 a4.length), (.int .i64 o0_3)]), (1, .var 70 [(.fn 41 [(.ptr 2 2 0), (.ptr 3 3 0)])]), (2, .var 9 [(.str o2)]), (3, .var 60 [(.optr 3 3 0), (.bs 1 4 10 0 o3_1.length)]), (10, .row 5 (o3_1.map c8).flatten), (11, .row 9 (a3.map sc).flatten), (12, .row 26 (a4.map Node.cells).flatten)])
@[reducible] def qez (o0_1 : Node) (a0 : Int) (a1 : BA) (a2 : LB) (a3 : LN) (o0_3 : Int) (o2 : BA) (o3_1 : LU) (r : BA × LU × LB × LN) : Prop :=
  Ok Tryz.prog G tt 25 7 (Ret Tryz.prog [] (fun y H => vd Tryz.prog G 7 H y (.tup []) ⟨10, [(0, .var 96 [(.ptr 1 1 0), (.int .i64 o0_1.kind), (.str o0_1.text), (.sl 1 false (o0_1.gaps.map sc)), (.sl 4 false (o0_1.kids.map Node.cells)), (.int .i64 a0), (.str a1), (.bs 1 5 8 0 r.2.2.1.length), (.bs 4 6 9 0 r.2.2.2.length), (.int .i64 o0_3)]), (1, .var 70 [(.fn 41 [(.ptr 2 2 0), (.ptr 3 3 0)])]), (2, .var 9 [(.str r.1)]), (3, .var 60 [(.optr 3 3 0), (.bs 1 4 7 0 r.2.1.length)]), (7, .row 5 (r.2.1.map c8).flatten), (8, .row 9 (r.2.2.1.map sc).flatten), (9, .row 26 (r.2.2.2.map Node.cells).flatten)]⟩)) (.go [] (qs7 [1000001] Tryz.f122 1) [] (.n (.ptr 0 0 0) .z .z) 15 [(0, .var 96 [(.ptr 1 1 0), (.int .i64 o0_1.kind), (.str o0_1.text), (.sl 1 false (o0_1.gaps.map sc)), (.sl 4 false (o0_1.kids.map Node.cells)), (.int .i64 a0), (.str a1), (.bs 1 5 13 0 a2.length), (.bs 4 6 14 0 a3.length), (.int .i64 o0_3)]), (1, .var 70 [(.fn 41 [(.ptr 2 2 0), (.ptr 3 3 0)])]), (2, .var 9 [(.str o2)]), (3, .var 60 [(.optr 3 3 0), (.bs 1 4 12 0 o3_1.length)]), (12, .row 5 (o3_1.map c8).flatten), (13, .row 9 (a2.map sc).flatten), (14, .row 26 (a3.map Node.cells).flatten)])
theorem ua : PC5 qkx qbb ∧ PC9 qii qd1 ∧ PC10 qij qag ∧ PC9 qpf ur ∧ PC9 qky qcm ∧ PC9 qe0 Ju ∧ PC8 qkw qba ∧ PC9 qey Z4 ∧ PC8 qez Kj ∧ PC11 qcv Zu ∧ PC11 qbv Jt ∧ PC9 qbt Yq ∧ PC10 Kg uz ∧ PC9 Wd uv ∧ PC9 qaq J5 := by
 refine qbb.mutual_partial_correctness qkx qii qij qpf qky qe0 qkw qey qez qcv qbv qbt Kg Wd qaq (fun qd1 Yq J5 qpl qge qfb a0 a4 a1 a2 a3 r h => ?_) (fun qag ur qcm qba Zu qe3 kq qk6 qd0 qaa a0 a2 a0_n a3 a4 a5 a6 a7 a1 r h => ?_) (fun ur kq a0 a3 a0_n a4 a5 a6 a7 a8 a1 a2 r h => ?_) (fun qbb qk5 a0 a2 a0_n a3 a4 a5 a6 a7 a1 r h => ?_) (fun Ju qa9 a0 a2 a0_n a3 a4 a5 a6 a7 a1 r h => ?_) (fun ur Ju kq qa9 t1 o0_1 a0 a1 a2 a3 o0_3 o2 o3_1 r h => ?_) (fun Z4 qa8 a0 a1 a0_n a2 a3 a4 a5 a6 r h => ?_) (fun ur Kj kq qe2 t2 o0_1 a0 a1 a2 a3 o0_3 o2 o3_1 r h => ?_) (fun Z4 qa8 o0_1 a0 a1 a2 a3 o0_3 o2 o3_1 r h => ?_) (fun Jt qb4 a0 j0 t1 o0_1 a1 a2 a3 a4 o0_3 o2 o3_1 r h => ?_) (fun ur Zu kq qaa a0 j0 t1 o0_1 a1 a2 a3 a4 o0_3 o2 o3_1 r h => ?_) (fun qag ur uz qe3 kq Q9 a0 a2 a0_n a3 a4 a5 a6 a7 a1 r h => ?_) (fun uv Yc t1 t4 o0_1 a0 a1 a2 a3 o0_3 o2 o3_1 r h => ?_) (fun ur uv kq Yc a0 o0_1 a1 a2 a3 a4 o0_3 o2 o3_1 r h => ?_) (fun ur qba kq qd0 a0 a2 a0_n a3 a4 a5 a6 a7 a1 r h => ?_)
 ·unfold qa at h
  refine ⟨?_, (zm rfl rfl (zm rfl rfl (zm rfl rfl (ju zx rfl jv)))), (qj (qj (qj (ze zx zf)))), (zo rfl (zo rfl (zo rfl (jt zx j3)))), (qj (qj (qj (ze zx zf)))), rfl, rfl, rfl, rfl⟩
  refine wk (T := tt) (N := 41) (rs := [.cell 8 26]) (fun vs w => by simp) Tryz.func46 rfl rfl rfl (by kernel_rfl) (by kernel_rfl) ?_
  refine kr [23, 30] ?_
  obtain ⟨x1, hx, h⟩ := bind_some h
  refine qn (Wh _ _ hx) ?_
  refine kr [23, 30] ?_
  refine qf (fun hb => ?_) (fun hb => ?_)
  ·replace h := qw hb h
   refine kr [23, 30] ?_
   obtain ⟨x2, hx, h⟩ := bind_some h
   refine qb (ACalls.ghost (e := 9) (ACalls.ghost (e := 26) (ACalls.wkg (AC.go (objs := [(0, .var 70 [(.fn 41 [(.ptr 1 1 0), (.ptr 2 2 0)])]), (1, .var 9 [(.str a0)]), (2, .var 60 [(.optr 2 2 0), (.bs 1 3 3 0 a4.length)]), (3, .row 5 (a4.map c8).flatten), (4, .var 26 (zp a1)), (5, .var 26 [(.int .i64 0), (.str ⟨#[]⟩), (.sl 0 true []), (.sl 0 true [])]), (6, .var 96 [(.ptr 0 0 0), (.int .i64 a1.kind), (.str a1.text), (.sl 1 false (a1.gaps.map sc)), (.sl 4 false (a1.kids.map Node.cells)), (.int .i64 a1.kind), (.str a1.text), (.bs 1 7 7 0 ([] : LB).length), (.bs 4 8 8 0 ([] : LN).length), (.int .i64 a3)]), (7, .row 9 (([] : LB).map sc).flatten), (8, .row 26 (([] : LN).map Node.cells).flatten)]) (xs := [(.ptr 6 6 0), (.str a2)]) (qfb _ _ _ _ _ _ _ _ _ _ hx) [6, 0, 1, 2, 3, 7, 8] [6, 0, 1, 2, 3, 7, 8] rfl rfl rfl rfl rfl rfl rfl rfl rfl) (qi (qo _) (qi (qo _) je)) (qe (qe (qe (qe (qe (qe (jd (qd (qk _) (qd (qk _) (qd (qk _) (qd (qk _) (qd (qk _) (qd (qk _) (qd (qk _) (qd (zi rfl) (qd (zi rfl) (qd (qk _) jy)))))))))) (zu _))))))))))) ?_
   refine kr [23, 30] ?_
   exact qz (by kernel_rfl) rfl lQ (qhh _ _ _ _ _ _ _ _ _ h)
  replace h := qx hb h
  refine kr [23, 30] ?_
  obtain ⟨x3, hx, h⟩ := bind_some h
  refine qn (Wh _ _ hx) ?_
  refine kr [23, 30] ?_
  refine qf (fun hb => ?_) (fun hb => ?_)
  ·replace h := qw hb h
   refine kr [23, 30] ?_
   obtain ⟨x4, hx, h⟩ := bind_some h
   refine qb (ACalls.ghost (e := 9) (ACalls.ghost (e := 26) (ACalls.wkg (AC.go (objs := [(0, .var 70 [(.fn 41 [(.ptr 1 1 0), (.ptr 2 2 0)])]), (1, .var 9 [(.str a0)]), (2, .var 60 [(.optr 2 2 0), (.bs 1 3 3 0 a4.length)]), (3, .row 5 (a4.map c8).flatten), (4, .var 26 (zp a1)), (5, .var 26 [(.int .i64 0), (.str ⟨#[]⟩), (.sl 0 true []), (.sl 0 true [])]), (6, .var 96 [(.ptr 0 0 0), (.int .i64 a1.kind), (.str a1.text), (.sl 1 false (a1.gaps.map sc)), (.sl 4 false (a1.kids.map Node.cells)), (.int .i64 a1.kind), (.str a1.text), (.bs 1 7 7 0 ([] : LB).length), (.bs 4 8 8 0 ([] : LN).length), (.int .i64 a3)]), (7, .row 9 (([] : LB).map sc).flatten), (8, .row 26 (([] : LN).map Node.cells).flatten)]) (xs := [(.ptr 6 6 0), (.str a2)]) (qge _ _ _ _ _ _ _ _ _ _ hx) [6, 0, 1, 2, 3, 7, 8] [6, 0, 1, 2, 3, 7, 8] rfl rfl rfl rfl rfl rfl rfl rfl rfl) (qi (qo _) (qi (qo _) je)) (qe (qe (qe (qe (qe (qe (jd (qd (qk _) (qd (qk _) (qd (qk _) (qd (qk _) (qd (qk _) (qd (qk _) (qd (qk _) (qd (zi rfl) (qd (zi rfl) (qd (qk _) jy)))))))))) (zu _))))))))))) ?_
   refine kr [23, 30] ?_
   exact qz (by kernel_rfl) rfl lQ (qhg _ _ _ _ _ _ _ _ _ h)
  replace h := qx hb h
  refine kr [23, 30] ?_
  obtain ⟨x5, hx, h⟩ := bind_some h
  refine qb (ACalls.ghost (e := 9) (ACalls.ghost (e := 26) (ACalls.wkg (AC.go (objs := [(0, .var 70 [(.fn 41 [(.ptr 1 1 0), (.ptr 2 2 0)])]), (1, .var 9 [(.str a0)]), (2, .var 60 [(.optr 2 2 0), (.bs 1 3 3 0 a4.length)]), (3, .row 5 (a4.map c8).flatten), (4, .var 26 (zp a1)), (5, .var 26 [(.int .i64 0), (.str ⟨#[]⟩), (.sl 0 true []), (.sl 0 true [])]), (6, .var 96 [(.ptr 0 0 0), (.int .i64 a1.kind), (.str a1.text), (.sl 1 false (a1.gaps.map sc)), (.sl 4 false (a1.kids.map Node.cells)), (.int .i64 a1.kind), (.str a1.text), (.bs 1 7 7 0 ([] : LB).length), (.bs 4 8 8 0 ([] : LN).length), (.int .i64 a3)]), (7, .row 9 (([] : LB).map sc).flatten), (8, .row 26 (([] : LN).map Node.cells).flatten)]) (xs := [(.ptr 6 6 0), (.str a2)]) (qpl _ _ _ _ _ _ _ _ _ _ hx) [6, 0, 1, 2, 3, 7, 8] [6, 0, 1, 2, 3, 7, 8] rfl rfl rfl rfl rfl rfl rfl rfl rfl) (qi (qo _) (qi (qo _) je)) (qe (qe (qe (qe (qe (qe (jd (qd (qk _) (qd (qk _) (qd (qk _) (qd (qk _) (qd (qk _) (qd (qk _) (qd (qk _) (qd (zi rfl) (qd (zi rfl) (qd (qk _) jy)))))))))) (zu _))))))))))) ?_
  refine kr [23, 30] ?_
  exact qz (by kernel_rfl) rfl lQ (qhg _ _ _ _ _ _ _ _ _ h)
 ·unfold qa at h
  refine ⟨?_, (zm rfl rfl (zm rfl rfl (zm rfl rfl (zm rfl rfl (ju zx rfl (ju zr rfl (ju ql rfl jv))))))), (qj (qj (qj (qj (ze zx (ze zr (ze ql zf))))))), (zo rfl (zo rfl (zo rfl (zo rfl (jt zx (jt zr (jt ql j3))))))), (qj (qj (qj (qj (ze zx (ze zr (ze ql zf))))))), rfl, rfl, rfl, rfl⟩
  refine wk (T := tt) (N := 146) (rs := []) (fun vs w => by simp) Tryz.func93 rfl rfl rfl (by kernel_rfl) (by kernel_rfl) ?_
  refine kr [22, 33] ?_
  refine qf (fun hb => ?_) (fun hb => ?_)
  ·replace h := qw hb h
   refine kr [22, 33] ?_
   refine qzx 16 rfl (fun hm => ?_)
   exact wx (by kernel_rfl) lQ (qaa _ _ _ _ _ _ _ _ _ _ _ _ h a0_n.kids rfl (Nat.zero_le _) (qn7 hm))
  replace h := qx hb h
  refine kr [22, 33] ?_
  refine qf (fun hb => ?_) (fun hb => ?_)
  ·replace h := qw hb h
   refine kr [22, 33] ?_
   obtain ⟨x37, hx, h⟩ := bind_some h
   refine qb (AC.g9 (jr _ _ _ _ _ _ _ _ _ _ _ hx) [0, 1, 2, 3, 4, 5, 6] [0, 1, 2, 3, 4, 5, 6]) ?_
   refine kr [22, 33] ?_
   obtain ⟨x38, hx, h⟩ := bind_some h
   refine qb (AC.g9 (jr _ _ _ _ _ _ _ _ _ _ _ hx) [0, 1, 2, 3, 4, 5, 6] [0, 1, 2, 3, 7, 8, 6]) ?_
   refine kr [22, 33] ?_
   obtain ⟨x39, hx, h⟩ := bind_some h
   refine qb (AC.g9 (kq _ _ _ _ _ _ _ _ _ _ hx) [0, 1, 2, 3, 4, 5, 6] [0, 1, 2, 3, 9, 10, 6]) ?_
   refine kr [22, 33] ?_
   obtain ⟨x40, hx, h⟩ := bind_some h
   refine qb (AC.g9 (kq _ _ _ _ _ _ _ _ _ _ hx) [0, 1, 2, 3, 4, 5, 6] [0, 1, 2, 3, 11, 10, 12]) ?_
   refine kr [22, 33] ?_
   obtain ⟨x41, hx, h⟩ := bind_some h
   refine qb (AC.g9 (kq _ _ _ _ _ _ _ _ _ _ hx) [0, 1, 2, 3, 4, 5, 6] [0, 1, 2, 3, 13, 10, 14]) ?_
   refine kr [22, 33] ?_
   cases h
   exact ji env rfl (tS [some 0, some 1, some 2, some 3, some 4, some 5, some 6] (sV (lS (lS (lS (lS (lS (lS (lS (lS (lS (lS lN)))))))))) (sV (lS lN) (sV (lS lN) (sV (lS (lS lN)) (sR zx (sR zr (sR ql q7))))))) (j4 jg))
  replace h := qx hb h
  refine kr [22, 33] ?_
  refine qf (fun hb => ?_) (fun hb => ?_)
  ·replace h := qw hb h
   refine kr [22, 33] ?_
   obtain ⟨x42, hx, h⟩ := bind_some h
   refine qb (AC.g9 (jr _ _ _ _ _ _ _ _ _ _ _ hx) [0, 1, 2, 3, 4, 5, 6] [0, 1, 2, 3, 4, 5, 6]) ?_
   refine kr [22, 33] ?_
   obtain ⟨x43, hx, h⟩ := bind_some h
   refine qb (AC.g9 (qd0 _ _ _ _ _ _ _ _ _ hx) [0, 1, 2, 3, 4, 5, 6] [0, 1, 2, 3, 7, 8, 6]) ?_
   refine kr [22, 33] ?_
   cases h
   exact ji env rfl (tS [some 0, some 1, some 2, some 3, some 4, some 5, some 6] (sV (lS (lS (lS (lS (lS (lS (lS (lS (lS (lS lN)))))))))) (sV (lS lN) (sV (lS lN) (sV (lS (lS lN)) (sR zx (sR zr (sR ql q7))))))) (j4 jg))
  replace h := qx hb h
  refine kr [22, 33] ?_
  refine qf (fun hb => ?_) (fun hb => ?_)
  ·replace h := qw hb h
   refine kr [22, 33] ?_
   obtain ⟨x44, hx, h⟩ := bind_some h
   refine qb (AC.g9 (jr _ _ _ _ _ _ _ _ _ _ _ hx) [0, 1, 2, 3, 4, 5, 6] [0, 1, 2, 3, 4, 5, 6]) ?_
   refine kr [22, 33] ?_
   obtain ⟨x45, hx, h⟩ := bind_some h
   refine qb (AC.g9 (kq _ _ _ _ _ _ _ _ _ _ hx) [0, 1, 2, 3, 4, 5, 6] [0, 1, 2, 3, 7, 8, 6]) ?_
   refine kr [22, 33] ?_
   cases h
   exact ji env rfl (tS [some 0, some 1, some 2, some 3, some 4, some 5, some 6] (sV (lS (lS (lS (lS (lS (lS (lS (lS (lS (lS lN)))))))))) (sV (lS lN) (sV (lS lN) (sV (lS (lS lN)) (sR zx (sR zr (sR ql q7))))))) (j4 jg))
  replace h := qx hb h
  refine kr [22, 33] ?_
  refine qf (fun hb => ?_) (fun hb => ?_)
  ·replace h := qw hb h
   refine kr [22, 33] ?_
   obtain ⟨x46, hx, h⟩ := bind_some h
   refine qb (AC.g9 (jr _ _ _ _ _ _ _ _ _ _ _ hx) [0, 1, 2, 3, 4, 5, 6] [0, 1, 2, 3, 4, 5, 6]) ?_
   refine kr [22, 33] ?_
   cases h
   exact ji env rfl (tS [some 0, some 1, some 2, some 3, some 4, some 5, some 6] (sV (lS (lS (lS (lS (lS (lS (lS (lS (lS (lS lN)))))))))) (sV (lS lN) (sV (lS lN) (sV (lS (lS lN)) (sR zx (sR zr (sR ql q7))))))) (j4 jg))
  replace h := qx hb h
  refine kr [22, 33] ?_
  refine qf (fun hb => ?_) (fun hb => ?_)
  ·replace h := qw hb h
   refine kr [22, 33] ?_
   obtain ⟨x47, hx, h⟩ := bind_some h
   refine qb (AC.g9 (jr _ _ _ _ _ _ _ _ _ _ _ hx) [0, 1, 2, 3, 4, 5, 6] [0, 1, 2, 3, 4, 5, 6]) ?_
   refine kr [22, 33] ?_
   obtain ⟨x48, hx, h⟩ := bind_some h
   refine qb (AC.g9 (qk6 _ _ _ _ _ _ _ _ _ _ hx) [0, 1, 2, 3, 4, 5, 6] [0, 1, 2, 3, 7, 8, 6]) ?_
   refine kr [22, 33] ?_
   cases h
   exact ji env rfl (tS [some 0, some 1, some 2, some 3, some 4, some 5, some 6] (sV (lS (lS (lS (lS (lS (lS (lS (lS (lS (lS lN)))))))))) (sV (lS lN) (sV (lS lN) (sV (lS (lS lN)) (sR zx (sR zr (sR ql q7))))))) (j4 jg))
  replace h := qx hb h
  refine kr [22, 33] ?_
  refine qf (fun hb => ?_) (fun hb => ?_)
  ·replace h := qw hb h
   refine kr [22, 33] ?_
   obtain ⟨x49, hx, h⟩ := bind_some h
   refine qb (AC.g9 (jr _ _ _ _ _ _ _ _ _ _ _ hx) [0, 1, 2, 3, 4, 5, 6] [0, 1, 2, 3, 4, 5, 6]) ?_
   refine kr [22, 33] ?_
   obtain ⟨x50, hx, h⟩ := bind_some h
   refine qb (AC.g9 (jr _ _ _ _ _ _ _ _ _ _ _ hx) [0, 1, 2, 3, 4, 5, 6] [0, 1, 2, 3, 7, 8, 6]) ?_
   refine kr [22, 33] ?_
   obtain ⟨x51, hx, h⟩ := bind_some h
   refine qb (AC.g9 (kq _ _ _ _ _ _ _ _ _ _ hx) [0, 1, 2, 3, 4, 5, 6] [0, 1, 2, 3, 9, 10, 6]) ?_
   refine kr [22, 33] ?_
   obtain ⟨x52, hx, h⟩ := bind_some h
   refine qb (AC.g9 (jr _ _ _ _ _ _ _ _ _ _ _ hx) [0, 1, 2, 3, 4, 5, 6] [0, 1, 2, 3, 11, 10, 12]) ?_
   refine kr [22, 33] ?_
   obtain ⟨x53, hx, h⟩ := bind_some h
   refine qb (AC.g9 (qk6 _ _ _ _ _ _ _ _ _ _ hx) [0, 1, 2, 3, 4, 5, 6] [0, 1, 2, 3, 13, 14, 12]) ?_
   refine kr [22, 33] ?_
   cases h
   exact ji env rfl (tS [some 0, some 1, some 2, some 3, some 4, some 5, some 6] (sV (lS (lS (lS (lS (lS (lS (lS (lS (lS (lS lN)))))))))) (sV (lS lN) (sV (lS lN) (sV (lS (lS lN)) (sR zx (sR zr (sR ql q7))))))) (j4 jg))
  replace h := qx hb h
  refine kr [22, 33] ?_
  refine qf (fun hb => ?_) (fun hb => ?_)
  ·replace h := qw hb h
   refine kr [22, 33] ?_
   refine qf (fun hb => ?_) (fun hb => ?_)
   ·replace h := qw hb h
    refine kr [22, 33] ?_
    obtain ⟨x54, hx, h⟩ := bind_some h
    refine qb (AC.g9 (jr _ _ _ _ _ _ _ _ _ _ _ hx) [0, 1, 2, 3, 4, 5, 6] [0, 1, 2, 3, 4, 5, 6]) ?_
    refine kr [22, 33] ?_
    obtain ⟨x55, hx, h⟩ := bind_some h
    refine qb (AC.g9 (jr _ _ _ _ _ _ _ _ _ _ _ hx) [0, 1, 2, 3, 4, 5, 6] [0, 1, 2, 3, 7, 8, 6]) ?_
    refine kr [22, 33] ?_
    cases h
    exact ji env rfl (tS [some 0, some 1, some 2, some 3, some 4, some 5, some 6] (sV (lS (lS (lS (lS (lS (lS (lS (lS (lS (lS lN)))))))))) (sV (lS lN) (sV (lS lN) (sV (lS (lS lN)) (sR zx (sR zr (sR ql q7))))))) (j4 jg))
   replace h := qx hb h
   refine kr [22, 33] ?_
   cases h
   exact ji env rfl (tS [some 0, some 1, some 2, some 3, some 4, some 5, some 6] (sV (lS (lS (lS (lS (lS (lS (lS (lS (lS (lS lN)))))))))) (sV (lS lN) (sV (lS lN) (sV (lS (lS lN)) (sR zx (sR zr (sR ql q7))))))) (j4 jg))
  replace h := qx hb h
  refine kr [22, 33] ?_
  refine qf (fun hb => ?_) (fun hb => ?_)
  ·replace h := qw hb h
   refine kr [22, 33] ?_
   obtain ⟨x56, hx, h⟩ := bind_some h
   refine qb (AC.g9 (qe3 _ _ _ _ _ _ _ _ _ _ _ hx) [0, 1, 2, 3, 4, 5, 6] [0, 1, 2, 3, 4, 5, 6]) ?_
   refine kr [22, 33] ?_
   cases h
   exact ji env rfl (tS [some 0, some 1, some 2, some 3, some 4, some 5, some 6] (sV (lS (lS (lS (lS (lS (lS (lS (lS (lS (lS lN)))))))))) (sV (lS lN) (sV (lS lN) (sV (lS (lS lN)) (sR zx (sR zr (sR ql q7))))))) (j4 jg))
  replace h := qx hb h
  refine kr [22, 33] ?_
  refine qf (fun hb => ?_) (fun hb => ?_)
  ·replace h := qw hb h
   refine kr [22, 33] ?_
   refine qf (fun hb => ?_) (fun hb => ?_)
   ·replace h := qw hb h
    refine kr [22, 33] ?_
    obtain ⟨x57, hx, h⟩ := bind_some h
    refine qb (AC.g9 (jr _ _ _ _ _ _ _ _ _ _ _ hx) [0, 1, 2, 3, 4, 5, 6] [0, 1, 2, 3, 4, 5, 6]) ?_
    refine kr [22, 33] ?_
    obtain ⟨x58, hx, h⟩ := bind_some h
    refine qb (AC.g9 (kq _ _ _ _ _ _ _ _ _ _ hx) [0, 1, 2, 3, 4, 5, 6] [0, 1, 2, 3, 7, 8, 6]) ?_
    refine kr [22, 33] ?_
    cases h
    exact ji env rfl (tS [some 0, some 1, some 2, some 3, some 4, some 5, some 6] (sV (lS (lS (lS (lS (lS (lS (lS (lS (lS (lS lN)))))))))) (sV (lS lN) (sV (lS lN) (sV (lS (lS lN)) (sR zx (sR zr (sR ql q7))))))) (j4 jg))
   replace h := qx hb h
   refine kr [22, 33] ?_
   cases h
   exact ji env rfl (tS [some 0, some 1, some 2, some 3, some 4, some 5, some 6] (sV (lS (lS (lS (lS (lS (lS (lS (lS (lS (lS lN)))))))))) (sV (lS lN) (sV (lS lN) (sV (lS (lS lN)) (sR zx (sR zr (sR ql q7))))))) (j4 jg))
  replace h := qx hb h
  refine kr [22, 33] ?_
  cases h
  exact ji env rfl (tS [some 0, some 1, some 2, some 3, some 4, some 5, some 6] (sV (lS (lS (lS (lS (lS (lS (lS (lS (lS (lS lN)))))))))) (sV (lS lN) (sV (lS lN) (sV (lS (lS lN)) (sR zx (sR zr (sR ql q7))))))) (j4 jg))
 ·unfold qa at h
  refine ⟨?_, (zm rfl rfl (zm rfl rfl (zm rfl rfl (zm rfl rfl (ju zx rfl (ju zr rfl (ju ql rfl jv))))))), (qj (qj (qj (qj (ze zx (ze zr (ze ql zf))))))), (zo rfl (zo rfl (zo rfl (zo rfl (jt zx (jt zr (jt ql j3))))))), (qj (qj (qj (qj (ze zx (ze zr (ze ql zf))))))), rfl, rfl, rfl, rfl⟩
  refine wk (T := tt) (N := 23) (rs := []) (fun vs w => by simp) Tryz.func124 rfl rfl rfl (by kernel_rfl) (by kernel_rfl) ?_
  refine kr [] ?_
  obtain ⟨x62, hx, h⟩ := bind_some h
  refine qb (AC.g9 (jr _ _ _ _ _ _ _ _ _ _ _ hx) [0, 1, 2, 3, 4, 5, 6] [0, 1, 2, 3, 4, 5, 6]) ?_
  refine kr [] ?_
  obtain ⟨x63, hx, h⟩ := bind_some h
  refine qb (AC.g9 (jr _ _ _ _ _ _ _ _ _ _ _ hx) [0, 1, 2, 3, 4, 5, 6] [0, 1, 2, 3, 7, 8, 6]) ?_
  refine kr [] ?_
  obtain ⟨x64, hx, h⟩ := bind_some h
  refine qb (AC.g9 (jr _ _ _ _ _ _ _ _ _ _ _ hx) [0, 1, 2, 3, 4, 5, 6] [0, 1, 2, 3, 9, 10, 6]) ?_
  refine kr [] ?_
  obtain ⟨x65, hx, h⟩ := bind_some h
  refine qb (AC.g9 (kq _ _ _ _ _ _ _ _ _ _ hx) [0, 1, 2, 3, 4, 5, 6] [0, 1, 2, 3, 11, 12, 6]) ?_
  refine kr [] ?_
  obtain ⟨x66, hx, h⟩ := bind_some h
  refine qb (AC.g9 (jr _ _ _ _ _ _ _ _ _ _ _ hx) [0, 1, 2, 3, 4, 5, 6] [0, 1, 2, 3, 13, 12, 14]) ?_
  refine kr [] ?_
  cases h
  exact ji env rfl (tS [some 0, some 1, some 2, some 3, some 4, some 5, some 6] (sV (lS (lS (lS (lS (lS (lS (lS (lS (lS (lS lN)))))))))) (sV (lS lN) (sV (lS lN) (sV (lS (lS lN)) (sR zx (sR zr (sR ql q7))))))) (j4 jg))
 ·unfold qa at h
  refine ⟨?_, (zm rfl rfl (zm rfl rfl (zm rfl rfl (zm rfl rfl (ju zx rfl (ju zr rfl (ju ql rfl jv))))))), (qj (qj (qj (qj (ze zx (ze zr (ze ql zf))))))), (zo rfl (zo rfl (zo rfl (zo rfl (jt zx (jt zr (jt ql j3))))))), (qj (qj (qj (qj (ze zx (ze zr (ze ql zf))))))), rfl, rfl, rfl, rfl⟩
  refine wk (T := tt) (N := 41) (rs := []) (fun vs w => by simp) Tryz.func123 rfl rfl rfl (by kernel_rfl) (by kernel_rfl) ?_
  refine kr [] ?_
  obtain ⟨x59, hx, h⟩ := bind_some h
  refine Kf env hx rfl rfl rfl rfl (Node.cells_eq x59) ?_
  refine kr [] ?_
  obtain ⟨x60, hx, h⟩ := bind_some h
  refine qb (AC.g9 (qk5 _ _ _ _ _ _ hx) [1, 2, 3, 4] [1, 2, 3, 4]) ?_
  refine kr [] ?_
  obtain ⟨x61, hx, h⟩ := bind_some h
  have hz_x61 := hx
  refine qo7 (C := Node.cells) env hx rfl rfl Node.cells_len rfl rfl rfl rfl rfl (by decide) rfl rfl rfl ?_
  refine kr [] ?_
  refine qxs env rfl rfl rfl rfl (Int.natCast_nonneg _) (qo1 hz_x61) ?_
  refine kr [] ?_
  refine qkr hz_x61 ql rfl rfl (Node.cells_eq x60.1).symm rfl rfl rfl ?_
  refine kr [] ?_
  cases h
  exact ji env rfl (tS [some 0, some 1, some 2, some 3, some 4, some 5, some 6] (sV (lS (lS (lS (lS (lS (lS (lS (lS (lS (lS lN)))))))))) (sV (lS lN) (sV (lS lN) (sV (lS (lS lN)) (sR zx (sR zr (sR ql q7))))))) (j4 jg))
 ·unfold qa at h
  refine ⟨?_, (zm rfl rfl (zm rfl rfl (zm rfl rfl (zm rfl rfl (ju zx rfl (ju zr rfl (ju ql rfl jv))))))), (qj (qj (qj (qj (ze zx (ze zr (ze ql zf))))))), (zo rfl (zo rfl (zo rfl (zo rfl (jt zx (jt zr (jt ql j3))))))), (qj (qj (qj (qj (ze zx (ze zr (ze ql zf))))))), rfl, rfl, rfl, rfl⟩
  refine wk (T := tt) (N := 55) (rs := []) (fun vs w => by simp) Tryz.func125 rfl rfl rfl (by kernel_rfl) (by kernel_rfl) ?_
  refine kr [] ?_
  exact wx (by kernel_rfl) lQ (qa9 _ _ _ _ _ _ _ _ _ _ h)
 ·unfold qa at h
  refine uy ?_
  refine kr [] ?_
  refine qf (fun hb => ?_) (fun hb => ?_)
  ·replace h := qw hb h
   refine kr [] ?_
   obtain ⟨x72, hx, h⟩ := bind_some h
   refine qn (qgf _ _ hx) ?_
   refine kr [] ?_
   obtain ⟨x73, hx, h⟩ := bind_some h
   refine qb (AC.g9 (kq _ _ _ _ _ _ _ _ _ _ hx) [0, 1, 2, 3, 4, 5, 6] [0, 1, 2, 3, 7, 8, 9]) ?_
   refine kr [] ?_
   exact wd (by kernel_rfl) lQ (qa9 _ _ _ _ _ _ _ _ _ _ h)
  replace h := qx hb h
  refine kr [] ?_
  refine qf (fun hb => ?_) (fun hb => ?_)
  ·replace h := qw hb h
   refine kr [] ?_
   obtain ⟨x74, hx, h⟩ := bind_some h
   refine qn (qgf _ _ hx) ?_
   refine kr [] ?_
   obtain ⟨x75, hx, h⟩ := bind_some h
   refine qb (AC.g9 (jr _ _ _ _ _ _ _ _ _ _ _ hx) [0, 1, 2, 3, 4, 5, 6] [0, 1, 2, 3, 7, 8, 9]) ?_
   refine kr [] ?_
   cases h
   exact ji env rfl (tS [some 0, some 1, some 2, some 3, some 4, some 5, some 6] (sV (lS (lS (lS (lS (lS (lS (lS (lS (lS (lS lN)))))))))) (sV (lS lN) (sV (lS lN) (sV (lS (lS lN)) (sR zx (sR zr (sR ql q7))))))) (j4 jg))
  replace h := qx hb h
  refine kr [] ?_
  obtain ⟨x76, hx, h⟩ := bind_some h
  refine qb (AC.g9 (jr _ _ _ _ _ _ _ _ _ _ _ hx) [0, 1, 2, 3, 4, 5, 6] [0, 1, 2, 3, 7, 8, 9]) ?_
  refine kr [] ?_
  cases h
  exact ji env rfl (tS [some 0, some 1, some 2, some 3, some 4, some 5, some 6] (sV (lS (lS (lS (lS (lS (lS (lS (lS (lS (lS lN)))))))))) (sV (lS lN) (sV (lS lN) (sV (lS (lS lN)) (sR zx (sR zr (sR ql q7))))))) (j4 jg))
 ·unfold qa at h
  refine ⟨?_, (zm rfl rfl (zm rfl rfl (zm rfl rfl (zm rfl rfl (ju zx rfl (ju zr rfl (ju ql rfl jv))))))), (qj (qj (qj (qj (ze zx (ze zr (ze ql zf))))))), (zo rfl (zo rfl (zo rfl (zo rfl (jt zx (jt zr (jt ql j3))))))), (qj (qj (qj (qj (ze zx (ze zr (ze ql zf))))))), rfl, rfl, rfl, rfl⟩
  refine wk (T := tt) (N := 25) (rs := []) (fun vs w => by simp) Tryz.func122 rfl rfl rfl (by kernel_rfl) (by kernel_rfl) ?_
  refine kr [1000001] ?_
  exact wx (by kernel_rfl) lQ (qa8 _ _ _ _ _ _ _ _ _ _ h)
 ·unfold qa at h
  refine uy ?_
  refine kr [1000001] ?_
  refine qf (fun hb => ?_) (fun hb => ?_)
  ·replace h := qw hb h
   refine kr [1000001] ?_
   refine qf (fun hb => ?_) (fun hb => ?_)
   ·replace h := qw hb h
    refine kr [1000001] ?_
    obtain ⟨x68, hx, h⟩ := bind_some h
    refine qb (AC.g9 (kq _ _ _ _ _ _ _ _ _ _ hx) [0, 1, 2, 3, 4, 5, 6] [0, 1, 2, 3, 7, 8, 9]) ?_
    refine kr [1000001] ?_
    exact qz (by kernel_rfl) rfl lQ (qe2 _ _ _ _ _ _ _ _ _ h)
   replace h := qx hb h
   refine kr [1000001] ?_
   obtain ⟨x69, hx, h⟩ := bind_some h
   refine qb (AC.g9 (jr _ _ _ _ _ _ _ _ _ _ _ hx) [0, 1, 2, 3, 4, 5, 6] [0, 1, 2, 3, 7, 8, 9]) ?_
   refine kr [1000001] ?_
   obtain ⟨x70, hx, h⟩ := bind_some h
   refine qb (AC.g9 (kq _ _ _ _ _ _ _ _ _ _ hx) [0, 1, 2, 3, 4, 5, 6] [0, 1, 2, 3, 10, 11, 9]) ?_
   refine kr [1000001] ?_
   exact qz (by kernel_rfl) rfl lQ (qe2 _ _ _ _ _ _ _ _ _ h)
  replace h := qx hb h
  refine kr [1000001] ?_
  obtain ⟨x71, hx, h⟩ := bind_some h
  refine qb (AC.g9 (jr _ _ _ _ _ _ _ _ _ _ _ hx) [0, 1, 2, 3, 4, 5, 6] [0, 1, 2, 3, 7, 8, 9]) ?_
  refine kr [1000001] ?_
  cases h
  exact ji env rfl (tS [some 0, some 1, some 2, some 3, some 4, some 5, some 6] (sV (lS (lS (lS (lS (lS (lS (lS (lS (lS (lS lN)))))))))) (sV (lS lN) (sV (lS lN) (sV (lS (lS lN)) (sR zx (sR zr (sR ql q7))))))) (j4 jg))
 ·unfold qa at h
  refine kr [1000001] ?_
  exact wd (by kernel_rfl) lQ (qa8 _ _ _ _ _ _ _ _ _ _ h)
 ·unfold qa at h
  intro l0 hl0 hj0 hm0
  refine uy ?_
  cases a0 with
  | nil =>
    have hb := qqs (C := Node.cells) hl0 hj0
    refine kr [22, 33] ?_
    refine zb hb ?_
    refine kr [22, 33] ?_
    refine qf (fun hb => ?_) (fun hb => ?_)
    ·replace h := qw hb h
     refine kr [22, 33] ?_
     exact qz (by kernel_rfl) rfl lQ (qgg _ _ _ _ _ _ _ _ _ _ h)
    replace h := qx hb h
    refine kr [22, 33] ?_
    exact qz (by kernel_rfl) rfl lQ (qgg _ _ _ _ _ _ _ _ _ _ h)
  | cons x_0 a0 =>
    obtain ⟨hb, hx0, hd0, hk0, hw0⟩ := qnp (C := Node.cells) hl0 hm0
    refine kr [22, 33] ?_
    refine za hb ?_
    refine kr [22, 33] ?_
    refine qf (fun hb => ?_) (fun hb => ?_)
    ·replace h := qw hb h
     refine kr [22, 33] ?_
     exact qz (by kernel_rfl) rfl lQ (qb4 _ _ _ _ _ _ _ _ _ _ _ _ h l0 hd0 hk0 hm0)
    replace h := qx hb h
    refine kr [22, 33] ?_
    exact qz (by kernel_rfl) rfl lQ (qb4 _ _ _ _ _ _ _ _ _ _ _ _ h l0 hd0 hk0 hm0)
 ·unfold qa at h
  intro l0 hd0 hk0 hm0
  have hw0 := q5d hk0 hm0
  refine kr [22, 33] ?_
  obtain ⟨x79, hx, h⟩ := bind_some h
  refine qb (AC.g9 (kq _ _ _ _ _ _ _ _ _ _ hx) [0, 1, 2, 3, 4, 5, 6] [0, 1, 2, 3, 10, 11, 12]) ?_
  refine kr [22, 33] ?_
  exact wd (by kernel_rfl) (qn6 (qss rfl) (Nat.le_of_ble_eq_true rfl) (by simp only [hw0]; simp <;> (repeat' apply And.intro) <;> first | rfl | exact fun x a _ h => (ql.all a x h).2 | exact fun x a _ h => (zx.all a x h).2 | exact fun x a _ h => (zr.all a x h).2) (by simp <;> (repeat' apply And.intro) <;> first | rfl | exact fun x a _ h => (ql.all a x h).2 | exact fun x a _ h => (zx.all a x h).2 | exact fun x a _ h => (zr.all a x h).2)) (qaa _ _ _ _ _ _ _ _ _ _ _ _ h l0 hd0 hk0 hm0)
 ·unfold qa at h
  refine ⟨?_, (zm rfl rfl (zm rfl rfl (zm rfl rfl (zm rfl rfl (ju zx rfl (ju zr rfl (ju ql rfl jv))))))), (qj (qj (qj (qj (ze zx (ze zr (ze ql zf))))))), (zo rfl (zo rfl (zo rfl (zo rfl (jt zx (jt zr (jt ql j3))))))), (qj (qj (qj (qj (ze zx (ze zr (ze ql zf))))))), rfl, rfl, rfl, rfl⟩
  refine wk (T := tt) (N := 69) (rs := []) (fun vs w => by simp) Tryz.func92 rfl rfl rfl (by kernel_rfl) (by kernel_rfl) ?_
  refine kr [53] ?_
  refine qf (fun hb => ?_) (fun hb => ?_)
  ·replace h := qw hb h
   refine kr [53] ?_
   obtain ⟨x27, hx, h⟩ := bind_some h
   refine qb (AC.g9 (qe3 _ _ _ _ _ _ _ _ _ _ _ hx) [0, 1, 2, 3, 4, 5, 6] [0, 1, 2, 3, 4, 5, 6]) ?_
   refine kr [53] ?_
   cases h
   exact ji env rfl (tS [some 0, some 1, some 2, some 3, some 4, some 5, some 6] (sV (lS (lS (lS (lS (lS (lS (lS (lS (lS (lS lN)))))))))) (sV (lS lN) (sV (lS lN) (sV (lS (lS lN)) (sR zx (sR zr (sR ql q7))))))) (j4 jg))
  replace h := qx hb h
  refine kr [53] ?_
  refine qf (fun hb => ?_) (fun hb => ?_)
  ·replace h := qw hb h
   refine kr [53] ?_
   obtain ⟨x28, hx, h⟩ := bind_some h
   refine qb (AC.g9 (jr _ _ _ _ _ _ _ _ _ _ _ hx) [0, 1, 2, 3, 4, 5, 6] [0, 1, 2, 3, 4, 5, 6]) ?_
   refine kr [53] ?_
   obtain ⟨x29, hx, h⟩ := bind_some h
   refine qb (AC.g9 (jr _ _ _ _ _ _ _ _ _ _ _ hx) [0, 1, 2, 3, 4, 5, 6] [0, 1, 2, 3, 7, 8, 6]) ?_
   refine kr [53] ?_
   obtain ⟨x30, hx, h⟩ := bind_some h
   refine qb (AC.g9 (kq _ _ _ _ _ _ _ _ _ _ hx) [0, 1, 2, 3, 4, 5, 6] [0, 1, 2, 3, 9, 10, 6]) ?_
   refine kr [53] ?_
   obtain ⟨x31, hx, h⟩ := bind_some h
   refine qb (AC.g9 (jr _ _ _ _ _ _ _ _ _ _ _ hx) [0, 1, 2, 3, 4, 5, 6] [0, 1, 2, 3, 11, 10, 12]) ?_
   refine kr [53] ?_
   cases h
   exact ji env rfl (tS [some 0, some 1, some 2, some 3, some 4, some 5, some 6] (sV (lS (lS (lS (lS (lS (lS (lS (lS (lS (lS lN)))))))))) (sV (lS lN) (sV (lS lN) (sV (lS (lS lN)) (sR zx (sR zr (sR ql q7))))))) (j4 jg))
  replace h := qx hb h
  refine kr [53] ?_
  refine qf (fun hb => ?_) (fun hb => ?_)
  ·replace h := qw hb h
   refine kr [53] ?_
   obtain ⟨x32, hx, h⟩ := bind_some h
   refine qb (AC.g9 (jr _ _ _ _ _ _ _ _ _ _ _ hx) [0, 1, 2, 3, 4, 5, 6] [0, 1, 2, 3, 4, 5, 6]) ?_
   refine kr [53] ?_
   obtain ⟨x33, hx, h⟩ := bind_some h
   refine qb (AC.g9 (kq _ _ _ _ _ _ _ _ _ _ hx) [0, 1, 2, 3, 4, 5, 6] [0, 1, 2, 3, 7, 8, 6]) ?_
   refine kr [53] ?_
   obtain ⟨x34, hx, h⟩ := bind_some h
   refine qb (AC.g9 (jr _ _ _ _ _ _ _ _ _ _ _ hx) [0, 1, 2, 3, 4, 5, 6] [0, 1, 2, 3, 9, 8, 10]) ?_
   refine kr [53] ?_
   cases h
   exact ji env rfl (tS [some 0, some 1, some 2, some 3, some 4, some 5, some 6] (sV (lS (lS (lS (lS (lS (lS (lS (lS (lS (lS lN)))))))))) (sV (lS lN) (sV (lS lN) (sV (lS (lS lN)) (sR zx (sR zr (sR ql q7))))))) (j4 jg))
  replace h := qx hb h
  refine kr [53] ?_
  refine qf (fun hb => ?_) (fun hb => ?_)
  ·replace h := qw hb h
   refine kr [53] ?_
   refine qf (fun hb => ?_) (fun hb => ?_)
   ·replace h := qw hb h
    refine kr [53] ?_
    exact qz (by kernel_rfl) rfl lQ (Q9 _ _ _ _ _ _ _ _ _ _ _ h)
   replace h := qx hb h
   refine kr [53] ?_
   exact qz (by kernel_rfl) rfl lQ (Q9 _ _ _ _ _ _ _ _ _ _ _ h)
  replace h := qx hb h
  refine kr [53] ?_
  refine qf (fun hb => ?_) (fun hb => ?_)
  ·replace h := qw hb h
   refine kr [53] ?_
   refine qf (fun hb => ?_) (fun hb => ?_)
   ·replace h := qw hb h
    refine kr [53] ?_
    exact qz (by kernel_rfl) rfl lQ (Q9 _ _ _ _ _ _ _ _ _ _ _ h)
   replace h := qx hb h
   refine kr [53] ?_
   exact qz (by kernel_rfl) rfl lQ (Q9 _ _ _ _ _ _ _ _ _ _ _ h)
  replace h := qx hb h
  refine kr [53] ?_
  obtain ⟨x35, hx, h⟩ := bind_some h
  refine qb (AC.g9 (kq _ _ _ _ _ _ _ _ _ _ hx) [0, 1, 2, 3, 4, 5, 6] [0, 1, 2, 3, 4, 5, 6]) ?_
  refine kr [53] ?_
  obtain ⟨x36, hx, h⟩ := bind_some h
  refine qb (AC.g9 (jr _ _ _ _ _ _ _ _ _ _ _ hx) [0, 1, 2, 3, 4, 5, 6] [0, 1, 2, 3, 7, 5, 8]) ?_
  refine kr [53] ?_
  cases h
  exact ji env rfl (tS [some 0, some 1, some 2, some 3, some 4, some 5, some 6] (sV (lS (lS (lS (lS (lS (lS (lS (lS (lS (lS lN)))))))))) (sV (lS lN) (sV (lS lN) (sV (lS (lS lN)) (sR zx (sR zr (sR ql q7))))))) (j4 jg))
 ·unfold qa at h
  refine kr [53] ?_
  obtain ⟨x67, hx, h⟩ := bind_some h
  refine qb (AC.g9 (jr _ _ _ _ _ _ _ _ _ _ _ hx) [0, 1, 2, 3, 4, 5, 6] [0, 1, 2, 3, 7, 8, 9]) ?_
  refine kr [53] ?_
  refine qzx 62 rfl (fun hm => ?_)
  exact wx (by kernel_rfl) lQ (Yc _ _ _ _ _ _ _ _ _ _ h o0_1.kids 0 rfl (Nat.zero_le _) (qn7 hm))
 ·unfold qa at h
  intro l0 j0 hl0 hj0 hm0
  refine uy ?_
  cases a0 with
  | nil =>
    have hb := qqs (C := Node.cells) hl0 hj0
    refine kr [53] ?_
    refine zb hb ?_
    refine kr [53] ?_
    cases h
    exact ji env rfl (tS [some 0, some 1, some 2, some 3, some 4, some 5, some 6] (sV (lS (lS (lS (lS (lS (lS (lS (lS (lS (lS lN)))))))))) (sV (lS lN) (sV (lS lN) (sV (lS (lS lN)) (sR zx (sR zr (sR ql q7))))))) (j4 jg))
  | cons x_0 a0 =>
    obtain ⟨hb, hx0, hd0, hk0, hw0⟩ := qnp (C := Node.cells) hl0 hm0
    refine kr [53] ?_
    refine za hb ?_
    refine kr [53] ?_
    obtain ⟨x77, hx, h⟩ := bind_some h
    refine qb (AC.g9 (kq _ _ _ _ _ _ _ _ _ _ hx) [0, 1, 2, 3, 4, 5, 6] [0, 1, 2, 3, 12, 13, 14]) ?_
    refine kr [53] ?_
    exact wd (by kernel_rfl) (qn6 (qss rfl) (Nat.le_of_ble_eq_true rfl) (by simp only [hw0]; simp <;> (repeat' apply And.intro) <;> first | rfl | exact fun x a _ h => (ql.all a x h).2 | exact fun x a _ h => (zx.all a x h).2 | exact fun x a _ h => (zr.all a x h).2) (by simp <;> (repeat' apply And.intro) <;> first | rfl | exact fun x a _ h => (ql.all a x h).2 | exact fun x a _ h => (zx.all a x h).2 | exact fun x a _ h => (zr.all a x h).2)) (Yc _ _ _ _ _ _ _ _ _ _ h l0 (j0 + 1) hd0 hk0 hm0)
 unfold qa at h
 refine ⟨?_, (zm rfl rfl (zm rfl rfl (zm rfl rfl (zm rfl rfl (ju zx rfl (ju zr rfl (ju ql rfl jv))))))), (qj (qj (qj (qj (ze zx (ze zr (ze ql zf))))))), (zo rfl (zo rfl (zo rfl (zo rfl (jt zx (jt zr (jt ql j3))))))), (qj (qj (qj (qj (ze zx (ze zr (ze ql zf))))))), rfl, rfl, rfl, rfl⟩
 refine wk (T := tt) (N := 100) (rs := []) (fun vs w => by simp) Tryz.func91 rfl rfl rfl (by kernel_rfl) (by kernel_rfl) ?_
 refine kr [] ?_
 refine qf (fun hb => ?_) (fun hb => ?_)
 ·replace h := qw hb h
  refine kr [] ?_
  obtain ⟨x6, hx, h⟩ := bind_some h
  refine qb (AC.g9 (jr _ _ _ _ _ _ _ _ _ _ _ hx) [0, 1, 2, 3, 4, 5, 6] [0, 1, 2, 3, 4, 5, 6]) ?_
  refine kr [] ?_
  obtain ⟨x7, hx, h⟩ := bind_some h
  refine qb (AC.g9 (jr _ _ _ _ _ _ _ _ _ _ _ hx) [0, 1, 2, 3, 4, 5, 6] [0, 1, 2, 3, 7, 8, 6]) ?_
  refine kr [] ?_
  obtain ⟨x8, hx, h⟩ := bind_some h
  refine qb (AC.g9 (qd0 _ _ _ _ _ _ _ _ _ hx) [0, 1, 2, 3, 4, 5, 6] [0, 1, 2, 3, 9, 10, 6]) ?_
  refine kr [] ?_
  cases h
  exact ji env rfl (tS [some 0, some 1, some 2, some 3, some 4, some 5, some 6] (sV (lS (lS (lS (lS (lS (lS (lS (lS (lS (lS lN)))))))))) (sV (lS lN) (sV (lS lN) (sV (lS (lS lN)) (sR zx (sR zr (sR ql q7))))))) (j4 jg))
 replace h := qx hb h
 refine kr [] ?_
 refine qf (fun hb => ?_) (fun hb => ?_)
 ·replace h := qw hb h
  refine kr [] ?_
  obtain ⟨x9, hx, h⟩ := bind_some h
  refine qb (AC.g9 (kq _ _ _ _ _ _ _ _ _ _ hx) [0, 1, 2, 3, 4, 5, 6] [0, 1, 2, 3, 4, 5, 6]) ?_
  refine kr [] ?_
  obtain ⟨x10, hx, h⟩ := bind_some h
  refine qb (AC.g9 (jr _ _ _ _ _ _ _ _ _ _ _ hx) [0, 1, 2, 3, 4, 5, 6] [0, 1, 2, 3, 7, 5, 8]) ?_
  refine kr [] ?_
  obtain ⟨x11, hx, h⟩ := bind_some h
  refine qb (AC.g9 (jr _ _ _ _ _ _ _ _ _ _ _ hx) [0, 1, 2, 3, 4, 5, 6] [0, 1, 2, 3, 9, 10, 8]) ?_
  refine kr [] ?_
  obtain ⟨x12, hx, h⟩ := bind_some h
  refine qb (AC.g9 (jr _ _ _ _ _ _ _ _ _ _ _ hx) [0, 1, 2, 3, 4, 5, 6] [0, 1, 2, 3, 11, 12, 8]) ?_
  refine kr [] ?_
  obtain ⟨x13, hx, h⟩ := bind_some h
  refine qb (AC.g9 (qd0 _ _ _ _ _ _ _ _ _ hx) [0, 1, 2, 3, 4, 5, 6] [0, 1, 2, 3, 13, 14, 8]) ?_
  refine kr [] ?_
  cases h
  exact ji env rfl (tS [some 0, some 1, some 2, some 3, some 4, some 5, some 6] (sV (lS (lS (lS (lS (lS (lS (lS (lS (lS (lS lN)))))))))) (sV (lS lN) (sV (lS lN) (sV (lS (lS lN)) (sR zx (sR zr (sR ql q7))))))) (j4 jg))
 replace h := qx hb h
 refine kr [] ?_
 refine qf (fun hb => ?_) (fun hb => ?_)
 ·replace h := qw hb h
  refine kr [] ?_
  obtain ⟨x14, hx, h⟩ := bind_some h
  refine qb (AC.g9 (jr _ _ _ _ _ _ _ _ _ _ _ hx) [0, 1, 2, 3, 4, 5, 6] [0, 1, 2, 3, 4, 5, 6]) ?_
  refine kr [] ?_
  obtain ⟨x15, hx, h⟩ := bind_some h
  refine qb (AC.g9 (jr _ _ _ _ _ _ _ _ _ _ _ hx) [0, 1, 2, 3, 4, 5, 6] [0, 1, 2, 3, 7, 8, 6]) ?_
  refine kr [] ?_
  obtain ⟨x16, hx, h⟩ := bind_some h
  refine qb (AC.g9 (jr _ _ _ _ _ _ _ _ _ _ _ hx) [0, 1, 2, 3, 4, 5, 6] [0, 1, 2, 3, 9, 10, 6]) ?_
  refine kr [] ?_
  obtain ⟨x17, hx, h⟩ := bind_some h
  refine qb (AC.g9 (jr _ _ _ _ _ _ _ _ _ _ _ hx) [0, 1, 2, 3, 4, 5, 6] [0, 1, 2, 3, 11, 12, 6]) ?_
  refine kr [] ?_
  cases h
  exact ji env rfl (tS [some 0, some 1, some 2, some 3, some 4, some 5, some 6] (sV (lS (lS (lS (lS (lS (lS (lS (lS (lS (lS lN)))))))))) (sV (lS lN) (sV (lS lN) (sV (lS (lS lN)) (sR zx (sR zr (sR ql q7))))))) (j4 jg))
 replace h := qx hb h
 refine kr [] ?_
 refine qf (fun hb => ?_) (fun hb => ?_)
 ·replace h := qw hb h
  refine kr [] ?_
  obtain ⟨x18, hx, h⟩ := bind_some h
  refine qb (AC.g9 (kq _ _ _ _ _ _ _ _ _ _ hx) [0, 1, 2, 3, 4, 5, 6] [0, 1, 2, 3, 4, 5, 6]) ?_
  refine kr [] ?_
  obtain ⟨x19, hx, h⟩ := bind_some h
  refine qb (AC.g9 (jr _ _ _ _ _ _ _ _ _ _ _ hx) [0, 1, 2, 3, 4, 5, 6] [0, 1, 2, 3, 7, 5, 8]) ?_
  refine kr [] ?_
  obtain ⟨x20, hx, h⟩ := bind_some h
  refine qb (AC.g9 (kq _ _ _ _ _ _ _ _ _ _ hx) [0, 1, 2, 3, 4, 5, 6] [0, 1, 2, 3, 9, 10, 8]) ?_
  refine kr [] ?_
  cases h
  exact ji env rfl (tS [some 0, some 1, some 2, some 3, some 4, some 5, some 6] (sV (lS (lS (lS (lS (lS (lS (lS (lS (lS (lS lN)))))))))) (sV (lS lN) (sV (lS lN) (sV (lS (lS lN)) (sR zx (sR zr (sR ql q7))))))) (j4 jg))
 replace h := qx hb h
 refine kr [] ?_
 refine qf (fun hb => ?_) (fun hb => ?_)
 ·replace h := qw hb h
  refine kr [] ?_
  obtain ⟨x21, hx, h⟩ := bind_some h
  refine qb (AC.g9 (jr _ _ _ _ _ _ _ _ _ _ _ hx) [0, 1, 2, 3, 4, 5, 6] [0, 1, 2, 3, 4, 5, 6]) ?_
  refine kr [] ?_
  obtain ⟨x22, hx, h⟩ := bind_some h
  refine qb (AC.g9 (kq _ _ _ _ _ _ _ _ _ _ hx) [0, 1, 2, 3, 4, 5, 6] [0, 1, 2, 3, 7, 8, 6]) ?_
  refine kr [] ?_
  cases h
  exact ji env rfl (tS [some 0, some 1, some 2, some 3, some 4, some 5, some 6] (sV (lS (lS (lS (lS (lS (lS (lS (lS (lS (lS lN)))))))))) (sV (lS lN) (sV (lS lN) (sV (lS (lS lN)) (sR zx (sR zr (sR ql q7))))))) (j4 jg))
 replace h := qx hb h
 refine kr [] ?_
 refine qf (fun hb => ?_) (fun hb => ?_)
 ·replace h := qw hb h
  refine kr [] ?_
  obtain ⟨x23, hx, h⟩ := bind_some h
  refine qb (AC.g9 (jr _ _ _ _ _ _ _ _ _ _ _ hx) [0, 1, 2, 3, 4, 5, 6] [0, 1, 2, 3, 4, 5, 6]) ?_
  refine kr [] ?_
  obtain ⟨x24, hx, h⟩ := bind_some h
  refine qb (AC.g9 (kq _ _ _ _ _ _ _ _ _ _ hx) [0, 1, 2, 3, 4, 5, 6] [0, 1, 2, 3, 7, 8, 6]) ?_
  refine kr [] ?_
  obtain ⟨x25, hx, h⟩ := bind_some h
  refine qb (AC.g9 (jr _ _ _ _ _ _ _ _ _ _ _ hx) [0, 1, 2, 3, 4, 5, 6] [0, 1, 2, 3, 9, 8, 10]) ?_
  refine kr [] ?_
  cases h
  exact ji env rfl (tS [some 0, some 1, some 2, some 3, some 4, some 5, some 6] (sV (lS (lS (lS (lS (lS (lS (lS (lS (lS (lS lN)))))))))) (sV (lS lN) (sV (lS lN) (sV (lS (lS lN)) (sR zx (sR zr (sR ql q7))))))) (j4 jg))
 replace h := qx hb h
 refine kr [] ?_
 obtain ⟨x26, hx, h⟩ := bind_some h
 refine qb (AC.g9 (jr _ _ _ _ _ _ _ _ _ _ _ hx) [0, 1, 2, 3, 4, 5, 6] [0, 1, 2, 3, 4, 5, 6]) ?_
 refine kr [] ?_
 cases h
 exact ji env rfl (tS [some 0, some 1, some 2, some 3, some 4, some 5, some 6] (sV (lS (lS (lS (lS (lS (lS (lS (lS (lS (lS lN)))))))))) (sV (lS lN) (sV (lS lN) (sV (lS (lS lN)) (sR zx (sR zr (sR ql q7))))))) (j4 jg))
theorem qk5 : PC5 qkx qbb := ua.1
theorem qpl : PC9 qii qd1 := ua.2.1
theorem qe3 : PC10 qij qag := ua.2.2.1
theorem kq : PC9 qpf ur := ua.2.2.2.1
theorem qk6 : PC9 qky qcm := ua.2.2.2.2.1
theorem qa9 : PC9 qe0 Ju := ua.2.2.2.2.2.1
theorem qd0 : PC8 qkw qba := ua.2.2.2.2.2.2.1
theorem qa8 : PC9 qey Z4 := ua.2.2.2.2.2.2.2.1
theorem qe2 : PC8 qez Kj := ua.2.2.2.2.2.2.2.2.1
theorem qaa : PC11 qcv Zu := ua.2.2.2.2.2.2.2.2.2.1
theorem qb4 : PC11 qbv Jt := ua.2.2.2.2.2.2.2.2.2.2.1
theorem qge : PC9 qbt Yq := ua.2.2.2.2.2.2.2.2.2.2.2.1
theorem Q9 : PC10 Kg uz := ua.2.2.2.2.2.2.2.2.2.2.2.2.1
theorem Yc : PC9 Wd uv := ua.2.2.2.2.2.2.2.2.2.2.2.2.2.1
theorem qfb : PC9 qaq J5 := ua.2.2.2.2.2.2.2.2.2.2.2.2.2.2
def Jj (l : LU) : Option Int := some ((l.length : Int))
theorem qcd (l : LU) (r : Int) (h : Jj l = some r) : AC Tryz.prog G 47 [.ptr 0 0 0] 2 [(0, .var 60 [.optr 0 0 0, .bs 1 1 1 0 l.length]), (1, .row 5 (l.map c8).flatten)] (.int .i64 r) 2 [(0, .var 60 [.optr 0 0 0, .bs 1 1 1 0 l.length]), (1, .row 5 (l.map c8).flatten)] := by
 cases h; exact q8w l
def Zc (l : LU) : Option BA := some ((⟨l.toArray⟩ : BA))
theorem qav (l : LU) (r : BA) (h : Zc l = some r) : AC Tryz.prog G 48 [.ptr 0 0 0] 2 [(0, .var 60 [.optr 0 0 0, .bs 1 1 1 0 l.length]), (1, .row 5 (l.map c8).flatten)] (.str r) 2 [(0, .dead), (1, .dead)] := by
 cases h; exact q1k l
def Wm (a0 : Node) : Option (BA × Int) :=
 yw a0 >>= fun x1 =>
 if (!decide (x1 = (0 : Int))) = true then
  some ((⟨#[]⟩ : BA), x1)
 else
  qbb (⟨#[]⟩ : BA) ([] : LU) a0 (⟨#[]⟩ : BA) (0 : Int) >>= fun x2 =>
  Jj x2.2.2 >>= fun x3 =>
  if (decide ((65536 : Int) < x3)) = true then
   some ((⟨#[]⟩ : BA), (3 : Int))
  else
   Zc x2.2.2 >>= fun x4 =>
   some (x4, (0 : Int))
@[reducible] def qpa (a0 : Node) (r : BA × Int) : Prop :=
  Fn Tryz.prog G 19 [(.agg (zp a0))] (.tup [(.str r.1), (.int .i64 r.2)])
theorem qpk : PC1 qpa Wm := fun a0 r h => by
 rw [Wm.eq_def] at h
 refine jk (T := tt) (N := 22) (rs := [.tmp 2, .tmp 3]) (fun vs w => by simp) Tryz.func19 rfl rfl rfl rfl (by kernel_rfl) (ko rfl) (jn _ rfl) ?_
 refine kr [] ?_
 obtain ⟨x1, hx, h⟩ := bind_some h
 refine qn (Zt _ _ hx) ?_
 refine kr [] ?_
 refine qf (fun hb => ?_) (fun hb => ?_)
 ·replace h := qw hb h
  refine kr [] ?_
  cases h
  exact kf
 replace h := qx hb h
 refine kr [] ?_
 obtain ⟨x2, hx, h⟩ := bind_some h
 refine qb (ACalls.ghost (e := 5) (ACalls.wkg (AC.go (objs := [(0, .var 26 (zp a0)), (1, .var 60 [(.optr 1 1 0), (.bs 1 4 4 0 ([] : LU).length)]), (2, .var 9 [(.str (⟨#[]⟩ : BA))]), (3, .var 70 [(.fn 41 [(.ptr 2 2 0), (.ptr 1 1 0)])]), (4, .row 5 (([] : LU).map c8).flatten)]) (xs := [(.ptr 3 3 0), (.agg (zp a0)), (.str (⟨#[]⟩ : BA)), (.int .i64 (0 : Int))]) (qk5 _ _ _ _ _ _ hx) [3, 2, 1, 4] [3, 2, 1, 4] rfl rfl rfl rfl rfl rfl rfl rfl rfl) (qi (qo _) (qi (qo _) (qi (qo _) (qi (qo _) je)))) (qe (jd (qd (q0b rfl) (qd (zi rfl) jy)) (zu _))))) ?_
 refine kr [] ?_
 obtain ⟨x3, hx, h⟩ := bind_some h
 refine qb (AC.g9 (qcd _ _ hx) [1, 4] [1, 5]) ?_
 refine kr [] ?_
 refine qf (fun hb => ?_) (fun hb => ?_)
 ·replace h := qw hb h
  refine kr [] ?_
  cases h
  exact kf
 replace h := qx hb h
 refine kr [] ?_
 obtain ⟨x4, hx, h⟩ := bind_some h
 refine qb (AC.g9 (qav _ _ hx) [1, 4] [1, 5]) ?_
 refine kr [] ?_
 cases h
 exact kf
mutual
def Kt (a0 : Node) (a1 : Int) (a2 : Int) : Option Int :=
 if (decide (a1 < (1 : Int))) = true then
  some (-1 : Int)
 else
  if (decide (a2 < (1 : Int))) = true then
   some (-1 : Int)
  else
   if (decide (a1 < ((a0.kids.map Node.cells).length : Int))) = true then
    some (-1 : Int)
   else
    Qx (qa a2) (IntKind.i64.wrap (a1 - (1 : Int))) (0 : Int) (qa a0)
 partial_fixpoint
def Qx (t2 : Int) (t7 : Int) (t8 : Int) (o0 : Node) : Option Int :=
 if (decide (t8 < ((o0.kids.map Node.cells).length : Int))) = true then
  ix o0.kids t8 >>= fun x1 =>
  Kt (qa x1) (qa t7) (IntKind.i64.wrap (t2 - (1 : Int))) >>= fun x2 =>
  if (decide (x2 < (0 : Int))) = true then
   some (-1 : Int)
  else
   Qx (qa t2) (qa x2) (IntKind.i64.wrap (t8 + (1 : Int))) (qa o0)
 else
  some t7
 partial_fixpoint
end
@[reducible] def qgc (a0 : Node) (a1 : Int) (a2 : Int) (r : Int) : Prop :=
  Fn Tryz.prog G 80 [(.agg (zp a0)), (.int .i64 a1), (.int .i64 a2)] (.int .i64 r)
@[reducible] def qbw (t2 : Int) (t7 : Int) (t8 : Int) (o0 : Node) (r : Int) : Prop :=
  Ok Tryz.prog G tt 43 0 (Ret Tryz.prog [.tmp 6] (fun y H => Told Tryz.prog G H y (.int .i64 r))) (.again (ud [] Tryz.f80 0).1 (ud [] Tryz.f80 0).2 (.n .undef (.n .undef (.n (.ptr 0 0 0) (.n (.int .i64 t7) .z .z) .z) .z) (.n (.int .i64 t2) (.n .undef (.n (.int .i64 t8) .z .z) .z) .z)) 1 [(0, .var 26 (zp o0))])
theorem qhj : PC3 qgc Kt ∧ PC4 qbw Qx := by
 refine Kt.mutual_partial_correctness qgc qbw (fun Qx Wi a0 a1 a2 r h => ?_) (fun Kt Qx qgi Wi t2 t7 t8 o0 r h => ?_)
 ·unfold qa at h
  refine jk (T := tt) (N := 43) (rs := [.tmp 6]) (fun vs w => by simp) Tryz.func80 rfl rfl rfl rfl (by kernel_rfl) (ko rfl) (jn _ rfl) ?_
  refine kr [] ?_
  refine qy (fun hb => ?_) (fun hb => ?_)
  ·replace h := qx hb h
   refine kr [] ?_
   refine qy (fun hb => ?_) (fun hb => ?_)
   ·replace h := qx hb h
    refine kr [] ?_
    refine qf (fun hb => ?_) (fun hb => ?_)
    ·replace h := qw hb h
     refine kr [] ?_
     cases h
     exact kf
    replace h := qx hb h
    refine kr [] ?_
    exact wx (by kernel_rfl) lA (Wi _ _ _ _ _ h)
   replace h := qw hb h
   refine kr [] ?_
   cases h
   exact kf
  replace h := qw hb h
  refine kr [] ?_
  cases h
  exact kf
 unfold qa at h
 refine uy ?_
 refine kr [] ?_
 refine qf (fun hb => ?_) (fun hb => ?_)
 ·replace h := qw hb h
  refine kr [] ?_
  obtain ⟨x1, hx, h⟩ := bind_some h
  refine Kf env hx rfl rfl rfl rfl (Node.cells_eq x1) ?_
  refine kr [] ?_
  obtain ⟨x2, hx, h⟩ := bind_some h
  refine qn (qgi _ _ _ _ hx) ?_
  refine kr [] ?_
  refine qf (fun hb => ?_) (fun hb => ?_)
  ·replace h := qw hb h
   refine kr [] ?_
   cases h
   exact kf
  replace h := qx hb h
  refine kr [] ?_
  exact wd (by kernel_rfl) lA (Wi _ _ _ _ _ h)
 replace h := qx hb h
 refine kr [] ?_
 cases h
 exact kf
theorem qgi : PC3 qgc Kt := qhj.1
theorem Wi : PC4 qbw Qx := qhj.2
def qg3 (a0 : Node) (a1 : Int) (a2 : Int) : Option Bool :=
 Kt a0 a1 a2 >>= fun x1 =>
 some (decide ((0 : Int) ≤ x1))
@[reducible] def qwa (a0 : Node) (a1 : Int) (a2 : Int) (r : Bool) : Prop :=
  Fn Tryz.prog G 37 [(.agg (zp a0)), (.int .i64 a1), (.int .i64 a2)] (.bool r)
theorem qwb : PC3 qwa qg3 := fun a0 a1 a2 r h => by
 rw [qg3.eq_def] at h
 refine jk (T := tt) (N := 12) (rs := [.tmp 6]) (fun vs w => by simp) Tryz.func37 rfl rfl rfl rfl (by kernel_rfl) (ko rfl) (jn _ rfl) ?_
 refine kr [] ?_
 obtain ⟨x1, hx, h⟩ := bind_some h
 refine qn (qgi _ _ _ _ hx) ?_
 refine kr [] ?_
 cases h
 exact kf
mutual
def Z5 (a0 : Node) (a1 : Int) : Option Int :=
 if (decide (a1 < (a0.text.size : Int))) = true then
  some (-1 : Int)
 else
  if (decide (a1 < ((a0.gaps.map sc).length : Int))) = true then
   some (-1 : Int)
  else
   Qe (IntKind.i64.wrap (a1 - (a0.text.size : Int))) (0 : Int) (qa a0)
 partial_fixpoint
def Qe (t5 : Int) (t6 : Int) (o0 : Node) : Option Int :=
 if (decide (t6 < ((o0.gaps.map sc).length : Int))) = true then
  ix o0.gaps t6 >>= fun x1 =>
  if (decide (t5 ≤ (x1.size : Int))) = true then
   some (-1 : Int)
  else
   ix o0.gaps t6 >>= fun x2 =>
   Qe (IntKind.i64.wrap ((IntKind.i64.wrap (t5 - (x2.size : Int))) - (1 : Int))) (IntKind.i64.wrap (t6 + (1 : Int))) (qa o0)
 else
  Qd (qa t5) (0 : Int) (qa o0)
 partial_fixpoint
def Qd (t5 : Int) (t7 : Int) (o0 : Node) : Option Int :=
 if (decide (t7 < ((o0.kids.map Node.cells).length : Int))) = true then
  ix o0.kids t7 >>= fun x3 =>
  Z5 (qa x3) (qa t5) >>= fun x4 =>
  if (decide (x4 < (0 : Int))) = true then
   some (-1 : Int)
  else
   Qd (qa x4) (IntKind.i64.wrap (t7 + (1 : Int))) (qa o0)
 else
  some t5
 partial_fixpoint
end
@[reducible] def qe1 (a0 : Node) (a1 : Int) (r : Int) : Prop :=
  Fn Tryz.prog G 38 [(.agg (zp a0)), (.int .i64 a1)] (.int .i64 r)
@[reducible] def qas (t5 : Int) (t6 : Int) (o0 : Node) (r : Int) : Prop :=
  Ok Tryz.prog G tt 66 0 (Ret Tryz.prog [.tmp 4] (fun y H => Told Tryz.prog G H y (.int .i64 r))) (.again (ud [] Tryz.f38 0).1 (ud [] Tryz.f38 0).2 (.n .undef (.n .undef .z (.n (.int .i64 t5) .z .z)) (.n (.ptr 0 0 0) .z (.n (.int .i64 t6) .z .z))) 1 [(0, .var 26 (zp o0))])
@[reducible] def qar (t5 : Int) (t7 : Int) (o0 : Node) (r : Int) : Prop :=
  Ok Tryz.prog G tt 66 0 (Ret Tryz.prog [.tmp 4] (fun y H => Told Tryz.prog G H y (.int .i64 r))) (.again (ud [] Tryz.f38 1).1 (ud [] Tryz.f38 1).2 (.n .undef (.n .undef (.n .undef (.n (.int .i64 t7) .z .z) .z) (.n (.int .i64 t5) .z .z)) (.n (.ptr 0 0 0) .z .z)) 1 [(0, .var 26 (zp o0))])
theorem qcc : PC2 qe1 Z5 ∧ PC3 qas Qe ∧ PC3 qar Qd := by
 refine Z5.mutual_partial_correctness qe1 qas qar (fun Qe Kb a0 a1 r h => ?_) (fun Qe Qd Kb Ka t5 t6 o0 r h => ?_) (fun Z5 Qd qe4 Ka t5 t7 o0 r h => ?_)
 ·unfold qa at h
  refine jk (T := tt) (N := 66) (rs := [.tmp 4]) (fun vs w => by simp) Tryz.func38 rfl rfl rfl rfl (by kernel_rfl) (ko rfl) (jn _ rfl) ?_
  refine kr [] ?_
  refine qy (fun hb => ?_) (fun hb => ?_)
  ·replace h := qx hb h
   refine kr [] ?_
   refine qf (fun hb => ?_) (fun hb => ?_)
   ·replace h := qw hb h
    refine kr [] ?_
    cases h
    exact kf
   replace h := qx hb h
   refine kr [] ?_
   exact wx (by kernel_rfl) lA (Kb _ _ _ _ h)
  replace h := qw hb h
  refine kr [] ?_
  cases h
  exact kf
 ·unfold qa at h
  refine uy ?_
  refine kr [] ?_
  refine qf (fun hb => ?_) (fun hb => ?_)
  ·replace h := qw hb h
   refine kr [] ?_
   obtain ⟨x1, hx, h⟩ := bind_some h
   refine Kf env hx rfl rfl rfl rfl rfl ?_
   refine kr [] ?_
   refine qf (fun hb => ?_) (fun hb => ?_)
   ·replace h := qw hb h
    refine kr [] ?_
    cases h
    exact kf
   replace h := qx hb h
   refine kr [] ?_
   obtain ⟨x2, hx, h⟩ := bind_some h
   refine Kf env hx rfl rfl rfl rfl rfl ?_
   refine kr [] ?_
   exact wd (by kernel_rfl) lA (Kb _ _ _ _ h)
  replace h := qx hb h
  refine kr [] ?_
  exact wx (by kernel_rfl) lA (Ka _ _ _ _ h)
 unfold qa at h
 refine uy ?_
 refine kr [] ?_
 refine qf (fun hb => ?_) (fun hb => ?_)
 ·replace h := qw hb h
  refine kr [] ?_
  obtain ⟨x3, hx, h⟩ := bind_some h
  refine Kf env hx rfl rfl rfl rfl (Node.cells_eq x3) ?_
  refine kr [] ?_
  obtain ⟨x4, hx, h⟩ := bind_some h
  refine qn (qe4 _ _ _ hx) ?_
  refine kr [] ?_
  refine qf (fun hb => ?_) (fun hb => ?_)
  ·replace h := qw hb h
   refine kr [] ?_
   cases h
   exact kf
  replace h := qx hb h
  refine kr [] ?_
  exact wd (by kernel_rfl) lA (Ka _ _ _ _ h)
 replace h := qx hb h
 refine kr [] ?_
 cases h
 exact kf
theorem qe4 : PC2 qe1 Z5 := qcc.1
theorem Kb : PC3 qas Qe := qcc.2.1
theorem Ka : PC3 qar Qd := qcc.2.2
def qca (a0 : Node) (a1 : Int) (a2 : Int) (a3 : Int) : Option Bool :=
 qg3 a0 a1 a2 >>= fun x1 =>
 if x1 = true then
  Z5 a0 a3 >>= fun x2 =>
  some (decide ((0 : Int) ≤ x2))
 else
  some false
@[reducible] def qti (a0 : Node) (a1 : Int) (a2 : Int) (a3 : Int) (r : Bool) : Prop :=
  Fn Tryz.prog G 17 [(.agg (zp a0)), (.int .i64 a1), (.int .i64 a2), (.int .i64 a3)] (.bool r)
theorem qtk : PC4 qti qca := fun a0 a1 a2 a3 r h => by
 rw [qca.eq_def] at h
 refine jk (T := tt) (N := 19) (rs := [.tmp 8]) (fun vs w => by simp) Tryz.func17 rfl rfl rfl rfl (by kernel_rfl) (ko rfl) (jn _ rfl) ?_
 refine kr [] ?_
 obtain ⟨x1, hx, h⟩ := bind_some h
 refine qn (qwb _ _ _ _ hx) ?_
 refine kr [] ?_
 refine qv (fun hb => ?_) (fun hb => ?_)
 ·replace h := qw hb h
  refine kr [] ?_
  obtain ⟨x2, hx, h⟩ := bind_some h
  refine qn (qe4 _ _ _ hx) ?_
  refine kr [] ?_
  cases h
  exact kf
 replace h := qx hb h
 refine kr [] ?_
 cases h
 exact kf
mutual
def Ku (a0 : Node) (a1 : Node) : Option Bool :=
 if (!decide (a0.kind = a1.kind)) = true then
  some false
 else
  if (!decide (a0.text = a1.text)) = true then
   some false
  else
   if (!decide (((a0.kids.map Node.cells).length : Int) = ((a1.kids.map Node.cells).length : Int))) = true then
    some false
   else
    Qy (0 : Int) (qa a0) (qa a1)
 partial_fixpoint
def Qy (t5 : Int) (o0 : Node) (o1 : Node) : Option Bool :=
 if (decide (t5 < ((o0.kids.map Node.cells).length : Int))) = true then
  ix o0.kids t5 >>= fun x1 =>
  ix o1.kids t5 >>= fun x2 =>
  Ku (qa x1) (qa x2) >>= fun x3 =>
  if (!x3) = true then
   some false
  else
   Qy (IntKind.i64.wrap (t5 + (1 : Int))) (qa o0) (qa o1)
 else
  some true
 partial_fixpoint
end
@[reducible] def qgd (a0 : Node) (a1 : Node) (r : Bool) : Prop :=
  Fn Tryz.prog G 21 [(.agg (zp a0)), (.agg (zp a1))] (.bool r)
@[reducible] def qbx (t5 : Int) (o0 : Node) (o1 : Node) (r : Bool) : Prop :=
  Ok Tryz.prog G tt 46 0 (Ret Tryz.prog [.tmp 4] (fun y H => Told Tryz.prog G H y (.bool r))) (.again (ud [] Tryz.f21 0).1 (ud [] Tryz.f21 0).2 (.n .undef (.n .undef (.n (.ptr 1 1 0) .z .z) (.n (.int .i64 t5) .z .z)) (.n (.ptr 0 0 0) .z .z)) 2 [(0, .var 26 (zp o0)), (1, .var 26 (zp o1))])
theorem qhk : PC2 qgd Ku ∧ PC3 qbx Qy := by
 refine Ku.mutual_partial_correctness qgd qbx (fun Qy Wj a0 a1 r h => ?_) (fun Ku Qy qgj Wj t5 o0 o1 r h => ?_)
 ·unfold qa at h
  refine jk (T := tt) (N := 46) (rs := [.tmp 4]) (fun vs w => by simp) Tryz.func21 rfl rfl rfl rfl (by kernel_rfl) (ko rfl) (jn _ rfl) ?_
  refine kr [] ?_
  refine qy (fun hb => ?_) (fun hb => ?_)
  ·replace h := qx hb h
   refine kr [] ?_
   refine qy (fun hb => ?_) (fun hb => ?_)
   ·replace h := qx hb h
    refine kr [] ?_
    refine qf (fun hb => ?_) (fun hb => ?_)
    ·replace h := qw hb h
     refine kr [] ?_
     cases h
     exact kf
    replace h := qx hb h
    refine kr [] ?_
    exact wx (by kernel_rfl) lA (Wj _ _ _ _ h)
   replace h := qw hb h
   refine kr [] ?_
   cases h
   exact kf
  replace h := qw hb h
  refine kr [] ?_
  cases h
  exact kf
 unfold qa at h
 refine uy ?_
 refine kr [] ?_
 refine qf (fun hb => ?_) (fun hb => ?_)
 ·replace h := qw hb h
  refine kr [] ?_
  obtain ⟨x1, hx, h⟩ := bind_some h
  refine Kf env hx rfl rfl rfl rfl (Node.cells_eq x1) ?_
  refine kr [] ?_
  obtain ⟨x2, hx, h⟩ := bind_some h
  refine Kf env hx rfl rfl rfl rfl (Node.cells_eq x2) ?_
  refine kr [] ?_
  obtain ⟨x3, hx, h⟩ := bind_some h
  refine qn (qgj _ _ _ hx) ?_
  refine kr [] ?_
  refine qf (fun hb => ?_) (fun hb => ?_)
  ·replace h := qw hb h
   refine kr [] ?_
   cases h
   exact kf
  replace h := qx hb h
  refine kr [] ?_
  exact wd (by kernel_rfl) lA (Wj _ _ _ _ h)
 replace h := qx hb h
 refine kr [] ?_
 cases h
 exact kf
theorem qgj : PC2 qgd Ku := qhk.1
theorem Wj : PC3 qbx Qy := qhk.2
def uk (t6 : Int) (o0 : Node) (o1 : Node) : Option Bool :=
 Jv >>= fun x12 =>
 if x12 = true then
  if (decide (t6 = (0 : Int))) = true then
   Ku o1 o0 >>= fun x13 =>
   some x13
  else
   some false
 else
  some false
@[reducible] def qdy (t6 : Int) (o0 : Node) (o1 : Node) (r : Bool) : Prop :=
  Ok Tryz.prog G tt 65 0 (Ret Tryz.prog [.tmp 2] (fun y H => Told Tryz.prog G H y (.bool r))) (.go [] (v7 [31, 39] Tryz.f7 31) [] (.n .undef (.n (.ptr 0 0 0) .z (.n (.ptr 1 1 0) .z .z)) (.n .undef .z (.n (.int .i64 t6) .z .z))) 2 [(0, .var 26 (zp o0)), (1, .var 26 (zp o1))])
theorem Kq : PC3 qdy uk := fun t6 o0 o1 r h => by
 rw [uk.eq_def] at h
 refine kr [31, 39] ?_
 obtain ⟨x12, hx, h⟩ := bind_some h
 refine qn (Wk _ hx) ?_
 refine kr [31, 39] ?_
 refine qv (fun hb => ?_) (fun hb => ?_)
 ·replace h := qw hb h
  refine kr [31, 39] ?_
  refine qv (fun hb => ?_) (fun hb => ?_)
  ·replace h := qw hb h
   refine kr [31, 39] ?_
   obtain ⟨x13, hx, h⟩ := bind_some h
   refine qn (qgj _ _ _ hx) ?_
   refine kr [31, 39] ?_
   cases h
   exact kf
  replace h := qx hb h
  refine kr [31, 39] ?_
  cases h
  exact kf
 replace h := qx hb h
 refine kr [31, 39] ?_
 cases h
 exact kf
def uj (t6 : Int) (o0 : Node) (o1 : Node) : Option Bool :=
 uk t6 o0 o1
@[reducible] def qdx (t6 : Int) (o0 : Node) (o1 : Node) (r : Bool) : Prop :=
  Ok Tryz.prog G tt 65 0 (Ret Tryz.prog [.tmp 2] (fun y H => Told Tryz.prog G H y (.bool r))) (.go [] (v7 [31, 39] Tryz.f7 39) [] (.n .undef (.n (.ptr 0 0 0) .z (.n (.ptr 1 1 0) .z .z)) (.n .undef .z (.n (.int .i64 t6) .z .z))) 2 [(0, .var 26 (zp o0)), (1, .var 26 (zp o1))])
theorem Kp : PC3 qdx uj := fun t6 o0 o1 r h => by
 rw [uj.eq_def] at h
 refine kr [31, 39] ?_
 exact qz (by kernel_rfl) rfl lA (Kq _ _ _ _ h)
def Yd (a0 : Node) : Option Bool :=
 qca a0 (300 : Int) (60 : Int) (4000 : Int) >>= fun x1 =>
 if (!x1) = true then
  Jv >>= fun x11 =>
  some x11
 else
  yw a0 >>= fun x2 =>
  if (!decide (x2 = (0 : Int))) = true then
   Jv >>= fun x3 =>
   some x3
  else
   Wm a0 >>= fun x4 =>
   if (!decide (x4.2 = (0 : Int))) = true then
    Jv >>= fun x5 =>
    some x5
   else
    Zp a0.kind >>= fun x6 =>
    if (decide (a0.kind = (1 : Int))) = true then
     Jr x4.1 >>= fun x7 =>
     uk x7.2.1 a0 x7.1
    else
     if (decide (x6 = (3 : Int))) = true then
      Js x4.1 >>= fun x8 =>
      uj x8.2.1 a0 x8.1
     else
      if (decide (x6 = (2 : Int))) = true then
       Jq x4.1 >>= fun x9 =>
       uj x9.2.1 a0 x9.1
      else
       Jv >>= fun x10 =>
       some x10
@[reducible] def qa2 (a0 : Node) (r : Bool) : Prop :=
  Fn Tryz.prog G 7 [(.agg (zp a0))] (.bool r)
theorem qg6 : PC1 qa2 Yd := fun a0 r h => by
 rw [Yd.eq_def] at h
 refine jk (T := tt) (N := 65) (rs := [.tmp 2]) (fun vs w => by simp) Tryz.func7 rfl rfl rfl rfl (by kernel_rfl) (ko rfl) (jn _ rfl) ?_
 refine kr [31, 39] ?_
 obtain ⟨x1, hx, h⟩ := bind_some h
 refine qn (qtk _ _ _ _ _ hx) ?_
 refine kr [31, 39] ?_
 refine qy (fun hb => ?_) (fun hb => ?_)
 ·replace h := qx hb h
  refine kr [31, 39] ?_
  obtain ⟨x2, hx, h⟩ := bind_some h
  refine qn (Zt _ _ hx) ?_
  refine kr [31, 39] ?_
  refine qf (fun hb => ?_) (fun hb => ?_)
  ·replace h := qw hb h
   refine kr [31, 39] ?_
   obtain ⟨x3, hx, h⟩ := bind_some h
   refine qn (Wk _ hx) ?_
   refine kr [31, 39] ?_
   cases h
   exact kf
  replace h := qx hb h
  refine kr [31, 39] ?_
  obtain ⟨x4, hx, h⟩ := bind_some h
  refine qn (qpk _ _ hx) ?_
  refine kr [31, 39] ?_
  refine qf (fun hb => ?_) (fun hb => ?_)
  ·replace h := qw hb h
   refine kr [31, 39] ?_
   obtain ⟨x5, hx, h⟩ := bind_some h
   refine qn (Wk _ hx) ?_
   refine kr [31, 39] ?_
   cases h
   exact kf
  replace h := qx hb h
  refine kr [31, 39] ?_
  obtain ⟨x6, hx, h⟩ := bind_some h
  refine qn (Wh _ _ hx) ?_
  refine kr [31, 39] ?_
  refine qf (fun hb => ?_) (fun hb => ?_)
  ·replace h := qw hb h
   refine kr [31, 39] ?_
   obtain ⟨x7, hx, h⟩ := bind_some h
   refine qn (qb1 _ _ hx) ?_
   refine kr [31, 39] ?_
   exact qz (by kernel_rfl) rfl lA (Kq _ _ _ _ h)
  replace h := qx hb h
  refine kr [31, 39] ?_
  refine qf (fun hb => ?_) (fun hb => ?_)
  ·replace h := qw hb h
   refine kr [31, 39] ?_
   obtain ⟨x8, hx, h⟩ := bind_some h
   refine qn (qb3 _ _ hx) ?_
   refine kr [31, 39] ?_
   exact qz (by kernel_rfl) rfl lA (Kp _ _ _ _ h)
  replace h := qx hb h
  refine kr [31, 39] ?_
  refine qf (fun hb => ?_) (fun hb => ?_)
  ·replace h := qw hb h
   refine kr [31, 39] ?_
   obtain ⟨x9, hx, h⟩ := bind_some h
   refine qn (qb0 _ _ hx) ?_
   refine kr [31, 39] ?_
   exact qz (by kernel_rfl) rfl lA (Kp _ _ _ _ h)
  replace h := qx hb h
  refine kr [31, 39] ?_
  obtain ⟨x10, hx, h⟩ := bind_some h
  refine qn (Wk _ hx) ?_
  refine kr [31, 39] ?_
  cases h
  exact kf
 replace h := qw hb h
 refine kr [31, 39] ?_
 obtain ⟨x11, hx, h⟩ := bind_some h
 refine qn (Wk _ hx) ?_
 refine kr [31, 39] ?_
 cases h
 exact kf
end Go.Proofs.YtigmilhpeodhbaaGreatDoorW.Ex.Gr
