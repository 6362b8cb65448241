/- The functions of the program's layer 9 and of its references, printed as functions on numbers, strings, lists and trees, with the proofs that they are what the code computes. Conditions: those in each theorem. -/
import Derived.Test.YtigmilhpeodhbaaDoorXRa
namespace Go.Proofs.YtigmilhpeodhbaaDoorW.Ex.Gr
open Go Go.Proofs.YtigmilhpeodhbaaDoorW.Ex
set_option linter.all false
set_option maxRecDepth 100000
set_option synthInstance.maxSize 4000
set_option maxHeartbeats 4000000
open Go.Proofs.YtigmilhpeodhbaaDoorW.Plain
theorem Jf : PC1 W3 ky := fun a0 r h => by
 rw [ky.eq_def] at h
 refine Zc (T := tt) (N := 29) (rs := [.cell 2 26]) (fun vs w => by simp) Tryd.func35 rfl rfl rfl (by kernel_rfl) (by kernel_rfl) (yw rfl rfl y8) (zk zp) (fun r => (yv rfl y6)) (fun r => (zk zp)) (fun _ => rfl) (fun _ => rfl) rfl (fun _ => rfl) ?_
 refine kr [12] ?_
 obtain ⟨x1, hx, h⟩ := bind_some h
 rcases x1 with ee | x1
 ·replace h : some (.error ee) = some r := h
  cases h
  exact qz (FCalls.ghost (e := 9) (FCalls.ghost (e := 26) (FCalls.wkg (FC.go (objs := [(0, .var 48 (Reader.cells a0)), (1, .var 26 [(.int .i64 0), (.str ⟨#[]⟩), (.sl 0 true []), (.sl 0 true [])]), (2, .var 26 [(.int .i64 (7 : Int)), (.str ⟨#[]⟩), (.bs 1 3 3 0 ([] : LB).length), (.bs 4 4 4 0 ([] : LN).length)]), (3, .row 9 (([] : LB).map sc).flatten), (4, .row 26 (([] : LN).map Node.cells).flatten)]) (xs := [(.ptr 0 0 0), (.ptr 2 2 0), (.str (⟨#[99, 108, 97, 115, 115]⟩ : BA))]) (qa _ _ _ _ _ _ _ hx) [0, 2, 3, 4] [0, 2, 3, 4] rfl rfl rfl rfl rfl rfl) (qh (qp _) (qh (qp _) (qh (qp _) jf))) (qd (qd (je (qc (qv _) (qc (qv _) (qc (ze rfl) (qc (ze rfl) ju)))) (zr _)))))))
 refine qb (ACalls.ghost (e := 9) (ACalls.ghost (e := 26) (ACalls.wkg (AC.go (objs := [(0, .var 48 (Reader.cells a0)), (1, .var 26 [(.int .i64 0), (.str ⟨#[]⟩), (.sl 0 true []), (.sl 0 true [])]), (2, .var 26 [(.int .i64 (7 : Int)), (.str ⟨#[]⟩), (.bs 1 3 3 0 ([] : LB).length), (.bs 4 4 4 0 ([] : LN).length)]), (3, .row 9 (([] : LB).map sc).flatten), (4, .row 26 (([] : LN).map Node.cells).flatten)]) (xs := [(.ptr 0 0 0), (.ptr 2 2 0), (.str (⟨#[99, 108, 97, 115, 115]⟩ : BA))]) (qa _ _ _ _ _ _ _ hx) [0, 2, 3, 4] [0, 2, 3, 4] rfl rfl rfl rfl rfl rfl rfl rfl rfl) (qh (qp _) (qh (qp _) (qh (qp _) jf))) (qd (qd (je (qc (qv _) (qc (qv _) (qc (ze rfl) (qc (ze rfl) ju)))) (zr _))))))) ?_
 refine kr [12] ?_
 obtain ⟨x2, hx, h⟩ := bind_some h
 rcases x2 with ee | x2
 ·replace h : some (.error ee) = some r := h
  cases h
  exact qz (FC.go (zb _ _ _ _ _ _ hx) [0, 2, 3, 4] [0, 2, 5, 4] rfl rfl rfl rfl rfl rfl)
 refine qb (AC.g9 (zb _ _ _ _ _ _ hx) [0, 2, 3, 4] [0, 2, 5, 4]) ?_
 refine kr [12] ?_
 obtain ⟨x3, hx, h⟩ := bind_some h
 refine qb (AC.g9 (q9 _ _ _ hx) [0] [0]) ?_
 refine kr [12] ?_
 refine qi (fun hb => ?_) (fun hb => ?_)
 ·replace h := zf hb h
  refine kr [12] ?_
  obtain ⟨x4, hx, h⟩ := bind_some h
  rcases x4 with ee | x4
  ·replace h : some (.error ee) = some r := h
   cases h
   exact qz (FCalls.ghost (e := 9) (FCalls.ghost (e := 26) (FCalls.wkg (FC.go (objs := [(0, .var 48 (Reader.cells x2.1)), (1, .var 26 [(.int .i64 0), (.str ⟨#[]⟩), (.sl 0 true []), (.sl 0 true [])]), (2, .var 26 [(.int .i64 (7 : Int)), (.str x2.2.1), (.bs 1 3 6 0 x2.2.2.length), (.bs 4 4 4 0 ([] : LN).length)]), (6, .row 9 (x2.2.2.map sc).flatten), (4, .row 26 (([] : LN).map Node.cells).flatten), (7, .var 26 [(.int .i64 (8 : Int)), (.str ⟨#[]⟩), (.bs 1 6 8 0 ([] : LB).length), (.bs 4 7 9 0 ([] : LN).length)]), (8, .row 9 (([] : LB).map sc).flatten), (9, .row 26 (([] : LN).map Node.cells).flatten)]) (xs := [(.ptr 0 0 0), (.ptr 5 7 0), (.str (⟨#[58]⟩ : BA))]) (qa _ _ _ _ _ _ _ hx) [0, 5, 6, 7] [0, 7, 8, 9] rfl rfl rfl rfl rfl rfl) (qh (qp _) (qh (qp _) (qh (qp _) jf))) (qd (qd (qd (qd (qd (je (qc (qv _) (qc (qv _) (qc (ze rfl) (qc (ze rfl) ju)))) (zr _))))))))))
  refine qb (ACalls.ghost (e := 9) (ACalls.ghost (e := 26) (ACalls.wkg (AC.go (objs := [(0, .var 48 (Reader.cells x2.1)), (1, .var 26 [(.int .i64 0), (.str ⟨#[]⟩), (.sl 0 true []), (.sl 0 true [])]), (2, .var 26 [(.int .i64 (7 : Int)), (.str x2.2.1), (.bs 1 3 6 0 x2.2.2.length), (.bs 4 4 4 0 ([] : LN).length)]), (6, .row 9 (x2.2.2.map sc).flatten), (4, .row 26 (([] : LN).map Node.cells).flatten), (7, .var 26 [(.int .i64 (8 : Int)), (.str ⟨#[]⟩), (.bs 1 6 8 0 ([] : LB).length), (.bs 4 7 9 0 ([] : LN).length)]), (8, .row 9 (([] : LB).map sc).flatten), (9, .row 26 (([] : LN).map Node.cells).flatten)]) (xs := [(.ptr 0 0 0), (.ptr 5 7 0), (.str (⟨#[58]⟩ : BA))]) (qa _ _ _ _ _ _ _ hx) [0, 5, 6, 7] [0, 7, 8, 9] rfl rfl rfl rfl rfl rfl rfl rfl rfl) (qh (qp _) (qh (qp _) (qh (qp _) jf))) (qd (qd (qd (qd (qd (je (qc (qv _) (qc (qv _) (qc (ze rfl) (qc (ze rfl) ju)))) (zr _)))))))))) ?_
  refine kr [12] ?_
  obtain ⟨x5, hx, h⟩ := bind_some h
  rcases x5 with ee | x5
  ·replace h : some (.error ee) = some r := h
   cases h
   exact qz (FC.go (zb _ _ _ _ _ _ hx) [0, 5, 6, 7] [0, 7, 10, 9] rfl rfl rfl rfl rfl rfl)
  refine qb (AC.g9 (zb _ _ _ _ _ _ hx) [0, 5, 6, 7] [0, 7, 10, 9]) ?_
  refine kr [12] ?_
  refine Z1 5 2 6 kp rfl rfl rfl rfl rfl rfl ?_
  refine Z1 5 3 7 zl rfl rfl rfl rfl rfl rfl ?_
  exact zi (by kernel_rfl) rfl lQ (Zf _ _ _ _ _ _ _ h)
 replace h := zg hb h
 refine kr [12] ?_
 exact zi (by kernel_rfl) rfl lQ (Zf _ _ _ _ _ _ _ h)
mutual
def zo (o0 : Reader) (o2_0 : Int) (o2_1 : BA) (o2_2 : LB) (o2_3 : LN) : Option (Except Int (Node × Reader)) :=
 zd (qg o0) >>= fun x1 =>
 if (!decide (x1.Kind = (4 : Int))) = true then
  q7 (qg o0) (⟨#[102, 110]⟩ : BA) >>= fun x2 =>
  if x2 = true then
   yf (qg o0) >>= fun x3 =>
   match x3 with
   | .error ee => some (.error ee)
   | .ok x3 =>
   zm (qg o2_0) (qg o2_1) (qg o2_2) (qg o2_3) x3.1 >>= fun x4 =>
   j0 x3.2 (qg o2_0) (qg o2_1) (qg o2_2) (qg x4)
  else
   q7 (qg o0) (⟨#[99, 108, 97, 115, 115]⟩ : BA) >>= fun x5 =>
   if x5 = true then
    ky (qg o0) >>= fun x6 =>
    match x6 with
    | .error ee => some (.error ee)
    | .ok x6 =>
    zm (qg o2_0) (qg o2_1) (qg o2_2) (qg o2_3) x6.1 >>= fun x7 =>
    jz x6.2 (qg o2_0) (qg o2_1) (qg o2_2) (qg x7)
   else
    q7 (qg o0) (⟨#[99, 111, 110, 115, 116]⟩ : BA) >>= fun x8 =>
    if x8 = true then
     kx (qg o0) (9 : Int) (⟨#[99, 111, 110, 115, 116]⟩ : BA) >>= fun x9 =>
     match x9 with
     | .error ee => some (.error ee)
     | .ok x9 =>
     zm (qg o2_0) (qg o2_1) (qg o2_2) (qg o2_3) x9.1 >>= fun x10 =>
     yg x9.2 (qg o2_0) (qg o2_1) (qg o2_2) (qg x10)
    else
     zw (qg o0) >>= fun x11 =>
     match x11 with
     | .error ee => some (.error ee)
     | .ok x11 =>
     yg (qg o0) (qg o2_0) (qg o2_1) (qg o2_2) (qg o2_3)
 else
  zd (qg o0) >>= fun x12 =>
  app 16 o2_2 ([x12.Lead]) >>= fun x13 =>
  some (.ok ((Node.mk o2_0 o2_1 x13 o2_3), o0))
 partial_fixpoint
def j0 (o0 : Reader) (o2_0 : Int) (o2_1 : BA) (o2_2 : LB) (o2_3 : LN) : Option (Except Int (Node × Reader)) :=
 zo (qg o0) (qg o2_0) (qg o2_1) (qg o2_2) (qg o2_3)
 partial_fixpoint
def jz (o0 : Reader) (o2_0 : Int) (o2_1 : BA) (o2_2 : LB) (o2_3 : LN) : Option (Except Int (Node × Reader)) :=
 j0 (qg o0) (qg o2_0) (qg o2_1) (qg o2_2) (qg o2_3)
 partial_fixpoint
def yg (o0 : Reader) (o2_0 : Int) (o2_1 : BA) (o2_2 : LB) (o2_3 : LN) : Option (Except Int (Node × Reader)) :=
 jz (qg o0) (qg o2_0) (qg o2_1) (qg o2_2) (qg o2_3)
 partial_fixpoint
end
@[reducible] def vz (o0 : Reader) (o2_0 : Int) (o2_1 : BA) (o2_2 : LB) (o2_3 : LN) (r : Except Int (Node × Reader)) : Prop :=
  Ok Tryd.prog G tt 38 1 (exq (fun (r : Node × Reader) => Ret Tryd.prog [.cell 2 26] (fun y H => Qt Tryd.prog G 1 H y (.agg (zu r.1)) ⟨1, [(0, .var 48 (Reader.cells r.2))]⟩)) (fun e => Q5 (flt e)) r) (.again (Qd [11, 17, 23] Tryd.f17 0).1 (Qd [11, 17, 23] Tryd.f17 0).2 (.n (.ptr 0 0 0) (.n .undef (.n (.ptr 2 2 0) .z .z) .z) (.n (.ptr 1 1 0) .z .z)) 5 [(0, .var 48 (Reader.cells o0)), (1, .var 26 [(.int .i64 0), (.str ⟨#[]⟩), (.sl 0 true []), (.sl 0 true [])]), (2, .var 26 [(.int .i64 o2_0), (.str o2_1), (.bs 1 3 3 0 o2_2.length), (.bs 4 4 4 0 o2_3.length)]), (3, .row 9 (o2_2.map sc).flatten), (4, .row 26 (o2_3.map Node.cells).flatten)])
@[reducible] def vi (o0 : Reader) (o2_0 : Int) (o2_1 : BA) (o2_2 : LB) (o2_3 : LN) (r : Except Int (Node × Reader)) : Prop :=
  Ok Tryd.prog G tt 38 1 (exq (fun (r : Node × Reader) => Ret Tryd.prog [.cell 2 26] (fun y H => Qt Tryd.prog G 1 H y (.agg (zu r.1)) ⟨1, [(0, .var 48 (Reader.cells r.2))]⟩)) (fun e => Q5 (flt e)) r) (.go [] (Zu [11, 17, 23] Tryd.f17 11) [] (.n (.ptr 0 0 0) (.n .undef (.n (.ptr 2 2 0) .z .z) .z) (.n (.ptr 1 1 0) .z .z)) 6 [(0, .var 48 (Reader.cells o0)), (1, .var 26 [(.int .i64 0), (.str ⟨#[]⟩), (.sl 0 true []), (.sl 0 true [])]), (2, .var 26 [(.int .i64 o2_0), (.str o2_1), (.bs 1 3 3 0 o2_2.length), (.bs 4 4 5 0 o2_3.length)]), (3, .row 9 (o2_2.map sc).flatten), (5, .row 26 (o2_3.map Node.cells).flatten)])
@[reducible] def vh (o0 : Reader) (o2_0 : Int) (o2_1 : BA) (o2_2 : LB) (o2_3 : LN) (r : Except Int (Node × Reader)) : Prop :=
  Ok Tryd.prog G tt 38 1 (exq (fun (r : Node × Reader) => Ret Tryd.prog [.cell 2 26] (fun y H => Qt Tryd.prog G 1 H y (.agg (zu r.1)) ⟨1, [(0, .var 48 (Reader.cells r.2))]⟩)) (fun e => Q5 (flt e)) r) (.go [] (Zu [11, 17, 23] Tryd.f17 17) [] (.n (.ptr 0 0 0) (.n .undef (.n (.ptr 2 2 0) .z .z) .z) (.n (.ptr 1 1 0) .z .z)) 6 [(0, .var 48 (Reader.cells o0)), (1, .var 26 [(.int .i64 0), (.str ⟨#[]⟩), (.sl 0 true []), (.sl 0 true [])]), (2, .var 26 [(.int .i64 o2_0), (.str o2_1), (.bs 1 3 3 0 o2_2.length), (.bs 4 4 5 0 o2_3.length)]), (3, .row 9 (o2_2.map sc).flatten), (5, .row 26 (o2_3.map Node.cells).flatten)])
@[reducible] def vf (o0 : Reader) (o2_0 : Int) (o2_1 : BA) (o2_2 : LB) (o2_3 : LN) (r : Except Int (Node × Reader)) : Prop :=
  Ok Tryd.prog G tt 38 1 (exq (fun (r : Node × Reader) => Ret Tryd.prog [.cell 2 26] (fun y H => Qt Tryd.prog G 1 H y (.agg (zu r.1)) ⟨1, [(0, .var 48 (Reader.cells r.2))]⟩)) (fun e => Q5 (flt e)) r) (.go [] (Zu [11, 17, 23] Tryd.f17 23) [] (.n (.ptr 0 0 0) (.n .undef (.n (.ptr 2 2 0) .z .z) .z) (.n (.ptr 1 1 0) .z .z)) 6 [(0, .var 48 (Reader.cells o0)), (1, .var 26 [(.int .i64 0), (.str ⟨#[]⟩), (.sl 0 true []), (.sl 0 true [])]), (2, .var 26 [(.int .i64 o2_0), (.str o2_1), (.bs 1 3 3 0 o2_2.length), (.bs 4 4 5 0 o2_3.length)]), (3, .row 9 (o2_2.map sc).flatten), (5, .row 26 (o2_3.map Node.cells).flatten)])
theorem wg : PC5 vz zo ∧ PC5 vf yg ∧ PC5 vh jz ∧ PC5 vi j0 := by
 refine zo.mutual_partial_correctness vz vf vh vi (fun yg jz j0 vl wl wm o0 o2_0 o2_1 o2_2 o2_3 r h => ?_) (fun jz wl o0 o2_0 o2_1 o2_2 o2_3 r h => ?_) (fun j0 wm o0 o2_0 o2_1 o2_2 o2_3 r h => ?_) (fun zo v7 o0 o2_0 o2_1 o2_2 o2_3 r h => ?_)
 ·unfold qg at h
  refine Q3 ?_
  refine kr [11, 17, 23] ?_
  obtain ⟨x1, hx, h⟩ := bind_some h
  refine qb (AC.g9 (zj _ _ hx) [0] [0]) ?_
  refine kr [11, 17, 23] ?_
  refine qi (fun hb => ?_) (fun hb => ?_)
  ·replace h := zf hb h
   refine kr [11, 17, 23] ?_
   obtain ⟨x2, hx, h⟩ := bind_some h
   refine qb (AC.g9 (q9 _ _ _ hx) [0] [0]) ?_
   refine kr [11, 17, 23] ?_
   refine qi (fun hb => ?_) (fun hb => ?_)
   ·replace h := zf hb h
    refine kr [11, 17, 23] ?_
    obtain ⟨x3, hx, h⟩ := bind_some h
    rcases x3 with ee | x3
    ·replace h : some (.error ee) = some r := h
     cases h
     exact qz (FC.go (wk _ _ hx) [0] [0] rfl rfl rfl rfl rfl rfl)
    refine qb (AC.g9 (wk _ _ hx) [0] [0]) ?_
    refine kr [11, 17, 23] ?_
    obtain ⟨x4, hx, h⟩ := bind_some h
    refine qb (AC.g9 (zn _ _ _ _ _ _ hx) [2, 3, 4] [2, 3, 4]) ?_
    refine kr [11, 17, 23] ?_
    exact zi (by kernel_rfl) rfl lQ (wm _ _ _ _ _ _ h)
   replace h := zg hb h
   refine kr [11, 17, 23] ?_
   obtain ⟨x5, hx, h⟩ := bind_some h
   refine qb (AC.g9 (q9 _ _ _ hx) [0] [0]) ?_
   refine kr [11, 17, 23] ?_
   refine qi (fun hb => ?_) (fun hb => ?_)
   ·replace h := zf hb h
    refine kr [11, 17, 23] ?_
    obtain ⟨x6, hx, h⟩ := bind_some h
    rcases x6 with ee | x6
    ·replace h : some (.error ee) = some r := h
     cases h
     exact qz (FC.go (Jf _ _ hx) [0] [0] rfl rfl rfl rfl rfl rfl)
    refine qb (AC.g9 (Jf _ _ hx) [0] [0]) ?_
    refine kr [11, 17, 23] ?_
    obtain ⟨x7, hx, h⟩ := bind_some h
    refine qb (AC.g9 (zn _ _ _ _ _ _ hx) [2, 3, 4] [2, 3, 4]) ?_
    refine kr [11, 17, 23] ?_
    exact zi (by kernel_rfl) rfl lQ (wl _ _ _ _ _ _ h)
   replace h := zg hb h
   refine kr [11, 17, 23] ?_
   obtain ⟨x8, hx, h⟩ := bind_some h
   refine qb (AC.g9 (q9 _ _ _ hx) [0] [0]) ?_
   refine kr [11, 17, 23] ?_
   refine qi (fun hb => ?_) (fun hb => ?_)
   ·replace h := zf hb h
    refine kr [11, 17, 23] ?_
    obtain ⟨x9, hx, h⟩ := bind_some h
    rcases x9 with ee | x9
    ·replace h : some (.error ee) = some r := h
     cases h
     exact qz (FC.go (ut _ _ _ _ hx) [0] [0] rfl rfl rfl rfl rfl rfl)
    refine qb (AC.g9 (ut _ _ _ _ hx) [0] [0]) ?_
    refine kr [11, 17, 23] ?_
    obtain ⟨x10, hx, h⟩ := bind_some h
    refine qb (AC.g9 (zn _ _ _ _ _ _ hx) [2, 3, 4] [2, 3, 4]) ?_
    refine kr [11, 17, 23] ?_
    exact zi (by kernel_rfl) rfl lQ (vl _ _ _ _ _ _ h)
   replace h := zg hb h
   refine kr [11, 17, 23] ?_
   obtain ⟨x11, hx, h⟩ := bind_some h
   rcases x11 with ee | x11
   ·replace h : some (.error ee) = some r := h
    cases h
    exact qz (FC.go (zh _ _ hx) [0] [0] rfl rfl rfl rfl rfl rfl)
   refine qb (AC.g9 (zh _ _ hx) [0] [0]) ?_
   refine kr [11, 17, 23] ?_
   exact zi (by kernel_rfl) rfl lQ (vl _ _ _ _ _ _ h)
  replace h := zg hb h
  refine kr [11, 17, 23] ?_
  obtain ⟨x12, hx, h⟩ := bind_some h
  refine qb (AC.g9 (zj _ _ hx) [0] [0]) ?_
  refine kr [11, 17, 23] ?_
  obtain ⟨x13, hx, h⟩ := bind_some h
  have hp_x13 := qfr hx (by simp)
  refine qfw (C := sc) env hx rfl rfl (by simp) (fun _ => rfl) rfl rfl rfl rfl rfl (by decide) rfl rfl rfl ?_
  refine kr [11, 17, 23] ?_
  cases h
  exact j4 env rfl rfl (tS [some 0] (sV (lS (lS lN)) zx) (j5 (ya (qf (qe (zt rfl) rfl) (qf (qe (jl rfl) rfl) (qf (qe (jv kp rfl) rfl) (qf (qe (jv zl rfl) rfl) j9))))) (by simp)))
 ·unfold qg at h
  refine kr [11, 17, 23] ?_
  exact zi (by kernel_rfl) rfl lQ (wl _ _ _ _ _ _ h)
 ·unfold qg at h
  refine kr [11, 17, 23] ?_
  exact zi (by kernel_rfl) rfl lQ (wm _ _ _ _ _ _ h)
 unfold qg at h
 refine kr [11, 17, 23] ?_
 exact ux (by kernel_rfl) lQ (v7 _ _ _ _ _ _ h)
theorem v7 : PC5 vz zo := wg.1
theorem vl : PC5 vf yg := wg.2.1
theorem wl : PC5 vh jz := wg.2.2.1
theorem wm : PC5 vi j0 := wg.2.2.2
def Qa (a0 : Reader) : Option (Except Int (Node × Reader)) :=
 zo a0 (1 : Int) (⟨#[]⟩) ([] : LB) ([] : LN)
@[reducible] def qay (a0 : Reader) (r : Except Int (Node × Reader)) : Prop :=
  exq (fun (r : Node × Reader) => AC Tryd.prog G 17 [(.ptr 0 0 0)] 1 [(0, .var 48 (Reader.cells a0))] (.agg (zu r.1)) 1 [(0, .var 48 (Reader.cells r.2))]) (fun e => FC Tryd.prog G 17 [(.ptr 0 0 0)] 1 [(0, .var 48 (Reader.cells a0))] (flt e)) r
theorem Jz : PC1 qay Qa := fun a0 r h => by
 rw [Qa.eq_def] at h
 refine Zc (T := tt) (N := 38) (rs := [.cell 2 26]) (fun vs w => by simp) Tryd.func17 rfl rfl rfl (by kernel_rfl) (by kernel_rfl) (yw rfl rfl y8) (zk zp) (fun r => (yv rfl y6)) (fun r => (zk zp)) (fun _ => rfl) (fun _ => rfl) rfl (fun _ => rfl) ?_
 refine kr [11, 17, 23] ?_
 refine qtq 2 2 1 9 rfl rfl rfl ?_
 refine qtq 2 3 4 26 rfl rfl rfl ?_
 exact vv (by kernel_rfl) lQ (v7 _ _ _ _ _ _ h)
def Wg (a0 : Reader) : Option (Except Int (Node × Reader)) :=
 Qa a0 >>= fun x1 =>
 match x1 with
 | .error ee => some (.error ee)
 | .ok x1 =>
 some (.ok (x1.1, x1.2))
@[reducible] def qrs (a0 : Reader) (r : Except Int (Node × Reader)) : Prop :=
  exq (fun (r : Node × Reader) => AC Tryd.prog G 16 [(.ptr 0 0 0)] 1 [(0, .var 48 (Reader.cells a0))] (.agg (zu r.1)) 1 [(0, .var 48 (Reader.cells r.2))]) (fun e => FC Tryd.prog G 16 [(.ptr 0 0 0)] 1 [(0, .var 48 (Reader.cells a0))] (flt e)) r
theorem qko : PC1 qrs Wg := fun a0 r h => by
 rw [Wg.eq_def] at h
 refine Zc (T := tt) (N := 5) (rs := [.cell 2 26]) (fun vs w => by simp) Tryd.func16 rfl rfl rfl (by kernel_rfl) (by kernel_rfl) (yw rfl rfl y8) (zk zp) (fun r => (yv rfl y6)) (fun r => (zk zp)) (fun _ => rfl) (fun _ => rfl) rfl (fun _ => rfl) ?_
 refine kr [] ?_
 obtain ⟨x1, hx, h⟩ := bind_some h
 rcases x1 with ee | x1
 ·replace h : some (.error ee) = some r := h
  cases h
  exact qz (FC.go (Jz _ _ hx) [0] [0] rfl rfl rfl rfl rfl rfl)
 refine qb (AC.g9 (Jz _ _ hx) [0] [0]) ?_
 refine kr [] ?_
 cases h
 exact j4 env rfl rfl (tS [some 0] (sV (lS (lS lN)) zx) (j5 (ya (qf (qe (zt rfl) rfl) (qf (qe (jl rfl) rfl) (qf (qe (yl (.inl rfl)) rfl) (qf (qe (yl (.inl rfl)) rfl) j9))))) (by simp)))
def Yq (s : BA) : Option (Node × Int × Int) :=
 wb s >>= fun t =>
 if (!decide (t.2.1 = (0 : Int))) = true then some (Node.mk 0 ⟨#[]⟩ [] [], t.2.1, t.2.2)
 else Wg ⟨t.1, 0⟩ >>= fun x => match x with
  | .error e => some (Node.mk 0 ⟨#[]⟩ [] [], 1, e)
  | .ok x => kt x.1 >>= fun c => if (decide (c = (3 : Int))) = true then some (Node.mk 0 ⟨#[]⟩ [] [], 3, 0) else some (x.1, 0, 0)
def uj (t : List Token × Int × Int) (fr : Fr) (H : Hp) : Prop := (fr 1 = .fn 16 [] ∧ fr 4 = .ptr 0 0 0 ∧ fr 5 = .ptr 1 1 0 ∧ fr 6 = .ptr 2 2 0 ∧ fr 7 = .sl 4 false (t.1.map Token.cells)) ∧ H = ⟨3, rdO t.2.1 t.2.2⟩
theorem qg8 (s : BA) (t : List Token × Int × Int) (ht : wb s = some t) (x : Node × Int × Int) :
 Ok Tryd.prog G tt 32 0 (Q6 (fun fr H => fr 16 = .bool (!decide (t.2.1 = (0 : Int))) ∧ uj t fr H) (rdR x)) (.go (qbx 0 [.str s, .fn 16 []]) [.code rd0, .code rd1, .code rd2a] [] .z 0 []) := by
 refine kr [] ?_
 refine qr (Y3 _ _ ht) ?_
 refine kr [] ?_
 exact qid ⟨rfl, ⟨rfl, rfl, rfl, rfl, rfl⟩, rfl⟩
theorem qg5 (t : List Token × Int × Int) (x : Node × Int × Int) (hx : (!decide (t.2.1 = (0 : Int))) = true → x = (Node.mk 0 ⟨#[]⟩ [] [], t.2.1, t.2.2)) (fr : Fr) (H : Hp)
 (h : AWp Tryd.prog G 32 0 rd2a (Q6 (fun fr H => fr 16 = .bool (!decide (t.2.1 = (0 : Int))) ∧ uj t fr H) (rdR x)) fr H) : AWp Tryd.prog G 32 0 rd2 (Q6 (fun fr H => (!decide (t.2.1 = (0 : Int))) = false ∧ uj t fr H) (rdR x)) fr H := by
 rw [qq1]
 refine qf2 (h.mono ?_)
 intro e fr H q
 cases e with
 | normal =>
   obtain ⟨hc, hk⟩ := (show _ ∧ _ from q)
   refine uv (qa3 hc (fun hb => ?_) (fun hb => qf1 (uv ⟨hb, hk⟩)))
   obtain ⟨⟨g1, g4, g5, g6, g7⟩, rfl⟩ := hk
   cases hx hb
   refine (Wi (qge [(4, .ptr 0 0 0), (5, .ptr 1 1 0), (6, .ptr 2 2 0)] (by simp [g4, g5, g6])) (qi1 t.2.1 t.2.2)).mono ?_
   rintro e fr H ⟨rfl, q⟩
   exact q
 | _ => exact q
theorem qgo (l : List Token) (e : Int) (h : Wg ⟨l, 0⟩ = some (.error e)) :
 Ok Tryd.prog G tt 32 3 (fun e' fr _ => e' = .panic (flt e) ∧ fr 4 = .ptr 0 0 0 ∧ fr 5 = .ptr 1 1 0 ∧ fr 6 = .ptr 2 2 0) (.go [(1, .fn 16 []), (4, .ptr 0 0 0), (5, .ptr 1 1 0), (6, .ptr 2 2 0), (7, .sl 4 false (l.map Token.cells))] [.code rd4] [] .z 3 []) := by
 refine kr [] ?_
 exact qgs (FC.go (qko _ _ h) [0] [3] rfl rfl rfl rfl rfl rfl) ⟨rfl, rfl, rfl, rfl⟩
theorem qgw (l : List Token) (e at_ : Int) (r : Node × Reader) (h : Wg ⟨l, 0⟩ = some (.ok r)) (c : Int) (hc : kt r.1 = some c) (x : Node × Int × Int) (hx : (if (decide (c = (3 : Int))) = true then some (Node.mk 0 ⟨#[]⟩ [] [], 3, 0) else some (r.1, 0, 0)) = some x) :
 Ok Tryd.prog G tt 32 0 (rdR x) (.go [(1, .fn 16 []), (4, .ptr 0 0 0), (5, .ptr 1 1 0), (6, .ptr 2 2 0), (7, .sl 4 false (l.map Token.cells))] [.code rd4] [] .z 3 (rdO e at_)) := by
 refine kr [] ?_
 refine qb (AC.g9 (qko _ _ h) [3] [3]) ?_
 refine kr [] ?_
 refine qr (Yn _ _ hc) ?_
 refine kr [] ?_
 refine qi (fun hb => ?_) (fun hb => ?_)
 ·rw [if_pos hb] at hx
  cases hx
  refine kr [] ?_
  exact j4 env rfl rfl (qe1 _ _)
 rw [if_neg (by rw [hb]; decide)] at hx
 cases hx
 refine kr [] ?_
 exact j4 env rfl rfl (za rfl)
theorem qg2 (s : BA) (x : Node × Int × Int) (h : Yq s = some x) : ACalls Tryd.prog G 15 [.str s, .fn 16 []] ⟨0, []⟩ (rdX x) ⟨0, []⟩ := by
 obtain ⟨t, ht, h⟩ := bind_some h
 intro w S F β vs hH hv
 rw [show (callFunc 15 vs).run Tryd.prog w = .ok (.enter 15 vs) w by simp]
 show Calls Tryd.prog 15 vs w (qdl w S F β x)
 refine calls_of_wp_defers Tryd.func15 qmu ?_
 have hA := Je (N := 32) (by kernel_rfl) (qg8 s t ht x)
 rw [Jx] at hA
 have hf := qam (N := 32) hv (Nat.le_of_ble_eq_true rfl)
 have fin : ∀ (e : Exit) (fr' : Fr) (H' : Hp) (w' : World) (S' : Nat → Prop) (β' : Nat → Nat) (a' : Act), rdR x e fr' H' → Ext w S F β 0 w' S' β' 0 → HR G w' S' F β' H' → FRx [] w' S' β' H'.n 32 fr' a' → bodyPostD Tryd.prog Tryd.f15 (qdl w S F β x) e a' w' := by
  intro e fr' H' w' S' β' a' q hx hH' hf'
  have hl := fun q => qbb (x := x) q hx hH' hf' hH
  cases e <;> first
   | exact q.elim
   | (show Leaves _ _ _ _ a'.defers _ _; rw [hf'.defers]; exact hl q)
 refine J1 hA (Nat.zero_le _) hH hf (fun fr1 H1 w1 S1 β1 a1 q1 hx1 _ hH1 hf1 => ?_) (fun e fr' H' w' S' β' a' he q hx _ hH' hf' => fin e fr' H' w' S' β' a' (Y4 he (qrn he q)) hx hH' hf')
 refine J1 q1 (Nat.zero_le _) hH1 hf1 (fun fr2 H2 w2 S2 β2 a2 q2 hx2 _ hH2 hf2 => ?_) (fun e fr' H' w' S' β' a' he q hx _ hH' hf' => fin e fr' H' w' S' β' a' (Y4 he q) (hx1.trans hx) hH' hf')
 refine J1 (qg5 t x (fun hb => by rw [if_pos hb] at h; cases h; rfl) fr2 H2 q2) (Nat.zero_le _) hH2 hf2 (fun fr3 H3 w3 S3 β3 a3 q3 hx3 _ hH3 hf3 => ?_) (fun e fr' H' w' S' β' a' he q hx _ hH' hf' => fin e fr' H' w' S' β' a' q ((hx1.trans hx2).trans hx) hH' hf')
 obtain ⟨hb, ⟨g1, g4, g5, g6, g7⟩, rfl⟩ := (show _ ∧ _ ∧ _ from q3)
 have hx0 := (hx1.trans hx2).trans hx3
 rw [if_neg (by rw [hb]; decide)] at h
 obtain ⟨r, hr, h⟩ := bind_some h
 refine wp_seq ?_
 refine qba (u := 20) (f := 32) (cs := #[.tmp 4, .tmp 5, .tmp 6]) (by rw [hf3.size]; decide) ?_
 have e4 := Ka (g4 ▸ hf3.val 4)
 have e5 := Ka (g5 ▸ hf3.val 5)
 have e6 := Ka (g6 ▸ hf3.val 6)
 have hcs : (#[Operand.tmp 4, .tmp 5, .tmp 6] : Array Operand).map a3.eval = #[.pointer (some ⟨β3 0, 0, none⟩), .pointer (some ⟨β3 1, 0, none⟩), .pointer (some ⟨β3 2, 0, none⟩)] := by
  simp [Act.eval, e4, e5, e6]
 rw [hcs]
 have hf3' := hf3.put (d := some 20) rfl (RV.undef (w := w3) (S := S3) (β := β3) (n := 3) (.func (.func 32) #[] #[.pointer (some ⟨β3 0, 0, none⟩), .pointer (some ⟨β3 1, 0, none⟩), .pointer (some ⟨β3 2, 0, none⟩)]))
 have hq := hf3'.some [(1, .fn 16 []), (4, .ptr 0 0 0), (5, .ptr 1 1 0), (6, .ptr 2 2 0), (7, .sl 4 false (t.1.map Token.cells))] (by simp [uw, g1, g4, g5, g6, g7])
 generalize hd : a3.defers = d3 at *
 have hd3 : d3 = [] := by rw [← hd]; exact hf3.defers
 subst hd3
 have hf4 := FRx.of (a := ⟨a3.tmps.setIfInBounds 20 (.func (.func 32) #[] #[.pointer (some ⟨β3 0, 0, none⟩), .pointer (some ⟨β3 1, 0, none⟩), .pointer (some ⟨β3 2, 0, none⟩)]), [{ target := .fn (.func 32) #[.pointer (some ⟨β3 0, 0, none⟩), .pointer (some ⟨β3 1, 0, none⟩), .pointer (some ⟨β3 2, 0, none⟩)], args := #[] }]⟩) _ hf3'.size rfl hq
 show rd4.wp _ _ _ _
 cases r with
 | error e =>
   cases h
   have hB := Je (N := 32) (by kernel_rfl) (qgo t.1 e hr)
   refine wp_mono (hB _ w3 S3 _ β3 _ (Nat.le_refl _) hH3.hide hf4) ?_
   rintro e' a' w' ⟨fr', H', S', β', ⟨rfl, k4, k5, k6⟩, hx, hp, hH', hf'⟩
   obtain ⟨hx', hH''⟩ := hH3.unhide hx hH'.lts
   show Leaves _ _ _ _ a'.defers _ _
   rw [hf'.defers]
   refine leaves_cons (f := 32) (args := #[.pointer (some ⟨β3 0, 0, none⟩), .pointer (some ⟨β3 1, 0, none⟩), .pointer (some ⟨β3 2, 0, none⟩)]) (by simp) (by simp [go_sem]) ?_
   have hc := qd0 e t.2.2 (show HR G w' S' F β' ⟨3, rdO 0 t.2.2⟩ by
    have h0 : t.2.1 = 0 := by simpa using hb
    rw [← h0]; exact hH'')
   rw [hx'.beta 0 (show 0 < 3 by decide), hx'.beta 1 (show 1 < 3 by decide), hx'.beta 2 (show 2 < 3 by decide)] at hc
   refine hc.mono ?_
   rintro r u' w'' ⟨⟨v, rfl⟩, hs, S'', β'', hx'', hH3''⟩
   show Leaves _ _ _ _ [] (settle u') w''
   rw [hs]
   refine qbb (D := a'.defers) (a := a') (qga e) (hx0.trans ((hx'.trans hx'').lower (Nat.zero_le _))) hH3'' (FRx.of _ hf'.size rfl ?_) hH
   intro q hm
   simp only [List.mem_cons, List.not_mem_nil, or_false] at hm
   have hv : ∀ (i s : Nat) (t : Nat), s < 3 → fr' t = .ptr i s 0 → RV w'' S'' β'' 3 (.ptr i s 0) (a'.tmps.getD t Go.undef) := fun i s t hs3 ht => by
    have h1 := hf'.val t
    rw [ht] at h1
    rw [Ka h1, ← hx''.beta s hs3]
    exact .ptr i s 0 hs3
   rcases hm with rfl | rfl | rfl
   ·exact hv _ _ _ (by decide) k4
   ·exact hv _ _ _ (by decide) k5
   exact hv _ _ _ (by decide) k6
 | ok r =>
   obtain ⟨c, hc, h⟩ := bind_some h
   have hB := Je (N := 32) (by kernel_rfl) (qgw t.1 t.2.1 t.2.2 r hr c hc x h)
   refine wp_mono (hB _ w3 S3 F β3 _ (Nat.zero_le _) hH3 hf4) ?_
   rintro e' a' w' ⟨fr', H', S', β', q, hx, hp, hH', hf'⟩
   have hl : rdR x .normal fr' H' → Leaves Tryd.prog Tryd.f15 a'.tmps (qdl w S F β x) a'.defers .returning w' := fun q => by
    rw [hf'.defers]
    refine leaves_cons (f := 32) (args := #[.pointer (some ⟨β3 0, 0, none⟩), .pointer (some ⟨β3 1, 0, none⟩), .pointer (some ⟨β3 2, 0, none⟩)]) (by simp) (by simp [go_sem]) ?_
    refine (qiy _ _ _ w').mono ?_
    rintro r u' w'' ⟨⟨v, rfl⟩, rfl, rfl⟩
    exact qbb q (hx0.trans hx) hH' hf' hH
   cases e' <;> first
    | exact q.elim
    | exact hl q
theorem qgz : PC1 (fun (s : BA) (x : Node × Int × Int) => AC Tryd.prog G 15 [.str s, .fn 16 []] 0 [] (.tup [.agg (zu x.1), .int .i64 x.2.1, .int .i64 x.2.2]) 0 []) Yq := fun s x h => AC.plain (qg2 s x h) rfl rfl
def Z4 (a0 : BA) : Option (Node × Int × Int) :=
 Yq a0 >>= fun x1 =>
 some (x1.1, x1.2.1, x1.2.2)
@[reducible] def qkg (a0 : BA) (r : Node × Int × Int) : Prop :=
  Fn Tryd.prog G 8 [(.str a0)] (.tup [(.agg (zu r.1)), (.int .i64 r.2.1), (.int .i64 r.2.2)])
theorem qcy : PC1 qkg Z4 := fun a0 r h => by
 rw [Z4.eq_def] at h
 refine jj (T := tt) (N := 10) (rs := [.cell 2 26, .tmp 3, .tmp 4]) (fun vs w => by simp) Tryd.func8 rfl rfl rfl rfl (by kernel_rfl) (wi rfl) (yb _ rfl) ?_
 refine kr [] ?_
 obtain ⟨x1, hx, h⟩ := bind_some h
 refine qb (AC.g9 (qgz _ _ hx) [] []) ?_
 refine kr [] ?_
 cases h
 exact kf
def Js  : Option Bool :=
 Qn (⟨#[97, 32, 45, 32, 98, 32, 42, 32, 50, 32, 45, 32, 99]⟩ : BA) >>= fun x1 =>
 if (!decide (x1.2.1 = (0 : Int))) = true then
  some false
 else
  if (!decide (x1.2.2 = (0 : Int))) = true then
   some false
  else
   if (!decide (x1.1.kind = (24 : Int))) = true then
    some false
   else
    if (!decide (x1.1.text = (⟨#[45]⟩ : BA))) = true then
     some false
    else
     if (!decide (((x1.1.gaps.map sc).length : Int) = (1 : Int))) = true then
      some false
     else
      ix x1.1.gaps (0 : Int) >>= fun x2 =>
      if (!decide (x2 = (⟨#[32]⟩ : BA))) = true then
       some false
      else
       if (!decide (((x1.1.kids.map Node.cells).length : Int) = (2 : Int))) = true then
        some false
       else
        ix x1.1.kids (0 : Int) >>= fun x3 =>
        if (!decide (x3.kind = (24 : Int))) = true then
         some false
        else
         ix x1.1.kids (0 : Int) >>= fun x4 =>
         if (!decide (((x4.kids.map Node.cells).length : Int) = (2 : Int))) = true then
          some false
         else
          ix x1.1.kids (1 : Int) >>= fun x5 =>
          if (!decide (x5.text = (⟨#[99]⟩ : BA))) = true then
           some false
          else
           Zb (⟨#[120, 32, 61, 32, 121, 59]⟩ : BA) >>= fun x6 =>
           Zb (⟨#[105, 102, 32, 97]⟩ : BA) >>= fun x7 =>
           Qn (⟨#[97, 32, 60, 32, 98, 32, 60, 32, 99]⟩ : BA) >>= fun x8 =>
           Z4 (⟨#[102, 110, 32, 102, 40, 41, 32, 105, 110, 116, 32, 123, 32, 114, 101, 116, 117, 114, 110, 32, 49, 59, 32, 125]⟩ : BA) >>= fun x9 =>
           Z4 (⟨#[102, 110, 32, 102, 40, 41, 32, 105, 110, 116, 32, 123, 32, 114, 101, 116, 117, 114, 110, 32, 49, 32, 125]⟩ : BA) >>= fun x10 =>
           if (decide (x6.2.1 = (0 : Int))) = true then
            if (decide (x6.1.kind = (11 : Int))) = true then
             if (decide (x7.2.1 = (1 : Int))) = true then
              if (decide (x7.2.2 = (4 : Int))) = true then
               if (decide (x8.2.1 = (1 : Int))) = true then
                if (decide (x8.2.2 = (6 : Int))) = true then
                 if (decide (x9.2.1 = (0 : Int))) = true then
                  if (decide (((x9.1.kids.map Node.cells).length : Int) = (1 : Int))) = true then
                   ix x9.1.kids (0 : Int) >>= fun x11 =>
                   if (decide (x11.text = (⟨#[102]⟩ : BA))) = true then
                    if (decide (x10.2.1 = (1 : Int))) = true then
                     some (decide (x10.2.2 = (22 : Int)))
                    else
                     some false
                   else
                    some false
                  else
                   some false
                 else
                  some false
                else
                 some false
               else
                some false
              else
               some false
             else
              some false
            else
             some false
           else
            some false
@[reducible] def qnv  (r : Bool) : Prop :=
  Fn Tryd.prog G 4 [] (.bool r)
theorem qbq : PC0 qnv Js := fun  r h => by
 rw [Js.eq_def] at h
 refine jj (T := tt) (N := 158) (rs := [.tmp 0]) (fun vs w => by simp) Tryd.func4 rfl rfl rfl rfl (by kernel_rfl) (wi rfl) (yb _ rfl) ?_
 refine kr [] ?_
 obtain ⟨x1, hx, h⟩ := bind_some h
 refine qr (Ym _ _ hx) ?_
 refine kr [] ?_
 refine qu (fun hb => ?_) (fun hb => ?_)
 ·replace h := zg hb h
  refine kr [] ?_
  refine qu (fun hb => ?_) (fun hb => ?_)
  ·replace h := zg hb h
   refine kr [] ?_
   refine qu (fun hb => ?_) (fun hb => ?_)
   ·replace h := zg hb h
    refine kr [] ?_
    refine qu (fun hb => ?_) (fun hb => ?_)
    ·replace h := zg hb h
     refine kr [] ?_
     refine qu (fun hb => ?_) (fun hb => ?_)
     ·replace h := zg hb h
      refine kr [] ?_
      obtain ⟨x2, hx, h⟩ := bind_some h
      refine Y0 env hx rfl rfl rfl rfl rfl ?_
      refine kr [] ?_
      refine qu (fun hb => ?_) (fun hb => ?_)
      ·replace h := zg hb h
       refine kr [] ?_
       refine qu (fun hb => ?_) (fun hb => ?_)
       ·replace h := zg hb h
        refine kr [] ?_
        obtain ⟨x3, hx, h⟩ := bind_some h
        refine Y0 env hx rfl rfl rfl rfl (Node.cells_eq x3) ?_
        refine kr [] ?_
        refine qu (fun hb => ?_) (fun hb => ?_)
        ·replace h := zg hb h
         refine kr [] ?_
         obtain ⟨x4, hx, h⟩ := bind_some h
         refine Y0 env hx rfl rfl rfl rfl (Node.cells_eq x4) ?_
         refine kr [] ?_
         refine qu (fun hb => ?_) (fun hb => ?_)
         ·replace h := zg hb h
          refine kr [] ?_
          obtain ⟨x5, hx, h⟩ := bind_some h
          refine Y0 env hx rfl rfl rfl rfl (Node.cells_eq x5) ?_
          refine kr [] ?_
          refine qi (fun hb => ?_) (fun hb => ?_)
          ·replace h := zf hb h
           refine kr [] ?_
           cases h
           exact kf
          replace h := zg hb h
          refine kr [] ?_
          obtain ⟨x6, hx, h⟩ := bind_some h
          refine qr (Wa _ _ hx) ?_
          refine kr [] ?_
          obtain ⟨x7, hx, h⟩ := bind_some h
          refine qr (Wa _ _ hx) ?_
          refine kr [] ?_
          obtain ⟨x8, hx, h⟩ := bind_some h
          refine qr (Ym _ _ hx) ?_
          refine kr [] ?_
          obtain ⟨x9, hx, h⟩ := bind_some h
          refine qr (qcy _ _ hx) ?_
          refine kr [] ?_
          obtain ⟨x10, hx, h⟩ := bind_some h
          refine qr (qcy _ _ hx) ?_
          refine kr [] ?_
          refine qq (fun hb => ?_) (fun hb => ?_)
          ·replace h := zf hb h
           refine kr [] ?_
           refine qq (fun hb => ?_) (fun hb => ?_)
           ·replace h := zf hb h
            refine kr [] ?_
            refine qq (fun hb => ?_) (fun hb => ?_)
            ·replace h := zf hb h
             refine kr [] ?_
             refine qq (fun hb => ?_) (fun hb => ?_)
             ·replace h := zf hb h
              refine kr [] ?_
              refine qq (fun hb => ?_) (fun hb => ?_)
              ·replace h := zf hb h
               refine kr [] ?_
               refine qq (fun hb => ?_) (fun hb => ?_)
               ·replace h := zf hb h
                refine kr [] ?_
                refine qq (fun hb => ?_) (fun hb => ?_)
                ·replace h := zf hb h
                 refine kr [] ?_
                 refine qq (fun hb => ?_) (fun hb => ?_)
                 ·replace h := zf hb h
                  refine kr [] ?_
                  obtain ⟨x11, hx, h⟩ := bind_some h
                  refine Y0 env hx rfl rfl rfl rfl (Node.cells_eq x11) ?_
                  refine kr [] ?_
                  refine qq (fun hb => ?_) (fun hb => ?_)
                  ·replace h := zf hb h
                   refine kr [] ?_
                   refine qq (fun hb => ?_) (fun hb => ?_)
                   ·replace h := zf hb h
                    refine kr [] ?_
                    cases h
                    exact kf
                   replace h := zg hb h
                   refine kr [] ?_
                   cases h
                   exact kf
                  replace h := zg hb h
                  refine kr [] ?_
                  cases h
                  exact kf
                 replace h := zg hb h
                 refine kr [] ?_
                 cases h
                 exact kf
                replace h := zg hb h
                refine kr [] ?_
                cases h
                exact kf
               replace h := zg hb h
               refine kr [] ?_
               cases h
               exact kf
              replace h := zg hb h
              refine kr [] ?_
              cases h
              exact kf
             replace h := zg hb h
             refine kr [] ?_
             cases h
             exact kf
            replace h := zg hb h
            refine kr [] ?_
            cases h
            exact kf
           replace h := zg hb h
           refine kr [] ?_
           cases h
           exact kf
          replace h := zg hb h
          refine kr [] ?_
          cases h
          exact kf
         replace h := zf hb h
         refine kr [] ?_
         cases h
         exact kf
        replace h := zf hb h
        refine kr [] ?_
        cases h
        exact kf
       replace h := zf hb h
       refine kr [] ?_
       cases h
       exact kf
      replace h := zf hb h
      refine kr [] ?_
      cases h
      exact kf
     replace h := zf hb h
     refine kr [] ?_
     cases h
     exact kf
    replace h := zf hb h
    refine kr [] ?_
    cases h
    exact kf
   replace h := zf hb h
   refine kr [] ?_
   cases h
   exact kf
  replace h := zf hb h
  refine kr [] ?_
  cases h
  exact kf
 replace h := zf hb h
 refine kr [] ?_
 cases h
 exact kf
def uf (t0 : LB) (t1 : LB) (t5 : Int) : Option Bool :=
 if (decide (t5 < ((t0.map sc).length : Int))) = true then
  ix t0 t5 >>= fun x1 =>
  ix t1 t5 >>= fun x2 =>
  if (!decide (x1 = x2)) = true then
   some false
  else
   uf (qg t0) (qg t1) (IntKind.i64.wrap (t5 + (1 : Int)))
 else
  some true
 partial_fixpoint
@[reducible] def Wu (t0 : LB) (t1 : LB) (t5 : Int) (r : Bool) : Prop :=
  Ok Tryd.prog G tt 26 0 (Ret Tryd.prog [.tmp 4] (fun y H => Told Tryd.prog G H y (.bool r))) (.again (Qd [] Tryd.f12 0).1 (Qd [] Tryd.f12 0).2 (.n (.sl 1 false (t0.map sc)) (.n (.sl 1 false (t1.map sc)) .z (.n (.int .i64 t5) .z .z)) .z) 0 [])
theorem Yo : PC3 Wu uf := by
 refine uf.partial_correctness Wu (fun uf Yo t0 t1 t5 r h => ?_)
 unfold qg at h
 refine Q3 ?_
 refine kr [] ?_
 refine qi (fun hb => ?_) (fun hb => ?_)
 ·replace h := zf hb h
  refine kr [] ?_
  obtain ⟨x1, hx, h⟩ := bind_some h
  refine Y0 env hx rfl rfl rfl rfl rfl ?_
  refine kr [] ?_
  obtain ⟨x2, hx, h⟩ := bind_some h
  refine Y0 env hx rfl rfl rfl rfl rfl ?_
  refine kr [] ?_
  refine qi (fun hb => ?_) (fun hb => ?_)
  ·replace h := zf hb h
   refine kr [] ?_
   cases h
   exact kf
  replace h := zg hb h
  refine kr [] ?_
  exact ux (by kernel_rfl) lA (Yo _ _ _ _ h)
 replace h := zg hb h
 refine kr [] ?_
 cases h
 exact kf
def Yv (a0 : LB) (a1 : LB) : Option Bool :=
 if (!decide (((a0.map sc).length : Int) = ((a1.map sc).length : Int))) = true then
  some false
 else
  uf a0 a1 (0 : Int)
@[reducible] def qkk (a0 : LB) (a1 : LB) (r : Bool) : Prop :=
  Fn Tryd.prog G 12 [(.sl 1 false (a0.map sc)), (.sl 1 false (a1.map sc))] (.bool r)
theorem qkq : PC2 qkk Yv := fun a0 a1 r h => by
 rw [Yv.eq_def] at h
 refine jj (T := tt) (N := 26) (rs := [.tmp 4]) (fun vs w => by simp) Tryd.func12 rfl rfl rfl rfl (by kernel_rfl) (wi rfl) (yb _ rfl) ?_
 refine kr [] ?_
 refine qi (fun hb => ?_) (fun hb => ?_)
 ·replace h := zf hb h
  refine kr [] ?_
  cases h
  exact kf
 replace h := zg hb h
 refine kr [] ?_
 exact vv (by kernel_rfl) lA (Yo _ _ _ _ h)
mutual
def wh (a0 : Node) (a1 : Node) : Option Bool :=
 if (!decide (a0.kind = a1.kind)) = true then
  some false
 else
  if (!decide (a0.text = a1.text)) = true then
   some false
  else
   Yv a0.gaps a1.gaps >>= fun x1 =>
   if (!x1) = true then
    some false
   else
    if (!decide (((a0.kids.map Node.cells).length : Int) = ((a1.kids.map Node.cells).length : Int))) = true then
     some false
    else
     uu (0 : Int) (qg a0) (qg a1)
 partial_fixpoint
def uu (t5 : Int) (o0 : Node) (o1 : Node) : Option Bool :=
 if (decide (t5 < ((o0.kids.map Node.cells).length : Int))) = true then
  ix o0.kids t5 >>= fun x2 =>
  ix o1.kids t5 >>= fun x3 =>
  wh (qg x2) (qg x3) >>= fun x4 =>
  if (!x4) = true then
   some false
  else
   uu (IntKind.i64.wrap (t5 + (1 : Int))) (qg o0) (qg o1)
 else
  some true
 partial_fixpoint
end
@[reducible] def qbp (a0 : Node) (a1 : Node) (r : Bool) : Prop :=
  Fn Tryd.prog G 6 [(.agg (zu a0)), (.agg (zu a1))] (.bool r)
@[reducible] def Kg (t5 : Int) (o0 : Node) (o1 : Node) (r : Bool) : Prop :=
  Ok Tryd.prog G tt 54 0 (Ret Tryd.prog [.tmp 4] (fun y H => Told Tryd.prog G H y (.bool r))) (.again (Qd [] Tryd.f6 0).1 (Qd [] Tryd.f6 0).2 (.n .undef (.n .undef (.n (.ptr 1 1 0) .z .z) (.n (.int .i64 t5) .z .z)) (.n (.ptr 0 0 0) .z .z)) 2 [(0, .var 26 (zu o0)), (1, .var 26 (zu o1))])
theorem qc1 : PC2 qbp wh ∧ PC3 Kg uu := by
 refine wh.mutual_partial_correctness qbp Kg (fun uu Jm a0 a1 r h => ?_) (fun wh uu Ks Jm t5 o0 o1 r h => ?_)
 ·unfold qg at h
  refine jj (T := tt) (N := 54) (rs := [.tmp 4]) (fun vs w => by simp) Tryd.func6 rfl rfl rfl rfl (by kernel_rfl) (wi rfl) (yb _ rfl) ?_
  refine kr [] ?_
  refine qu (fun hb => ?_) (fun hb => ?_)
  ·replace h := zg hb h
   refine kr [] ?_
   refine qu (fun hb => ?_) (fun hb => ?_)
   ·replace h := zg hb h
    refine kr [] ?_
    obtain ⟨x1, hx, h⟩ := bind_some h
    refine qr (qkq _ _ _ hx) ?_
    refine kr [] ?_
    refine qu (fun hb => ?_) (fun hb => ?_)
    ·replace h := zg hb h
     refine kr [] ?_
     refine qi (fun hb => ?_) (fun hb => ?_)
     ·replace h := zf hb h
      refine kr [] ?_
      cases h
      exact kf
     replace h := zg hb h
     refine kr [] ?_
     exact vv (by kernel_rfl) lA (Jm _ _ _ _ h)
    replace h := zf hb h
    refine kr [] ?_
    cases h
    exact kf
   replace h := zf hb h
   refine kr [] ?_
   cases h
   exact kf
  replace h := zf hb h
  refine kr [] ?_
  cases h
  exact kf
 unfold qg at h
 refine Q3 ?_
 refine kr [] ?_
 refine qi (fun hb => ?_) (fun hb => ?_)
 ·replace h := zf hb h
  refine kr [] ?_
  obtain ⟨x2, hx, h⟩ := bind_some h
  refine Y0 env hx rfl rfl rfl rfl (Node.cells_eq x2) ?_
  refine kr [] ?_
  obtain ⟨x3, hx, h⟩ := bind_some h
  refine Y0 env hx rfl rfl rfl rfl (Node.cells_eq x3) ?_
  refine kr [] ?_
  obtain ⟨x4, hx, h⟩ := bind_some h
  refine qr (Ks _ _ _ hx) ?_
  refine kr [] ?_
  refine qi (fun hb => ?_) (fun hb => ?_)
  ·replace h := zf hb h
   refine kr [] ?_
   cases h
   exact kf
  replace h := zg hb h
  refine kr [] ?_
  exact ux (by kernel_rfl) lA (Jm _ _ _ _ h)
 replace h := zg hb h
 refine kr [] ?_
 cases h
 exact kf
theorem Ks : PC2 qbp wh := qc1.1
theorem Jm : PC3 Kg uu := qc1.2
def kz (t0 : BA) (o0 : Node) : Option Bool :=
 cat t0 (⟨#[59]⟩ : BA) >>= fun x9 =>
 Zb x9 >>= fun x10 =>
 Js >>= fun x11 =>
 if x11 = true then
  if (decide (x10.2.1 = (3 : Int))) = true then
   some true
  else
   if (decide (x10.2.1 = (0 : Int))) = true then
    if (decide (x10.1.kind = (16 : Int))) = true then
     if (decide (((x10.1.kids.map Node.cells).length : Int) = (1 : Int))) = true then
      ix x10.1.kids (0 : Int) >>= fun x12 =>
      wh x12 o0 >>= fun x13 =>
      some x13
     else
      some false
    else
     some false
   else
    some false
 else
  some false
@[reducible] def qb4 (t0 : BA) (o0 : Node) (r : Bool) : Prop :=
  Ok Tryd.prog G tt 94 0 (Ret Tryd.prog [.tmp 2] (fun y H => Told Tryd.prog G H y (.bool r))) (.go [] (Zu [58] Tryd.f3 58) [] (.n (.str t0) (.n .undef (.n (.ptr 0 0 0) .z .z) .z) .z) 2 [(0, .var 26 (zu o0))])
theorem Yy : PC2 qb4 kz := fun t0 o0 r h => by
 rw [kz.eq_def] at h
 refine kr [58] ?_
 obtain ⟨x9, hx, h⟩ := bind_some h
 refine qnu env hx rfl rfl ?_
 refine kr [58] ?_
 obtain ⟨x10, hx, h⟩ := bind_some h
 refine qr (Wa _ _ hx) ?_
 refine kr [58] ?_
 obtain ⟨x11, hx, h⟩ := bind_some h
 refine qr (qbq _ hx) ?_
 refine kr [58] ?_
 refine qq (fun hb => ?_) (fun hb => ?_)
 ·replace h := zf hb h
  refine kr [58] ?_
  refine qu (fun hb => ?_) (fun hb => ?_)
  ·replace h := zg hb h
   refine kr [58] ?_
   refine qq (fun hb => ?_) (fun hb => ?_)
   ·replace h := zf hb h
    refine kr [58] ?_
    refine qq (fun hb => ?_) (fun hb => ?_)
    ·replace h := zf hb h
     refine kr [58] ?_
     refine qq (fun hb => ?_) (fun hb => ?_)
     ·replace h := zf hb h
      refine kr [58] ?_
      obtain ⟨x12, hx, h⟩ := bind_some h
      refine Y0 env hx rfl rfl rfl rfl (Node.cells_eq x12) ?_
      refine kr [58] ?_
      obtain ⟨x13, hx, h⟩ := bind_some h
      refine qr (Ks _ _ _ hx) ?_
      refine kr [58] ?_
      cases h
      exact kf
     replace h := zg hb h
     refine kr [58] ?_
     cases h
     exact kf
    replace h := zg hb h
    refine kr [58] ?_
    cases h
    exact kf
   replace h := zg hb h
   refine kr [58] ?_
   cases h
   exact kf
  replace h := zf hb h
  refine kr [58] ?_
  cases h
  exact kf
 replace h := zg hb h
 refine kr [58] ?_
 cases h
 exact kf
def Jo (a0 : BA) : Option Bool :=
 if (decide ((2000 : Int) < (a0.size : Int))) = true then
  Js >>= fun x1 =>
  some x1
 else
  Qn a0 >>= fun x2 =>
  if (!decide (x2.2.1 = (0 : Int))) = true then
   Js >>= fun x3 =>
   some x3
  else
   cat (⟨#[40]⟩ : BA) a0 >>= fun x4 =>
   cat x4 (⟨#[41]⟩ : BA) >>= fun x5 =>
   Qn x5 >>= fun x6 =>
   if (!decide (x6.2.1 = (3 : Int))) = true then
    if (!decide (x6.2.1 = (0 : Int))) = true then
     some false
    else
     if (!decide (x6.1.kind = (26 : Int))) = true then
      some false
     else
      if (!decide (((x6.1.kids.map Node.cells).length : Int) = (1 : Int))) = true then
       some false
      else
       ix x6.1.kids (0 : Int) >>= fun x7 =>
       wh x7 x2.1 >>= fun x8 =>
       if (!x8) = true then
        some false
       else
        kz a0 x2.1
   else
    kz a0 x2.1
@[reducible] def Wv (a0 : BA) (r : Bool) : Prop :=
  Fn Tryd.prog G 3 [(.str a0)] (.bool r)
theorem qfy : PC1 Wv Jo := fun a0 r h => by
 rw [Jo.eq_def] at h
 refine jj (T := tt) (N := 94) (rs := [.tmp 2]) (fun vs w => by simp) Tryd.func3 rfl rfl rfl rfl (by kernel_rfl) (wi rfl) (yb _ rfl) ?_
 refine kr [58] ?_
 refine qi (fun hb => ?_) (fun hb => ?_)
 ·replace h := zf hb h
  refine kr [58] ?_
  obtain ⟨x1, hx, h⟩ := bind_some h
  refine qr (qbq _ hx) ?_
  refine kr [58] ?_
  cases h
  exact kf
 replace h := zg hb h
 refine kr [58] ?_
 obtain ⟨x2, hx, h⟩ := bind_some h
 refine qr (Ym _ _ hx) ?_
 refine kr [58] ?_
 refine qi (fun hb => ?_) (fun hb => ?_)
 ·replace h := zf hb h
  refine kr [58] ?_
  obtain ⟨x3, hx, h⟩ := bind_some h
  refine qr (qbq _ hx) ?_
  refine kr [58] ?_
  cases h
  exact kf
 replace h := zg hb h
 refine kr [58] ?_
 obtain ⟨x4, hx, h⟩ := bind_some h
 refine qnu env hx rfl rfl ?_
 refine kr [58] ?_
 obtain ⟨x5, hx, h⟩ := bind_some h
 refine qnu env hx rfl rfl ?_
 refine kr [58] ?_
 obtain ⟨x6, hx, h⟩ := bind_some h
 refine qr (Ym _ _ hx) ?_
 refine kr [58] ?_
 refine qq (fun hb => ?_) (fun hb => ?_)
 ·replace h := zf hb h
  refine kr [58] ?_
  refine qu (fun hb => ?_) (fun hb => ?_)
  ·replace h := zg hb h
   refine kr [58] ?_
   refine qu (fun hb => ?_) (fun hb => ?_)
   ·replace h := zg hb h
    refine kr [58] ?_
    refine qu (fun hb => ?_) (fun hb => ?_)
    ·replace h := zg hb h
     refine kr [58] ?_
     obtain ⟨x7, hx, h⟩ := bind_some h
     refine Y0 env hx rfl rfl rfl rfl (Node.cells_eq x7) ?_
     refine kr [58] ?_
     obtain ⟨x8, hx, h⟩ := bind_some h
     refine qr (Ks _ _ _ hx) ?_
     refine kr [58] ?_
     refine qi (fun hb => ?_) (fun hb => ?_)
     ·replace h := zf hb h
      refine kr [58] ?_
      cases h
      exact kf
     replace h := zg hb h
     refine kr [58] ?_
     exact zi (by kernel_rfl) rfl lA (Yy _ _ _ h)
    replace h := zf hb h
    refine kr [58] ?_
    cases h
    exact kf
   replace h := zf hb h
   refine kr [58] ?_
   cases h
   exact kf
  replace h := zf hb h
  refine kr [58] ?_
  cases h
  exact kf
 replace h := zg hb h
 refine kr [58] ?_
 exact zi (by kernel_rfl) rfl lA (Yy _ _ _ h)
end Go.Proofs.YtigmilhpeodhbaaDoorW.Ex.Gr
