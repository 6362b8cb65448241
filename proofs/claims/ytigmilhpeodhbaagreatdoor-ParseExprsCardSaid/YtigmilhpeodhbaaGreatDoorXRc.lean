/- The functions of the program's layer 9 and of its references, printed as functions on numbers, strings, lists and trees, with the proofs that they are what the code computes. Conditions: those in each theorem. -/
import Derived.Test.YtigmilhpeodhbaaGreatDoorXRb
namespace Go.Proofs.YtigmilhpeodhbaaGreatDoorW.Ex.Gr
open Go Go.Proofs.YtigmilhpeodhbaaGreatDoorW.Ex
set_option linter.all false
set_option maxRecDepth 100000
set_option synthInstance.maxSize 4000
set_option maxHeartbeats 4000000
open Go.Proofs.YtigmilhpeodhbaaGreatDoorW.Plain
def Z5 (t5 : (List Token)) (t9 : Int) (o1_0 : Int) (o1_1 : BA) (o1_2 : LB) (o1_3 : LN) : Option (Node × Int × Int) :=
 if (decide (t9 < (IntKind.i64.wrap (((t5.map Token.cells).length : Int) - (1 : Int))))) = true then
  qhm (qb t5) (qb t9) >>= fun x2 =>
  if (!x2.2.2) = true then
   ix t5 x2.2.1 >>= fun x3 =>
   some ((Node.mk 0 (⟨#[]⟩) ([] : LB) ([] : LN)), (1 : Int), x3.At)
  else
   app 72 o1_3 ([x2.1]) >>= fun x4 =>
   Z5 (qb t5) x2.2.1 (qb o1_0) (qb o1_1) (qb o1_2) (qb x4)
 else
  ix t5 t9 >>= fun x5 =>
  app 16 o1_2 ([x5.Lead]) >>= fun x6 =>
  Z4 (Node.mk o1_0 o1_1 x6 o1_3) >>= fun x7 =>
  some (x7.1, x7.2.1, x7.2.2)
 partial_fixpoint
@[reducible] def qg0 (t5 : (List Token)) (t9 : Int) (o1_0 : Int) (o1_1 : BA) (o1_2 : LB) (o1_3 : LN) (r : Node × Int × Int) : Prop :=
  Ok Tryz.prog G tt 67 0 (Ret Tryz.prog [.cell 2 26, .tmp 3, .tmp 4] (fun y H => Told Tryz.prog G H y (.tup [(.agg (zf r.1)), (.int .i64 r.2.1), (.int .i64 r.2.2)]))) (.again (yy [2000012] Tryz.f10 0).1 (yy [2000012] Tryz.f10 0).2 (.n .undef (.n .undef .z (.n (.sl 4 false (t5.map Token.cells)) (.n (.int .i64 t9) .z .z) .z)) (.n (.ptr 0 0 0) (.n .undef (.n (.ptr 1 1 0) .z .z) .z) .z)) 4 [(0, .var 26 [(.int .i64 0), (.str ⟨#[]⟩), (.sl 0 true []), (.sl 0 true [])]), (1, .var 26 [(.int .i64 o1_0), (.str o1_1), (.bs 1 2 2 0 o1_2.length), (.bs 4 3 3 0 o1_3.length)]), (2, .row 9 (o1_2.map sc).flatten), (3, .row 26 (o1_3.map Node.cells).flatten)])
theorem qcu : PC6 qg0 Z5 := by
 refine Z5.partial_correctness qg0 (fun Z5 qcu t5 t9 o1_0 o1_1 o1_2 o1_3 r h => ?_)
 ·unfold qb at h
  refine kt ?_
  refine kr [2000012] ?_
  refine qj (fun hb => ?_) (fun hb => ?_)
  ·replace h := qx hb h
   refine kr [2000012] ?_
   obtain ⟨x2, hx, h⟩ := bind_some h
   refine ql (qu2 _ _ _ hx) ?_
   refine kr [2000012] ?_
   refine qj (fun hb => ?_) (fun hb => ?_)
   ·replace h := qx hb h
    refine kr [2000012] ?_
    obtain ⟨x3, hx, h⟩ := bind_some h
    refine jo env hx rfl rfl rfl rfl rfl ?_
    refine kr [2000012] ?_
    cases h
    exact zd env rfl rfl (zt (zr (qc (jb (qa (qi rfl) (qa (q6 rfl) (qa (qv (.inr rfl)) (qa (qv (.inr rfl)) z1))))) (qc (q5 (qi rfl) (by simp)) (qc (q5 (qi rfl) (by simp)) zg)))))
   ·replace h := qy hb h
    refine kr [2000012] ?_
    obtain ⟨x4, hx, h⟩ := bind_some h
    have hp_x4 := jx hx (by simp)
    refine y7 (C := Node.cells) env hx rfl (show _ = AV.sl _ _ (List.map Node.cells [x2.1]) from (by simp only [List.map_cons, List.map_nil, Node.cells_eq]; rfl)) (by simp) Node.cells_len rfl rfl rfl rfl rfl (by decide) rfl rfl rfl ?_
    refine kr [2000012] ?_
    exact j4 (by kernel_rfl) lA (qcu _ _ _ _ _ _ _ h)
  ·replace h := qy hb h
   refine kr [2000012] ?_
   obtain ⟨x5, hx, h⟩ := bind_some h
   refine jo env hx rfl rfl rfl rfl rfl ?_
   refine kr [2000012] ?_
   obtain ⟨x6, hx, h⟩ := bind_some h
   have hp_x6 := jx hx (by simp)
   refine y7 (C := sc) env hx rfl rfl (by simp) (fun _ => rfl) rfl rfl rfl rfl rfl (by decide) rfl rfl rfl ?_
   refine kr [2000012] ?_
   refine vk 1 2 2 yp rfl rfl rfl rfl rfl rfl ?_
   refine vk 1 3 3 zo rfl rfl rfl rfl rfl rfl ?_
   refine qap ?_
   refine kr [2000012] ?_
   obtain ⟨x7, hx, h⟩ := bind_some h
   refine ql (qcq _ _ hx) ?_
   refine kr [2000012] ?_
   cases h
   exact kf
def qeo (a0 : BA) : Option (Node × Int × Int) :=
 Y1 a0 >>= fun x1 =>
 if (!decide (x1.2.1 = (0 : Int))) = true then
  some ((Node.mk 0 (⟨#[]⟩) ([] : LB) ([] : LN)), x1.2.1, x1.2.2)
 else
  Z5 x1.1 (0 : Int) (1 : Int) (⟨#[]⟩) ([] : LB) ([] : LN)
@[reducible] def qux (a0 : BA) (r : Node × Int × Int) : Prop :=
  Fn Tryz.prog G 10 [(.str a0)] (.tup [(.agg (zf r.1)), (.int .i64 r.2.1), (.int .i64 r.2.2)])
theorem qu4 : PC1 qux qeo := fun a0 r h => by
 rw [qeo.eq_def] at h
 refine zk (T := tt) (N := 67) (rs := [.cell 2 26, .tmp 3, .tmp 4]) (fun vs w => by simp) Tryz.func10 rfl rfl rfl rfl (by kernel_rfl) (jh rfl) (zp _ rfl) ?_
 refine kr [2000012] ?_
 obtain ⟨x1, hx, h⟩ := bind_some h
 refine ql (qdr _ _ hx) ?_
 refine kr [2000012] ?_
 refine qj (fun hb => ?_) (fun hb => ?_)
 ·replace h := qx hb h
  refine kr [2000012] ?_
  cases h
  exact zd env rfl rfl (zt (zr (qc (jb (qa (qi rfl) (qa (q6 rfl) (qa (qv (.inr rfl)) (qa (qv (.inr rfl)) z1))))) (qc (q5 (qi rfl) (by simp)) (qc (q5 (qi rfl) (by simp)) zg)))))
 ·replace h := qy hb h
  refine kr [2000012] ?_
  refine qhl 1 2 1 9 rfl rfl rfl ?_
  refine qhl 1 3 4 26 rfl rfl rfl ?_
  exact yo (by kernel_rfl) lA (qcu _ _ _ _ _ _ _ h)
def vo (t0 : LB) (t1 : LB) (t5 : Int) : Option Bool :=
 if (decide (t5 < ((t0.map sc).length : Int))) = true then
  ix t0 t5 >>= fun x1 =>
  ix t1 t5 >>= fun x2 =>
  if (!decide (x1 = x2)) = true then
   some false
  else
   vo (qb t0) (qb t1) (IntKind.i64.wrap (t5 + (1 : Int)))
 else
  some true
 partial_fixpoint
@[reducible] def qdd (t0 : LB) (t1 : LB) (t5 : Int) (r : Bool) : Prop :=
  Ok Tryz.prog G tt 26 0 (Ret Tryz.prog [.tmp 4] (fun y H => Told Tryz.prog G H y (.bool r))) (.again (yy [] Tryz.f28 0).1 (yy [] Tryz.f28 0).2 (.n (.sl 1 false (t0.map sc)) (.n (.sl 1 false (t1.map sc)) .z (.n (.int .i64 t5) .z .z)) .z) 0 [])
theorem W8 : PC3 qdd vo := by
 refine vo.partial_correctness qdd (fun vo W8 t0 t1 t5 r h => ?_)
 ·unfold qb at h
  refine kt ?_
  refine kr [] ?_
  refine qj (fun hb => ?_) (fun hb => ?_)
  ·replace h := qx hb h
   refine kr [] ?_
   obtain ⟨x1, hx, h⟩ := bind_some h
   refine jo env hx rfl rfl rfl rfl rfl ?_
   refine kr [] ?_
   obtain ⟨x2, hx, h⟩ := bind_some h
   refine jo env hx rfl rfl rfl rfl rfl ?_
   refine kr [] ?_
   refine qj (fun hb => ?_) (fun hb => ?_)
   ·replace h := qx hb h
    refine kr [] ?_
    cases h
    exact kf
   ·replace h := qy hb h
    refine kr [] ?_
    exact j4 (by kernel_rfl) lA (W8 _ _ _ _ h)
  ·replace h := qy hb h
   refine kr [] ?_
   cases h
   exact kf
def qag (a0 : LB) (a1 : LB) : Option Bool :=
 if (!decide (((a0.map sc).length : Int) = ((a1.map sc).length : Int))) = true then
  some false
 else
  vo a0 a1 (0 : Int)
@[reducible] def qo5 (a0 : LB) (a1 : LB) (r : Bool) : Prop :=
  Fn Tryz.prog G 28 [(.sl 1 false (a0.map sc)), (.sl 1 false (a1.map sc))] (.bool r)
theorem qpb : PC2 qo5 qag := fun a0 a1 r h => by
 rw [qag.eq_def] at h
 refine zk (T := tt) (N := 26) (rs := [.tmp 4]) (fun vs w => by simp) Tryz.func28 rfl rfl rfl rfl (by kernel_rfl) (jh rfl) (zp _ rfl) ?_
 refine kr [] ?_
 refine qj (fun hb => ?_) (fun hb => ?_)
 ·replace h := qx hb h
  refine kr [] ?_
  cases h
  exact kf
 ·replace h := qy hb h
  refine kr [] ?_
  exact yo (by kernel_rfl) lA (W8 _ _ _ _ h)
mutual
def uv (a0 : Node) (a1 : Node) : Option Bool :=
 if (!decide (a0.kind = a1.kind)) = true then
  some false
 else
  if (!decide (a0.text = a1.text)) = true then
   some false
  else
   qag a0.gaps a1.gaps >>= fun x1 =>
   if (!x1) = true then
    some false
   else
    if (!decide (((a0.kids.map Node.cells).length : Int) = ((a1.kids.map Node.cells).length : Int))) = true then
     some false
    else
     Qf (0 : Int) (qb a0) (qb a1)
 partial_fixpoint
def Qf (t5 : Int) (o0 : Node) (o1 : Node) : Option Bool :=
 if (decide (t5 < ((o0.kids.map Node.cells).length : Int))) = true then
  ix o0.kids t5 >>= fun x2 =>
  ix o1.kids t5 >>= fun x3 =>
  uv (qb x2) (qb x3) >>= fun x4 =>
  if (!x4) = true then
   some false
  else
   Qf (IntKind.i64.wrap (t5 + (1 : Int))) (qb o0) (qb o1)
 else
  some true
 partial_fixpoint
end
@[reducible] def qfk (a0 : Node) (a1 : Node) (r : Bool) : Prop :=
  Fn Tryz.prog G 11 [(.agg (zf a0)), (.agg (zf a1))] (.bool r)
@[reducible] def qbn (t5 : Int) (o0 : Node) (o1 : Node) (r : Bool) : Prop :=
  Ok Tryz.prog G tt 54 0 (Ret Tryz.prog [.tmp 4] (fun y H => Told Tryz.prog G H y (.bool r))) (.again (yy [] Tryz.f11 0).1 (yy [] Tryz.f11 0).2 (.n .undef (.n .undef (.n (.ptr 1 1 0) .z .z) (.n (.int .i64 t5) .z .z)) (.n (.ptr 0 0 0) .z .z)) 2 [(0, .var 26 (zf o0)), (1, .var 26 (zf o1))])
theorem qg6 : PC2 qfk uv ∧ PC3 qbn Qf := by
 refine uv.mutual_partial_correctness qfk qbn (fun Qf Kx a0 a1 r h => ?_) (fun uv Qf W7 Kx t5 o0 o1 r h => ?_)
 ·unfold qb at h
  refine zk (T := tt) (N := 54) (rs := [.tmp 4]) (fun vs w => by simp) Tryz.func11 rfl rfl rfl rfl (by kernel_rfl) (jh rfl) (zp _ rfl) ?_
  refine kr [] ?_
  refine qu (fun hb => ?_) (fun hb => ?_)
  ·replace h := qy hb h
   refine kr [] ?_
   refine qu (fun hb => ?_) (fun hb => ?_)
   ·replace h := qy hb h
    refine kr [] ?_
    obtain ⟨x1, hx, h⟩ := bind_some h
    refine ql (qpb _ _ _ hx) ?_
    refine kr [] ?_
    refine qu (fun hb => ?_) (fun hb => ?_)
    ·replace h := qy hb h
     refine kr [] ?_
     refine qj (fun hb => ?_) (fun hb => ?_)
     ·replace h := qx hb h
      refine kr [] ?_
      cases h
      exact kf
     ·replace h := qy hb h
      refine kr [] ?_
      exact yo (by kernel_rfl) lA (Kx _ _ _ _ h)
    ·replace h := qx hb h
     refine kr [] ?_
     cases h
     exact kf
   ·replace h := qx hb h
    refine kr [] ?_
    cases h
    exact kf
  ·replace h := qx hb h
   refine kr [] ?_
   cases h
   exact kf
 ·unfold qb at h
  refine kt ?_
  refine kr [] ?_
  refine qj (fun hb => ?_) (fun hb => ?_)
  ·replace h := qx hb h
   refine kr [] ?_
   obtain ⟨x2, hx, h⟩ := bind_some h
   refine jo env hx rfl rfl rfl rfl (Node.cells_eq x2) ?_
   refine kr [] ?_
   obtain ⟨x3, hx, h⟩ := bind_some h
   refine jo env hx rfl rfl rfl rfl (Node.cells_eq x3) ?_
   refine kr [] ?_
   obtain ⟨x4, hx, h⟩ := bind_some h
   refine ql (W7 _ _ _ hx) ?_
   refine kr [] ?_
   refine qj (fun hb => ?_) (fun hb => ?_)
   ·replace h := qx hb h
    refine kr [] ?_
    cases h
    exact kf
   ·replace h := qy hb h
    refine kr [] ?_
    exact j4 (by kernel_rfl) lA (Kx _ _ _ _ h)
  ·replace h := qy hb h
   refine kr [] ?_
   cases h
   exact kf
theorem W7 : PC2 qfk uv := qg6.1
theorem Kx : PC3 qbn Qf := qg6.2
def K1 (a0 : BA) : Option Bool :=
 if (decide ((4000 : Int) < (a0.size : Int))) = true then
  Qw >>= fun x1 =>
  some x1
 else
  J8 a0 >>= fun x2 =>
  qeo a0 >>= fun x3 =>
  Qw >>= fun x4 =>
  if x4 = true then
   if (decide (x2.2.1 = x3.2.1)) = true then
    if (decide (x2.2.2 = x3.2.2)) = true then
     uv x2.1 x3.1 >>= fun x5 =>
     some x5
    else
     some false
   else
    some false
  else
   some false
@[reducible] def qdf (a0 : BA) (r : Bool) : Prop :=
  Fn Tryz.prog G 3 [(.str a0)] (.bool r)
theorem qj8 : PC1 qdf K1 := fun a0 r h => by
 rw [K1.eq_def] at h
 refine zk (T := tt) (N := 41) (rs := [.tmp 2]) (fun vs w => by simp) Tryz.func3 rfl rfl rfl rfl (by kernel_rfl) (jh rfl) (zp _ rfl) ?_
 refine kr [] ?_
 refine qj (fun hb => ?_) (fun hb => ?_)
 ·replace h := qx hb h
  refine kr [] ?_
  obtain ⟨x1, hx, h⟩ := bind_some h
  refine ql (Ka _ hx) ?_
  refine kr [] ?_
  cases h
  exact kf
 ·replace h := qy hb h
  refine kr [] ?_
  obtain ⟨x2, hx, h⟩ := bind_some h
  refine ql (qcl _ _ hx) ?_
  refine kr [] ?_
  obtain ⟨x3, hx, h⟩ := bind_some h
  refine ql (qu4 _ _ hx) ?_
  refine kr [] ?_
  obtain ⟨x4, hx, h⟩ := bind_some h
  refine ql (Ka _ hx) ?_
  refine kr [] ?_
  refine qr (fun hb => ?_) (fun hb => ?_)
  ·replace h := qx hb h
   refine kr [] ?_
   refine qr (fun hb => ?_) (fun hb => ?_)
   ·replace h := qx hb h
    refine kr [] ?_
    refine qr (fun hb => ?_) (fun hb => ?_)
    ·replace h := qx hb h
     refine kr [] ?_
     obtain ⟨x5, hx, h⟩ := bind_some h
     refine ql (W7 _ _ _ hx) ?_
     refine kr [] ?_
     cases h
     exact kf
    ·replace h := qy hb h
     refine kr [] ?_
     cases h
     exact kf
   ·replace h := qy hb h
    refine kr [] ?_
    cases h
    exact kf
  ·replace h := qy hb h
   refine kr [] ?_
   cases h
   exact kf
def qep (a0 : BA) : Option (Node × Int × Int) :=
 Y1 a0 >>= fun x1 =>
 if (!decide (x1.2.1 = (0 : Int))) = true then
  some ((Node.mk 0 (⟨#[]⟩) ([] : LB) ([] : LN)), x1.2.1, x1.2.2)
 else
  j5 x1.1 (0 : Int) (1 : Int) >>= fun x2 =>
  if (!x2.2.2) = true then
   ix x1.1 x2.2.1 >>= fun x8 =>
   some ((Node.mk 0 (⟨#[]⟩) ([] : LB) ([] : LN)), (1 : Int), x8.At)
  else
   ix x1.1 x2.2.1 >>= fun x3 =>
   if (!decide (x3.Kind = (4 : Int))) = true then
    ix x1.1 x2.2.1 >>= fun x7 =>
    some ((Node.mk 0 (⟨#[]⟩) ([] : LB) ([] : LN)), (1 : Int), x7.At)
   else
    ix x1.1 x2.2.1 >>= fun x4 =>
    if (!decide (x4.Lead = (⟨#[]⟩ : BA))) = true then
     ix x1.1 x2.2.1 >>= fun x5 =>
     some ((Node.mk 0 (⟨#[]⟩) ([] : LB) ([] : LN)), (1 : Int), x5.At)
    else
     Z4 x2.1 >>= fun x6 =>
     some (x6.1, x6.2.1, x6.2.2)
@[reducible] def quy (a0 : BA) (r : Node × Int × Int) : Prop :=
  Fn Tryz.prog G 13 [(.str a0)] (.tup [(.agg (zf r.1)), (.int .i64 r.2.1), (.int .i64 r.2.2)])
theorem qu5 : PC1 quy qep := fun a0 r h => by
 rw [qep.eq_def] at h
 refine zk (T := tt) (N := 57) (rs := [.cell 2 26, .tmp 3, .tmp 4]) (fun vs w => by simp) Tryz.func13 rfl rfl rfl rfl (by kernel_rfl) (jh rfl) (zp _ rfl) ?_
 refine kr [] ?_
 obtain ⟨x1, hx, h⟩ := bind_some h
 refine ql (qdr _ _ hx) ?_
 refine kr [] ?_
 refine qj (fun hb => ?_) (fun hb => ?_)
 ·replace h := qx hb h
  refine kr [] ?_
  cases h
  exact zd env rfl rfl (zt (zr (qc (jb (qa (qi rfl) (qa (q6 rfl) (qa (qv (.inr rfl)) (qa (qv (.inr rfl)) z1))))) (qc (q5 (qi rfl) (by simp)) (qc (q5 (qi rfl) (by simp)) zg)))))
 ·replace h := qy hb h
  refine kr [] ?_
  obtain ⟨x2, hx, h⟩ := bind_some h
  refine ql (we _ _ _ _ hx) ?_
  refine kr [] ?_
  refine qu (fun hb => ?_) (fun hb => ?_)
  ·replace h := qy hb h
   refine kr [] ?_
   obtain ⟨x3, hx, h⟩ := bind_some h
   refine jo env hx rfl rfl rfl rfl rfl ?_
   refine kr [] ?_
   refine qu (fun hb => ?_) (fun hb => ?_)
   ·replace h := qy hb h
    refine kr [] ?_
    obtain ⟨x4, hx, h⟩ := bind_some h
    refine jo env hx rfl rfl rfl rfl rfl ?_
    refine kr [] ?_
    refine qj (fun hb => ?_) (fun hb => ?_)
    ·replace h := qx hb h
     refine kr [] ?_
     obtain ⟨x5, hx, h⟩ := bind_some h
     refine jo env hx rfl rfl rfl rfl rfl ?_
     refine kr [] ?_
     cases h
     exact zd env rfl rfl (zt (zr (qc (jb (qa (qi rfl) (qa (q6 rfl) (qa (qv (.inr rfl)) (qa (qv (.inr rfl)) z1))))) (qc (q5 (qi rfl) (by simp)) (qc (q5 (qi rfl) (by simp)) zg)))))
    ·replace h := qy hb h
     refine kr [] ?_
     obtain ⟨x6, hx, h⟩ := bind_some h
     refine ql (qcq _ _ hx) ?_
     refine kr [] ?_
     cases h
     exact kf
   ·replace h := qx hb h
    refine kr [] ?_
    obtain ⟨x7, hx, h⟩ := bind_some h
    refine jo env hx rfl rfl rfl rfl rfl ?_
    refine kr [] ?_
    cases h
    exact zd env rfl rfl (zt (zr (qc (jb (qa (qi rfl) (qa (q6 rfl) (qa (qv (.inr rfl)) (qa (qv (.inr rfl)) z1))))) (qc (q5 (qi rfl) (by simp)) (qc (q5 (qi rfl) (by simp)) zg)))))
  ·replace h := qx hb h
   refine kr [] ?_
   obtain ⟨x8, hx, h⟩ := bind_some h
   refine jo env hx rfl rfl rfl rfl rfl ?_
   refine kr [] ?_
   cases h
   exact zd env rfl rfl (zt (zr (qc (jb (qa (qi rfl) (qa (q6 rfl) (qa (qv (.inr rfl)) (qa (qv (.inr rfl)) z1))))) (qc (q5 (qi rfl) (by simp)) (qc (q5 (qi rfl) (by simp)) zg)))))
def K2 (a0 : BA) : Option Bool :=
 if (decide ((2000 : Int) < (a0.size : Int))) = true then
  Qw >>= fun x1 =>
  some x1
 else
  J9 a0 >>= fun x2 =>
  qep a0 >>= fun x3 =>
  Qw >>= fun x4 =>
  if x4 = true then
   if (decide (x2.2.1 = x3.2.1)) = true then
    if (decide (x2.2.2 = x3.2.2)) = true then
     uv x2.1 x3.1 >>= fun x5 =>
     some x5
    else
     some false
   else
    some false
  else
   some false
@[reducible] def qdg (a0 : BA) (r : Bool) : Prop :=
  Fn Tryz.prog G 4 [(.str a0)] (.bool r)
theorem qj9 : PC1 qdg K2 := fun a0 r h => by
 rw [K2.eq_def] at h
 refine zk (T := tt) (N := 41) (rs := [.tmp 2]) (fun vs w => by simp) Tryz.func4 rfl rfl rfl rfl (by kernel_rfl) (jh rfl) (zp _ rfl) ?_
 refine kr [] ?_
 refine qj (fun hb => ?_) (fun hb => ?_)
 ·replace h := qx hb h
  refine kr [] ?_
  obtain ⟨x1, hx, h⟩ := bind_some h
  refine ql (Ka _ hx) ?_
  refine kr [] ?_
  cases h
  exact kf
 ·replace h := qy hb h
  refine kr [] ?_
  obtain ⟨x2, hx, h⟩ := bind_some h
  refine ql (qcn _ _ hx) ?_
  refine kr [] ?_
  obtain ⟨x3, hx, h⟩ := bind_some h
  refine ql (qu5 _ _ hx) ?_
  refine kr [] ?_
  obtain ⟨x4, hx, h⟩ := bind_some h
  refine ql (Ka _ hx) ?_
  refine kr [] ?_
  refine qr (fun hb => ?_) (fun hb => ?_)
  ·replace h := qx hb h
   refine kr [] ?_
   refine qr (fun hb => ?_) (fun hb => ?_)
   ·replace h := qx hb h
    refine kr [] ?_
    refine qr (fun hb => ?_) (fun hb => ?_)
    ·replace h := qx hb h
     refine kr [] ?_
     obtain ⟨x5, hx, h⟩ := bind_some h
     refine ql (W7 _ _ _ hx) ?_
     refine kr [] ?_
     cases h
     exact kf
    ·replace h := qy hb h
     refine kr [] ?_
     cases h
     exact kf
   ·replace h := qy hb h
    refine kr [] ?_
    cases h
    exact kf
  ·replace h := qy hb h
   refine kr [] ?_
   cases h
   exact kf
def qen (a0 : BA) : Option (Node × Int × Int) :=
 Y1 a0 >>= fun x1 =>
 if (!decide (x1.2.1 = (0 : Int))) = true then
  some ((Node.mk 0 (⟨#[]⟩) ([] : LB) ([] : LN)), x1.2.1, x1.2.2)
 else
  w5 x1.1 (0 : Int) >>= fun x2 =>
  if (!x2.2.2) = true then
   ix x1.1 x2.2.1 >>= fun x8 =>
   some ((Node.mk 0 (⟨#[]⟩) ([] : LB) ([] : LN)), (1 : Int), x8.At)
  else
   ix x1.1 x2.2.1 >>= fun x3 =>
   if (!decide (x3.Kind = (4 : Int))) = true then
    ix x1.1 x2.2.1 >>= fun x7 =>
    some ((Node.mk 0 (⟨#[]⟩) ([] : LB) ([] : LN)), (1 : Int), x7.At)
   else
    ix x1.1 x2.2.1 >>= fun x4 =>
    if (!decide (x4.Lead = (⟨#[]⟩ : BA))) = true then
     ix x1.1 x2.2.1 >>= fun x5 =>
     some ((Node.mk 0 (⟨#[]⟩) ([] : LB) ([] : LN)), (1 : Int), x5.At)
    else
     Z4 x2.1 >>= fun x6 =>
     some (x6.1, x6.2.1, x6.2.2)
@[reducible] def quw (a0 : BA) (r : Node × Int × Int) : Prop :=
  Fn Tryz.prog G 15 [(.str a0)] (.tup [(.agg (zf r.1)), (.int .i64 r.2.1), (.int .i64 r.2.2)])
theorem qu3 : PC1 quw qen := fun a0 r h => by
 rw [qen.eq_def] at h
 refine zk (T := tt) (N := 57) (rs := [.cell 2 26, .tmp 3, .tmp 4]) (fun vs w => by simp) Tryz.func15 rfl rfl rfl rfl (by kernel_rfl) (jh rfl) (zp _ rfl) ?_
 refine kr [] ?_
 obtain ⟨x1, hx, h⟩ := bind_some h
 refine ql (qdr _ _ hx) ?_
 refine kr [] ?_
 refine qj (fun hb => ?_) (fun hb => ?_)
 ·replace h := qx hb h
  refine kr [] ?_
  cases h
  exact zd env rfl rfl (zt (zr (qc (jb (qa (qi rfl) (qa (q6 rfl) (qa (qv (.inr rfl)) (qa (qv (.inr rfl)) z1))))) (qc (q5 (qi rfl) (by simp)) (qc (q5 (qi rfl) (by simp)) zg)))))
 ·replace h := qy hb h
  refine kr [] ?_
  obtain ⟨x2, hx, h⟩ := bind_some h
  refine ql (qaw _ _ _ hx) ?_
  refine kr [] ?_
  refine qu (fun hb => ?_) (fun hb => ?_)
  ·replace h := qy hb h
   refine kr [] ?_
   obtain ⟨x3, hx, h⟩ := bind_some h
   refine jo env hx rfl rfl rfl rfl rfl ?_
   refine kr [] ?_
   refine qu (fun hb => ?_) (fun hb => ?_)
   ·replace h := qy hb h
    refine kr [] ?_
    obtain ⟨x4, hx, h⟩ := bind_some h
    refine jo env hx rfl rfl rfl rfl rfl ?_
    refine kr [] ?_
    refine qj (fun hb => ?_) (fun hb => ?_)
    ·replace h := qx hb h
     refine kr [] ?_
     obtain ⟨x5, hx, h⟩ := bind_some h
     refine jo env hx rfl rfl rfl rfl rfl ?_
     refine kr [] ?_
     cases h
     exact zd env rfl rfl (zt (zr (qc (jb (qa (qi rfl) (qa (q6 rfl) (qa (qv (.inr rfl)) (qa (qv (.inr rfl)) z1))))) (qc (q5 (qi rfl) (by simp)) (qc (q5 (qi rfl) (by simp)) zg)))))
    ·replace h := qy hb h
     refine kr [] ?_
     obtain ⟨x6, hx, h⟩ := bind_some h
     refine ql (qcq _ _ hx) ?_
     refine kr [] ?_
     cases h
     exact kf
   ·replace h := qx hb h
    refine kr [] ?_
    obtain ⟨x7, hx, h⟩ := bind_some h
    refine jo env hx rfl rfl rfl rfl rfl ?_
    refine kr [] ?_
    cases h
    exact zd env rfl rfl (zt (zr (qc (jb (qa (qi rfl) (qa (q6 rfl) (qa (qv (.inr rfl)) (qa (qv (.inr rfl)) z1))))) (qc (q5 (qi rfl) (by simp)) (qc (q5 (qi rfl) (by simp)) zg)))))
  ·replace h := qx hb h
   refine kr [] ?_
   obtain ⟨x8, hx, h⟩ := bind_some h
   refine jo env hx rfl rfl rfl rfl rfl ?_
   refine kr [] ?_
   cases h
   exact zd env rfl rfl (zt (zr (qc (jb (qa (qi rfl) (qa (q6 rfl) (qa (qv (.inr rfl)) (qa (qv (.inr rfl)) z1))))) (qc (q5 (qi rfl) (by simp)) (qc (q5 (qi rfl) (by simp)) zg)))))
def Kz (a0 : BA) : Option Bool :=
 if (decide ((2000 : Int) < (a0.size : Int))) = true then
  Qw >>= fun x1 =>
  some x1
 else
  J7 a0 >>= fun x2 =>
  qen a0 >>= fun x3 =>
  Qw >>= fun x4 =>
  if x4 = true then
   if (decide (x2.2.1 = x3.2.1)) = true then
    if (decide (x2.2.2 = x3.2.2)) = true then
     uv x2.1 x3.1 >>= fun x5 =>
     some x5
    else
     some false
   else
    some false
  else
   some false
@[reducible] def qde (a0 : BA) (r : Bool) : Prop :=
  Fn Tryz.prog G 5 [(.str a0)] (.bool r)
theorem qj7 : PC1 qde Kz := fun a0 r h => by
 rw [Kz.eq_def] at h
 refine zk (T := tt) (N := 41) (rs := [.tmp 2]) (fun vs w => by simp) Tryz.func5 rfl rfl rfl rfl (by kernel_rfl) (jh rfl) (zp _ rfl) ?_
 refine kr [] ?_
 refine qj (fun hb => ?_) (fun hb => ?_)
 ·replace h := qx hb h
  refine kr [] ?_
  obtain ⟨x1, hx, h⟩ := bind_some h
  refine ql (Ka _ hx) ?_
  refine kr [] ?_
  cases h
  exact kf
 ·replace h := qy hb h
  refine kr [] ?_
  obtain ⟨x2, hx, h⟩ := bind_some h
  refine ql (qck _ _ hx) ?_
  refine kr [] ?_
  obtain ⟨x3, hx, h⟩ := bind_some h
  refine ql (qu3 _ _ hx) ?_
  refine kr [] ?_
  obtain ⟨x4, hx, h⟩ := bind_some h
  refine ql (Ka _ hx) ?_
  refine kr [] ?_
  refine qr (fun hb => ?_) (fun hb => ?_)
  ·replace h := qx hb h
   refine kr [] ?_
   refine qr (fun hb => ?_) (fun hb => ?_)
   ·replace h := qx hb h
    refine kr [] ?_
    refine qr (fun hb => ?_) (fun hb => ?_)
    ·replace h := qx hb h
     refine kr [] ?_
     obtain ⟨x5, hx, h⟩ := bind_some h
     refine ql (W7 _ _ _ hx) ?_
     refine kr [] ?_
     cases h
     exact kf
    ·replace h := qy hb h
     refine kr [] ?_
     cases h
     exact kf
   ·replace h := qy hb h
    refine kr [] ?_
    cases h
    exact kf
  ·replace h := qy hb h
   refine kr [] ?_
   cases h
   exact kf
end Go.Proofs.YtigmilhpeodhbaaGreatDoorW.Ex.Gr
