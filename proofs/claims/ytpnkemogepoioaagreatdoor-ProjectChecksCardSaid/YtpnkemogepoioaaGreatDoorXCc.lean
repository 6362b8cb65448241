/- The functions of the program's layer 9 and of its references, printed as functions on numbers, strings, lists and trees, with the proofs that they are what the code computes. Conditions: those in each theorem. -/
import Derived.Test.YtpnkemogepoioaaGreatDoorXCb
namespace Go.Proofs.YtpnkemogepoioaaGreatDoorW.Ex.Gr
open Go Go.Proofs.YtpnkemogepoioaaGreatDoorW.Ex
set_option linter.all false
set_option maxRecDepth 100000
set_option synthInstance.maxSize 4000
set_option maxHeartbeats 4000000
open Go.Proofs.YtpnkemogepoioaaGreatDoorW.Plain
theorem qgi:PC6 qn8 J5:=fun t8 o3_0 o3_1 o3_2 o3_3 o4 r h=>by
 rw [J5.eq_def] at h
 refine kr [36] ?_
 obtain ⟨x38,hx,h⟩:=bind_some h
 have hp_x38:=ju hx (by simp)
 refine y3 (C:=Node.cells) env hx rfl (show _=AV.sl _ _ (List.map Node.cells [o4]) from (by simp only [Ay,AN,Node.cells_eq];rfl)) (by simp) Node.cells_len rfl rfl rfl rfl rfl (by decide) rfl rfl rfl ?_
 refine kr [36] ?_
 cases h
 exact zb env rfl rfl (zt (zw (qc (jo (qb (qj rfl) (qb (q8 rfl) (qb (q4 (.inl rfl)) (qb (z8 zo rfl) jc))))) (qc (q5 (qj rfl) (by simp)) (qc (q5 (zf rfl) (by simp)) zk)))))
def Qy (t0:(List Token)) (t1:Int):Option (Node × Int × Bool):=
 K1 t0 t1 (16:Int) (⟨#[]⟩) ([]:LB) ([]:LN) >>=fun x37=>
 some (x37.1,x37.2.1,x37.2.2)
@[reducible] def qkg (t0:(List Token)) (t1:Int) (r:Node × Int × Bool):Prop:=
  Ok Tryz.prog G tt 85 0 (Ret Tryz.prog [.cell 4 45, .tmp 5, .tmp 6] (fun y H=>Told Tryz.prog G H y (.tup [(.agg (zl r.1)),(.int .i64 r.2.1),(.bool r.2.2)]))) (.go [] (vf [70] Tryz.f170 70) [] (.n (.sl 4 false (t0.map Token.cells)) (.n (.int .i64 t1) .z .z) (.n .undef (.n (.ptr 0 0 0) .z .z) .z)) 1 [(0, .var 45 [(.int .i64 0),(.str ⟨#[]⟩),(.sl 0 true []),(.sl 0 true [])])])
theorem qdt:PC2 qkg Qy:=fun t0 t1 r h=>by
 rw [Qy.eq_def] at h
 refine kr [70] ?_
 obtain ⟨x37,hx,h⟩:=bind_some h
 refine qr (ACalls.ghost (e:=9) (ACalls.ghost (e:=45) (ACalls.wkg (AC.go (objs:= [(0, .var 45 [(.int .i64 0),(.str ⟨#[]⟩),(.sl 0 true []),(.sl 0 true [])]),(1, .row 9 (([]:LB).map sc).flatten),(2, .row 45 (([]:LN).map Node.cells).flatten)]) (xs:= [(.sl 4 false (t0.map Token.cells)),(.int .i64 t1),(.agg [(.int .i64 (16:Int)),(.str ⟨#[]⟩),(.bs 1 1 1 0 ([]:LB).length),(.bs 4 2 2 0 ([]:LN).length)])]) (qjb _ _ _ _ _ _ _ hx) [1,2] [1,2] rfl rfl rfl rfl rfl rfl rfl rfl rfl) (qt (q7 _) (qt (za _) (qt (qkr (qp (q7 _) (qp (q7 _) (qp (zq rfl) (qp (zq rfl) j8))))) jh))) (z6 _)))) ?_
 refine kr [70] ?_
 cases h
 exact kf
mutual
def Qc (a0:(List Token)) (a1:Int):Option (Node × Int × Bool):=
 yg (qa a0) (qa a1) (⟨#[123]⟩:BA) >>=fun x1=>
 if (!x1)=true then
  some ((Node.mk 0 (⟨#[]⟩) ([]:LB) ([]:LN)),a1,false)
 else
  ix a0 a1 >>=fun x2=>
  app 16 ([]:LB) ([x2.Lead]) >>=fun x3=>
  Q4 (qa a0) (IntKind.i64.wrap (a1+(1:Int))) (6:Int) (⟨#[]⟩) (qa x3) ([]:LN)
 partial_fixpoint
def Zb (a0:(List Token)) (a1:Int):Option (Node × Int × Bool):=
 yg (qa a0) (qa a1) (⟨#[108,101,116]⟩:BA) >>=fun x4=>
 if x4=true then
  Z8 (qa a0) (qa a1) (10:Int) ([(⟨#[108,101,116]⟩:BA),(⟨#[]⟩:BA),(⟨#[61]⟩:BA)]) >>=fun x5=>
  some (x5.1,x5.2.1,x5.2.2)
 else
  yg (qa a0) (qa a1) (⟨#[114,101,116,117,114,110]⟩:BA) >>=fun x6=>
  if x6=true then
   ix a0 a1 >>=fun x7=>
   qao (qa a0) (IntKind.i64.wrap (a1+(1:Int))) (12:Int) (⟨#[]⟩) ([x7.Lead]) ([]:LN) >>=fun x8=>
   some (x8.1,x8.2.1,x8.2.2)
  else
   yg (qa a0) (qa a1) (⟨#[105,102]⟩:BA) >>=fun x9=>
   if x9=true then
    qdy (qa a0) (qa a1) >>=fun x10=>
    some (x10.1,x10.2.1,x10.2.2)
   else
    yg (qa a0) (qa a1) (⟨#[119,104,105,108,101]⟩:BA) >>=fun x11=>
    if x11=true then
     ix a0 a1 >>=fun x12=>
     Jd (qa a0) (IntKind.i64.wrap (a1+(1:Int))) (15:Int) (⟨#[]⟩) ([x12.Lead]) ([]:LN) >>=fun x13=>
     some ((Node.mk x13.1.kind x13.1.text x13.1.gaps x13.1.kids),x13.2.1,x13.2.2)
    else
     qac (qa a0) (qa a1) >>=fun x14=>
     if x14=true then
      yg (qa a0) (IntKind.i64.wrap (a1+(1:Int))) (⟨#[61]⟩:BA) >>=fun x15=>
      if x15=true then
       Z8 (qa a0) (qa a1) (11:Int) ([(⟨#[]⟩:BA),(⟨#[61]⟩:BA)]) >>=fun x16=>
       some (x16.1,x16.2.1,x16.2.2)
      else
       Qy (qa a0) (qa a1)
     else
      Qy (qa a0) (qa a1)
 partial_fixpoint
def qdy (a0:(List Token)) (a1:Int):Option (Node × Int × Bool):=
 ix a0 a1 >>=fun x17=>
 Jd (qa a0) (IntKind.i64.wrap (a1+(1:Int))) (13:Int) (⟨#[]⟩) ([x17.Lead]) ([]:LN) >>=fun x18=>
 if (!x18.2.2)=true then
  some ((Node.mk 0 (⟨#[]⟩) ([]:LB) ([]:LN)),x18.2.1,false)
 else
  yg (qa a0) x18.2.1 (⟨#[101,108,115,101]⟩:BA) >>=fun x19=>
  if x19=true then
   ix a0 x18.2.1 >>=fun x20=>
   app 16 ([]:LB) ([x20.Lead]) >>=fun x21=>
   Qc (qa a0) (IntKind.i64.wrap (x18.2.1+(1:Int))) >>=fun x22=>
   if (!x22.2.2)=true then
    some ((Node.mk 0 (⟨#[]⟩) ([]:LB) ([]:LN)),x22.2.1,false)
   else
    app 72 ([]:LN) ([x22.1]) >>=fun x23=>
    J5 x22.2.1 x18.1.kind x18.1.text x18.1.gaps x18.1.kids (Node.mk (14:Int) (⟨#[]⟩) x21 x23)
  else
   J5 x18.2.1 x18.1.kind x18.1.text x18.1.gaps x18.1.kids (Node.mk (14:Int) (⟨#[]⟩) ([]:LB) ([]:LN))
 partial_fixpoint
def Jd (a0:(List Token)) (a1:Int) (a2:Int) (a3:BA) (a4:LB) (a5:LN):Option (Node × Int × Bool):=
 yd (qa a0) (qa a1) (1:Int) >>=fun x28=>
 if (!x28.2.2)=true then
  some ((Node.mk 0 (⟨#[]⟩) ([]:LB) ([]:LN)),x28.2.1,false)
 else
  Qc (qa a0) x28.2.1 >>=fun x29=>
  if (!x29.2.2)=true then
   some ((Node.mk 0 (⟨#[]⟩) ([]:LB) ([]:LN)),x29.2.1,false)
  else
   app 72 a5 ([x28.1]) >>=fun x30=>
   app 72 x30 ([x29.1]) >>=fun x31=>
   some ((Node.mk a2 a3 a4 x31),x29.2.1,true)
 partial_fixpoint
def Q4 (t0:(List Token)) (t1:Int) (o1_0:Int) (o1_1:BA) (o1_2:LB) (o1_3:LN):Option (Node × Int × Bool):=
 yg (qa t0) (qa t1) (⟨#[125]⟩:BA) >>=fun x32=>
 if (!x32)=true then
  Zb (qa t0) (qa t1) >>=fun x33=>
  if (!x33.2.2)=true then
   some ((Node.mk 0 (⟨#[]⟩) ([]:LB) ([]:LN)),x33.2.1,false)
  else
   app 72 o1_3 ([x33.1]) >>=fun x34=>
   Q4 (qa t0) x33.2.1 (qa o1_0) (qa o1_1) (qa o1_2) (qa x34)
 else
  ix t0 t1 >>=fun x35=>
  app 16 o1_2 ([x35.Lead]) >>=fun x36=>
  some ((Node.mk o1_0 o1_1 x36 o1_3),(IntKind.i64.wrap (t1+(1:Int))),true)
 partial_fixpoint
end
@[reducible] def qix (a0:(List Token)) (a1:Int) (r:Node × Int × Bool):Prop:=
  Fn Tryz.prog G 138 [(.sl 4 false (a0.map Token.cells)),(.int .i64 a1)] (.tup [(.agg (zl r.1)),(.int .i64 r.2.1),(.bool r.2.2)])
@[reducible] def qc0 (a0:(List Token)) (a1:Int) (r:Node × Int × Bool):Prop:=
  Fn Tryz.prog G 170 [(.sl 4 false (a0.map Token.cells)),(.int .i64 a1)] (.tup [(.agg (zl r.1)),(.int .i64 r.2.1),(.bool r.2.2)])
@[reducible] def qgv (a0:(List Token)) (a1:Int) (r:Node × Int × Bool):Prop:=
  Fn Tryz.prog G 185 [(.sl 4 false (a0.map Token.cells)),(.int .i64 a1)] (.tup [(.agg (zl r.1)),(.int .i64 r.2.1),(.bool r.2.2)])
@[reducible] def qd8 (a0:(List Token)) (a1:Int) (a2:Int) (a3:BA) (a4:LB) (a5:LN) (r:Node × Int × Bool):Prop:=
  AC Tryz.prog G 186 [(.sl 4 false (a0.map Token.cells)),(.int .i64 a1),(.agg [(.int .i64 a2),(.str a3),(.sl 1 false (a4.map sc)),(.bs 4 0 0 0 a5.length)])] 2 [(0, .row 45 (a5.map Node.cells).flatten),(1, .row 45 [])] (.tup [(.agg [(.int .i64 r.1.kind),(.str r.1.text),(.sl 1 false (r.1.gaps.map sc)),(.bs 4 1 2 0 r.1.kids.length)]),(.int .i64 r.2.1),(.bool r.2.2)]) 3 [(0, .row 45 []),(2, .row 45 (r.1.kids.map Node.cells).flatten)]
@[reducible] def qd9 (t0:(List Token)) (t1:Int) (o1_0:Int) (o1_1:BA) (o1_2:LB) (o1_3:LN) (r:Node × Int × Bool):Prop:=
  Ok Tryz.prog G tt 65 0 (Ret Tryz.prog [.cell 4 45, .tmp 5, .tmp 6] (fun y H=>Told Tryz.prog G H y (.tup [(.agg (zl r.1)),(.int .i64 r.2.1),(.bool r.2.2)]))) (.again (je [] Tryz.f138 0).1 (je [] Tryz.f138 0).2 (.n (.sl 4 false (t0.map Token.cells)) (.n (.int .i64 t1) (.n .undef (.n (.ptr 1 1 0) .z .z) .z) .z) (.n .undef (.n (.ptr 0 0 0) .z .z) .z)) 4 [(0, .var 45 [(.int .i64 0),(.str ⟨#[]⟩),(.sl 0 true []),(.sl 0 true [])]),(1, .var 45 [(.int .i64 o1_0),(.str o1_1),(.bs 1 2 2 0 o1_2.length),(.bs 4 3 3 0 o1_3.length)]),(2, .row 9 (o1_2.map sc).flatten),(3, .row 45 (o1_3.map Node.cells).flatten)])
theorem Wx:PC2 qix Qc∧PC6 qd9 Q4∧PC2 qc0 Zb∧PC6 qd8 Jd∧PC2 qgv qdy:=by
 refine Qc.mutual_partial_correctness qix qd9 qc0 qd8 qgv (fun Q4 qaw a0 a1 r h=> ?_) (fun Q4 Zb qaw qhw t0 t1 o1_0 o1_1 o1_2 o1_3 r h=> ?_) (fun Jd qdy qav qlo a0 a1 r h=> ?_) (fun Qc qcb a0 a1 a2 a3 a4 a5 r h=> ?_) (fun Qc Jd qcb qav a0 a1 r h=> ?_)
 ·unfold qa at h
  refine zg (T:=tt) (N:=65) (rs:= [.cell 4 45, .tmp 5, .tmp 6]) (fun vs w=>by simp) Tryz.func138 rfl rfl rfl rfl (by kernel_rfl) (z7 rfl) (ze _ rfl) ?_
  refine kr [] ?_
  obtain ⟨x1,hx,h⟩:=bind_some h
  refine qk (j5 _ _ _ _ hx) ?_
  refine kr [] ?_
  refine qd (fun hb=> ?_) (fun hb=> ?_)
  ·replace h:=qu hb h
   refine kr [] ?_
   cases h
   exact zb env rfl rfl (zt (zw (qc (jo (qb (qj rfl) (qb (q8 rfl) (qb (q4 (.inr rfl)) (qb (q4 (.inr rfl)) jc))))) (qc (q5 (qj rfl) (by simp)) (qc (q5 (zf rfl) (by simp)) zk)))))
  replace h:=qv hb h
  refine kr [] ?_
  obtain ⟨x2,hx,h⟩:=bind_some h
  refine ja env hx rfl rfl rfl rfl rfl ?_
  refine kr [] ?_
  obtain ⟨x3,hx,h⟩:=bind_some h
  have hp_x3:=ju hx (by simp)
  refine W7 (C:=sc) env hx rfl (.inr rfl) rfl (by simp) rfl rfl rfl rfl rfl (by decide) rfl rfl ?_
  refine kr [] ?_
  refine qk8 1 3 4 45 rfl rfl rfl ?_
  exact jb (by kernel_rfl) lA (qaw _ _ _ _ _ _ _ h)
 ·unfold qa at h
  refine jm ?_
  refine kr [] ?_
  obtain ⟨x32,hx,h⟩:=bind_some h
  refine qk (j5 _ _ _ _ hx) ?_
  refine kr [] ?_
  refine qd (fun hb=> ?_) (fun hb=> ?_)
  ·replace h:=qu hb h
   refine kr [] ?_
   obtain ⟨x33,hx,h⟩:=bind_some h
   refine qk (qhw _ _ _ hx) ?_
   refine kr [] ?_
   refine qd (fun hb=> ?_) (fun hb=> ?_)
   ·replace h:=qu hb h
    refine kr [] ?_
    cases h
    exact zb env rfl rfl (zt (zw (qc (jo (qb (qj rfl) (qb (q8 rfl) (qb (q4 (.inr rfl)) (qb (q4 (.inr rfl)) jc))))) (qc (q5 (qj rfl) (by simp)) (qc (q5 (zf rfl) (by simp)) zk)))))
   replace h:=qv hb h
   refine kr [] ?_
   obtain ⟨x34,hx,h⟩:=bind_some h
   have hp_x34:=ju hx (by simp)
   refine y3 (C:=Node.cells) env hx rfl (show _=AV.sl _ _ (List.map Node.cells [x33.1]) from (by simp only [Ay,AN,Node.cells_eq];rfl)) (by simp) Node.cells_len rfl rfl rfl rfl rfl (by decide) rfl rfl rfl ?_
   refine kr [] ?_
   exact zx (by kernel_rfl) lA (qaw _ _ _ _ _ _ _ h)
  replace h:=qv hb h
  refine kr [] ?_
  obtain ⟨x35,hx,h⟩:=bind_some h
  refine ja env hx rfl rfl rfl rfl rfl ?_
  refine kr [] ?_
  obtain ⟨x36,hx,h⟩:=bind_some h
  have hp_x36:=ju hx (by simp)
  refine y3 (C:=sc) env hx rfl rfl (by simp) (fun _=>rfl) rfl rfl rfl rfl rfl (by decide) rfl rfl rfl ?_
  refine kr [] ?_
  cases h
  exact zb env rfl rfl (zt (zw (qc (jo (qb (qj rfl) (qb (q8 rfl) (qb (z8 yx rfl) (qb (z8 zo rfl) jc))))) (qc (q5 (qj rfl) (by simp)) (qc (q5 (zf rfl) (by simp)) zk)))))
 ·unfold qa at h
  refine zg (T:=tt) (N:=85) (rs:= [.cell 4 45, .tmp 5, .tmp 6]) (fun vs w=>by simp) Tryz.func170 rfl rfl rfl rfl (by kernel_rfl) (z7 rfl) (ze _ rfl) ?_
  refine kr [70] ?_
  obtain ⟨x4,hx,h⟩:=bind_some h
  refine qk (j5 _ _ _ _ hx) ?_
  refine kr [70] ?_
  refine qd (fun hb=> ?_) (fun hb=> ?_)
  ·replace h:=qu hb h
   refine kr [70] ?_
   obtain ⟨x5,hx,h⟩:=bind_some h
   refine qk (Fn.wk (qfq _ _ _ _ _ hx) (Ze (qer _) (Ze (qer _) (Ze (qer _) (Ze (qxw (.inl rfl)) qjm))))) ?_
   refine kr [70] ?_
   cases h
   exact kf
  replace h:=qv hb h
  refine kr [70] ?_
  obtain ⟨x6,hx,h⟩:=bind_some h
  refine qk (j5 _ _ _ _ hx) ?_
  refine kr [70] ?_
  refine qd (fun hb=> ?_) (fun hb=> ?_)
  ·replace h:=qu hb h
   refine kr [70] ?_
   obtain ⟨x7,hx,h⟩:=bind_some h
   refine ja env hx rfl rfl rfl rfl rfl ?_
   refine kr [70] ?_
   obtain ⟨x8,hx,h⟩:=bind_some h
   refine qr (ACalls.ghost (e:=45) (ACalls.wkg (AC.go (objs:= [(0, .var 45 [(.int .i64 0),(.str ⟨#[]⟩),(.sl 0 true []),(.sl 0 true [])]),(1, .row 45 (([]:LN).map Node.cells).flatten)]) (xs:= [(.sl 4 false (a0.map Token.cells)),(.int .i64 (IntKind.i64.wrap (a1+(1:Int)))),(.agg [(.int .i64 (12:Int)),(.str ⟨#[]⟩),(.sl 1 true (([x7.Lead]).map sc)),(.bs 4 1 1 0 ([]:LN).length)])]) (qqb _ _ _ _ _ _ _ hx) [1] [1] rfl rfl rfl rfl rfl rfl rfl rfl rfl) (qt (q7 _) (qt (za _) (qt (qkr (qp (q7 _) (qp (q7 _) (qp (q7 _) (qp (zq rfl) j8))))) jh))) (z6 _))) ?_
   refine kr [70] ?_
   cases h
   exact kf
  replace h:=qv hb h
  refine kr [70] ?_
  obtain ⟨x9,hx,h⟩:=bind_some h
  refine qk (j5 _ _ _ _ hx) ?_
  refine kr [70] ?_
  refine qd (fun hb=> ?_) (fun hb=> ?_)
  ·replace h:=qu hb h
   refine kr [70] ?_
   obtain ⟨x10,hx,h⟩:=bind_some h
   refine qk (qlo _ _ _ hx) ?_
   refine kr [70] ?_
   cases h
   exact kf
  replace h:=qv hb h
  refine kr [70] ?_
  obtain ⟨x11,hx,h⟩:=bind_some h
  refine qk (j5 _ _ _ _ hx) ?_
  refine kr [70] ?_
  refine qd (fun hb=> ?_) (fun hb=> ?_)
  ·replace h:=qu hb h
   refine kr [70] ?_
   obtain ⟨x12,hx,h⟩:=bind_some h
   refine ja env hx rfl rfl rfl rfl rfl ?_
   refine kr [70] ?_
   obtain ⟨x13,hx,h⟩:=bind_some h
   refine qr (ACalls.ghost (e:=45) (ACalls.ghost (e:=45) (ACalls.wkg (AC.go (objs:= [(0, .var 45 [(.int .i64 0),(.str ⟨#[]⟩),(.sl 0 true []),(.sl 0 true [])]),(1, .var 45 [(.int .i64 (15:Int)),(.str ⟨#[]⟩),(.sl 1 true (([x12.Lead]).map sc)),(.sl 0 true [])]),(2, .row 45 (([]:LN).map Node.cells).flatten),(3, .row 45 (([]:LN).map Node.cells).flatten)]) (xs:= [(.sl 4 false (a0.map Token.cells)),(.int .i64 (IntKind.i64.wrap (a1+(1:Int)))),(.agg [(.int .i64 (15:Int)),(.str ⟨#[]⟩),(.sl 1 false (([x12.Lead]).map sc)),(.bs 4 2 2 0 ([]:LN).length)])]) (qav _ _ _ _ _ _ _ hx) [2,3] [2,3] rfl rfl rfl rfl rfl rfl rfl rfl rfl) (qt (q7 _) (qt (za _) (qt (qkr (qp (q7 _) (qp (q7 _) (qp (qe7 (.inl rfl) (by simp)) (qp (zq rfl) j8))))) jh))) (z6 _)))) ?_
   refine kr [70] ?_
   cases h
   exact zb env rfl rfl (zt (zw (qc (jo (qb (qj rfl) (qb (q8 rfl) (qb (q4 (.inl rfl)) (qb (z8 zo rfl) jc))))) (qc (q5 (qj rfl) (by simp)) (qc (q5 (zf rfl) (by simp)) zk)))))
  replace h:=qv hb h
  refine kr [70] ?_
  obtain ⟨x14,hx,h⟩:=bind_some h
  refine qk (qdu _ _ _ hx) ?_
  refine kr [70] ?_
  refine qq (fun hb=> ?_) (fun hb=> ?_)
  ·replace h:=qu hb h
   refine kr [70] ?_
   obtain ⟨x15,hx,h⟩:=bind_some h
   refine qk (j5 _ _ _ _ hx) ?_
   refine kr [70] ?_
   refine qd (fun hb=> ?_) (fun hb=> ?_)
   ·replace h:=qu hb h
    refine kr [70] ?_
    obtain ⟨x16,hx,h⟩:=bind_some h
    refine qk (Fn.wk (qfq _ _ _ _ _ hx) (Ze (qer _) (Ze (qer _) (Ze (qer _) (Ze (qxw (.inl rfl)) qjm))))) ?_
    refine kr [70] ?_
    cases h
    exact kf
   replace h:=qv hb h
   refine kr [70] ?_
   exact q6 (by kernel_rfl) rfl lA (qdt _ _ _ h)
  replace h:=qv hb h
  refine kr [70] ?_
  exact q6 (by kernel_rfl) rfl lA (qdt _ _ _ h)
 ·unfold qa at h
  refine ⟨?_,(Qp zo rfl (qqm rfl ky)),(ka zo (W3 jd)),(qes (Ys zo kw)),(W3 (ka zo jd)),rfl,rfl,rfl,rfl⟩
  refine Qf (T:=tt) (N:=49) (rs:= [.cell 6 45, .tmp 7, .tmp 8]) (fun vs w=>by simp) Tryz.func186 rfl rfl rfl (by kernel_rfl) (by kernel_rfl) ?_
  refine kr [] ?_
  obtain ⟨x28,hx,h⟩:=bind_some h
  refine qk (ww _ _ _ _ hx) ?_
  refine kr [] ?_
  refine qd (fun hb=> ?_) (fun hb=> ?_)
  ·replace h:=qu hb h
   refine kr [] ?_
   cases h
   exact jt env rfl rfl (tS [none,none] (yv rfl rfl (yv rfl rfl zy)) (wm (zi (jz (qm (qe (qj rfl) rfl) (qm (qe (q8 rfl) rfl) (qm (qe (q4 (.inr rfl)) rfl) (qm (qg2 rfl rfl) jy))))) (zi (jk (qe (qj rfl) rfl) (by simp)) (zi (jk (qe (zf rfl) rfl) (by simp)) ke)))))
  replace h:=qv hb h
  refine kr [] ?_
  obtain ⟨x29,hx,h⟩:=bind_some h
  refine qk (qcb _ _ _ hx) ?_
  refine kr [] ?_
  refine qd (fun hb=> ?_) (fun hb=> ?_)
  ·replace h:=qu hb h
   refine kr [] ?_
   cases h
   exact jt env rfl rfl (tS [none,none] (yv rfl rfl (yv rfl rfl zy)) (wm (zi (jz (qm (qe (qj rfl) rfl) (qm (qe (q8 rfl) rfl) (qm (qe (q4 (.inr rfl)) rfl) (qm (qg2 rfl rfl) jy))))) (zi (jk (qe (qj rfl) rfl) (by simp)) (zi (jk (qe (zf rfl) rfl) (by simp)) ke)))))
  replace h:=qv hb h
  refine kr [] ?_
  obtain ⟨x30,hx,h⟩:=bind_some h
  have hp_x30:=ju hx (by simp)
  refine y3 (C:=Node.cells) env hx rfl (show _=AV.sl _ _ (List.map Node.cells [x28.1]) from (by simp only [Ay,AN,Node.cells_eq];rfl)) (by simp) Node.cells_len rfl rfl rfl rfl rfl (by decide) rfl rfl rfl ?_
  refine kr [] ?_
  obtain ⟨x31,hx,h⟩:=bind_some h
  have hp_x31:=ju hx (by simp)
  refine y3 (C:=Node.cells) env hx rfl (show _=AV.sl _ _ (List.map Node.cells [x29.1]) from (by simp only [Ay,AN,Node.cells_eq];rfl)) (by simp) Node.cells_len rfl rfl rfl rfl rfl (by decide) rfl rfl rfl ?_
  refine kr [] ?_
  cases h
  exact jt env rfl rfl (tS [none,some 0] (yv rfl rfl (sR zo zy)) (wm (zi (jz (qm (qe (qj rfl) rfl) (qm (qe (q8 rfl) rfl) (qm (qe (q4 (.inl rfl)) rfl) (qm (qm4 rfl rfl rfl) jy))))) (zi (jk (qe (qj rfl) rfl) (by simp)) (zi (jk (qe (zf rfl) rfl) (by simp)) ke)))))
 unfold qa at h
 refine zg (T:=tt) (N:=74) (rs:= [.cell 4 45, .tmp 5, .tmp 6]) (fun vs w=>by simp) Tryz.func185 rfl rfl rfl rfl (by kernel_rfl) (z7 rfl) (ze _ rfl) ?_
 refine kr [36] ?_
 obtain ⟨x17,hx,h⟩:=bind_some h
 refine ja env hx rfl rfl rfl rfl rfl ?_
 refine kr [36] ?_
 obtain ⟨x18,hx,h⟩:=bind_some h
 refine qr (ACalls.ghost (e:=45) (ACalls.ghost (e:=45) (ACalls.wkg (AC.go (objs:= [(0, .var 45 [(.int .i64 0),(.str ⟨#[]⟩),(.sl 0 true []),(.sl 0 true [])]),(1, .row 45 (([]:LN).map Node.cells).flatten),(2, .row 45 (([]:LN).map Node.cells).flatten)]) (xs:= [(.sl 4 false (a0.map Token.cells)),(.int .i64 (IntKind.i64.wrap (a1+(1:Int)))),(.agg [(.int .i64 (13:Int)),(.str ⟨#[]⟩),(.sl 1 false (([x17.Lead]).map sc)),(.bs 4 1 1 0 ([]:LN).length)])]) (qav _ _ _ _ _ _ _ hx) [1,2] [1,2] rfl rfl rfl rfl rfl rfl rfl rfl rfl) (qt (q7 _) (qt (za _) (qt (qkr (qp (q7 _) (qp (q7 _) (qp (qe7 (.inl rfl) (by simp)) (qp (zq rfl) j8))))) jh))) (z6 _)))) ?_
 refine kr [36] ?_
 refine qd (fun hb=> ?_) (fun hb=> ?_)
 ·replace h:=qu hb h
  refine kr [36] ?_
  cases h
  exact zb env rfl rfl (zt (zw (qc (jo (qb (qj rfl) (qb (q8 rfl) (qb (q4 (.inr rfl)) (qb (q4 (.inr rfl)) jc))))) (qc (q5 (qj rfl) (by simp)) (qc (q5 (zf rfl) (by simp)) zk)))))
 replace h:=qv hb h
 refine kr [36] ?_
 obtain ⟨x19,hx,h⟩:=bind_some h
 refine qk (j5 _ _ _ _ hx) ?_
 refine kr [36] ?_
 refine qd (fun hb=> ?_) (fun hb=> ?_)
 ·replace h:=qu hb h
  refine kr [36] ?_
  obtain ⟨x20,hx,h⟩:=bind_some h
  refine ja env hx rfl rfl rfl rfl rfl ?_
  refine kr [36] ?_
  obtain ⟨x21,hx,h⟩:=bind_some h
  have hp_x21:=ju hx (by simp)
  refine W7 (C:=sc) env hx rfl (.inr rfl) rfl (by simp) rfl rfl rfl rfl rfl (by decide) rfl rfl ?_
  refine kr [36] ?_
  obtain ⟨x22,hx,h⟩:=bind_some h
  refine qk (qcb _ _ _ hx) ?_
  refine kr [36] ?_
  refine qd (fun hb=> ?_) (fun hb=> ?_)
  ·replace h:=qu hb h
   refine kr [36] ?_
   cases h
   exact zb env rfl rfl (zt (zw (qc (jo (qb (qj rfl) (qb (q8 rfl) (qb (q4 (.inr rfl)) (qb (q4 (.inr rfl)) jc))))) (qc (q5 (qj rfl) (by simp)) (qc (q5 (zf rfl) (by simp)) zk)))))
  replace h:=qv hb h
  refine kr [36] ?_
  obtain ⟨x23,hx,h⟩:=bind_some h
  have hp_x23:=ju hx (by simp)
  refine W7 (C:=Node.cells) env hx rfl (.inr rfl) (show _=AV.sl _ _ (List.map Node.cells [x22.1]) from (by simp only [Ay,AN,Node.cells_eq];rfl)) (by simp) rfl rfl rfl rfl rfl (by decide) rfl rfl ?_
  refine kr [36] ?_
  refine Qg 4 2 5 yx rfl rfl rfl rfl rfl rfl ?_
  refine Qg 4 3 7 zo rfl rfl rfl rfl rfl rfl ?_
  exact q6 (by kernel_rfl) rfl lA (qgi _ _ _ _ _ _ _ h)
 replace h:=qv hb h
 refine kr [36] ?_
 exact q6 (by kernel_rfl) rfl lA (qgi _ _ _ _ _ _ _ h)
theorem qcb:PC2 qix Qc:=Wx.1
theorem qaw:PC6 qd9 Q4:=Wx.2.1
theorem qhw:PC2 qc0 Zb:=Wx.2.2.1
theorem qav:PC6 qd8 Jd:=Wx.2.2.2.1
theorem qlo:PC2 qgv qdy:=Wx.2.2.2.2
def Yn (a0:(List Token)) (a1:Int):Option (Node × Int × Bool):=
 vd a0 a1 ([(⟨#[102,110]⟩:BA),(⟨#[]⟩:BA)]) >>=fun x1=>
 if (!x1.2.2)=true then
  some ((Node.mk 0 (⟨#[]⟩) ([]:LB) ([]:LN)),x1.2.1,false)
 else
  ix a0 (IntKind.i64.wrap (x1.2.1 - (1:Int))) >>=fun x2=>
  qbi a0 x1.2.1 >>=fun x3=>
  if (!x3.2.2)=true then
   some ((Node.mk 0 (⟨#[]⟩) ([]:LB) ([]:LN)),x3.2.1,false)
  else
   qa6 a0 x3.2.1 >>=fun x4=>
   if (!x4.2.2)=true then
    some ((Node.mk 0 (⟨#[]⟩) ([]:LB) ([]:LN)),x4.2.1,false)
   else
    Qc a0 x4.2.1 >>=fun x5=>
    if (!x5.2.2)=true then
     some ((Node.mk 0 (⟨#[]⟩) ([]:LB) ([]:LN)),x5.2.1,false)
    else
     app 72 ([]:LN) ([x3.1]) >>=fun x6=>
     app 72 x6 ([x4.1]) >>=fun x7=>
     app 72 x7 ([x5.1]) >>=fun x8=>
     some ((Node.mk (2:Int) x2.Text x1.1 x8),x5.2.1,true)
@[reducible] def qp3 (a0:(List Token)) (a1:Int) (r:Node × Int × Bool):Prop:=
  Fn Tryz.prog G 102 [(.sl 4 false (a0.map Token.cells)),(.int .i64 a1)] (.tup [(.agg (zl r.1)),(.int .i64 r.2.1),(.bool r.2.2)])
theorem qja:PC2 qp3 Yn:=fun a0 a1 r h=>by
 rw [Yn.eq_def] at h
 refine zg (T:=tt) (N:=87) (rs:= [.cell 4 45, .tmp 5, .tmp 6]) (fun vs w=>by simp) Tryz.func102 rfl rfl rfl rfl (by kernel_rfl) (z7 rfl) (ze _ rfl) ?_
 refine kr [] ?_
 obtain ⟨x1,hx,h⟩:=bind_some h
 refine qr (ACalls.ghost (e:=9) (ACalls.wkg (AC.go (objs:= [(0, .var 45 [(.int .i64 0),(.str ⟨#[]⟩),(.sl 0 true []),(.sl 0 true [])]),(1, .row 9 (([]:LB).map sc).flatten)]) (xs:= [(.sl 4 false (a0.map Token.cells)),(.int .i64 a1),(.sl 1 false (([(⟨#[102,110]⟩:BA),(⟨#[]⟩:BA)]).map sc))]) (Yz _ _ _ _ hx) [1] [1] rfl rfl rfl rfl rfl rfl rfl rfl rfl) (qt (q7 _) (qt (za _) (qt (qe7 (.inl rfl) (by simp)) jh))) (z6 _))) ?_
 refine kr [] ?_
 refine qd (fun hb=> ?_) (fun hb=> ?_)
 ·replace h:=qu hb h
  refine kr [] ?_
  cases h
  exact zb env rfl rfl (zt (zw (qc (jo (qb (qj rfl) (qb (q8 rfl) (qb (q4 (.inr rfl)) (qb (q4 (.inr rfl)) jc))))) (qc (q5 (qj rfl) (by simp)) (qc (q5 (zf rfl) (by simp)) zk)))))
 replace h:=qv hb h
 refine kr [] ?_
 obtain ⟨x2,hx,h⟩:=bind_some h
 refine ja env hx rfl rfl rfl rfl rfl ?_
 refine kr [] ?_
 obtain ⟨x3,hx,h⟩:=bind_some h
 refine qk (qt3 _ _ _ hx) ?_
 refine kr [] ?_
 refine qd (fun hb=> ?_) (fun hb=> ?_)
 ·replace h:=qu hb h
  refine kr [] ?_
  cases h
  exact zb env rfl rfl (zt (zw (qc (jo (qb (qj rfl) (qb (q8 rfl) (qb (q4 (.inr rfl)) (qb (q4 (.inr rfl)) jc))))) (qc (q5 (qj rfl) (by simp)) (qc (q5 (zf rfl) (by simp)) zk)))))
 replace h:=qv hb h
 refine kr [] ?_
 obtain ⟨x4,hx,h⟩:=bind_some h
 refine qk (qod _ _ _ hx) ?_
 refine kr [] ?_
 refine qd (fun hb=> ?_) (fun hb=> ?_)
 ·replace h:=qu hb h
  refine kr [] ?_
  cases h
  exact zb env rfl rfl (zt (zw (qc (jo (qb (qj rfl) (qb (q8 rfl) (qb (q4 (.inr rfl)) (qb (q4 (.inr rfl)) jc))))) (qc (q5 (qj rfl) (by simp)) (qc (q5 (zf rfl) (by simp)) zk)))))
 replace h:=qv hb h
 refine kr [] ?_
 obtain ⟨x5,hx,h⟩:=bind_some h
 refine qk (qcb _ _ _ hx) ?_
 refine kr [] ?_
 refine qd (fun hb=> ?_) (fun hb=> ?_)
 ·replace h:=qu hb h
  refine kr [] ?_
  cases h
  exact zb env rfl rfl (zt (zw (qc (jo (qb (qj rfl) (qb (q8 rfl) (qb (q4 (.inr rfl)) (qb (q4 (.inr rfl)) jc))))) (qc (q5 (qj rfl) (by simp)) (qc (q5 (zf rfl) (by simp)) zk)))))
 replace h:=qv hb h
 refine kr [] ?_
 obtain ⟨x6,hx,h⟩:=bind_some h
 have hp_x6:=ju hx (by simp)
 refine W7 (C:=Node.cells) env hx rfl (.inr rfl) (show _=AV.sl _ _ (List.map Node.cells [x3.1]) from (by simp only [Ay,AN,Node.cells_eq];rfl)) (by simp) rfl rfl rfl rfl rfl (by decide) rfl rfl ?_
 refine kr [] ?_
 obtain ⟨x7,hx,h⟩:=bind_some h
 have hp_x7:=ju hx (by simp)
 refine y3 (C:=Node.cells) env hx rfl (show _=AV.sl _ _ (List.map Node.cells [x4.1]) from (by simp only [Ay,AN,Node.cells_eq];rfl)) (by simp) Node.cells_len rfl rfl rfl rfl rfl (by decide) rfl rfl rfl ?_
 refine kr [] ?_
 obtain ⟨x8,hx,h⟩:=bind_some h
 have hp_x8:=ju hx (by simp)
 refine y3 (C:=Node.cells) env hx rfl (show _=AV.sl _ _ (List.map Node.cells [x5.1]) from (by simp only [Ay,AN,Node.cells_eq];rfl)) (by simp) Node.cells_len rfl rfl rfl rfl rfl (by decide) rfl rfl rfl ?_
 refine kr [] ?_
 cases h
 exact zb env rfl rfl (zt (zw (qc (jo (qb (qj rfl) (qb (q8 rfl) (qb (z8 yx rfl) (qb (z8 zo rfl) jc))))) (qc (q5 (qj rfl) (by simp)) (qc (q5 (zf rfl) (by simp)) zk)))))
def Je (t0:(List Token)) (t8:Int) (o2_0:Int) (o2_1:BA) (o2_2:LB) (o2_3:LN):Option (Node × Int × Bool):=
 yg (qa t0) (qa t8) (⟨#[102,110]⟩:BA) >>=fun x10=>
 if x10=true then
  Yn (qa t0) (qa t8) >>=fun x11=>
  if (!x11.2.2)=true then
   some ((Node.mk 0 (⟨#[]⟩) ([]:LB) ([]:LN)),x11.2.1,false)
  else
   app 72 o2_3 ([x11.1]) >>=fun x12=>
   Je (qa t0) x11.2.1 (qa o2_0) (qa o2_1) (qa o2_2) (qa x12)
 else
  yg (qa t0) (qa t8) (⟨#[125]⟩:BA) >>=fun x13=>
  if (!x13)=true then
   some ((Node.mk 0 (⟨#[]⟩) ([]:LB) ([]:LN)),t8,false)
  else
   ix t0 t8 >>=fun x14=>
   app 16 o2_2 ([x14.Lead]) >>=fun x15=>
   some ((Node.mk o2_0 o2_1 x15 o2_3),(IntKind.i64.wrap (t8+(1:Int))),true)
 partial_fixpoint
@[reducible] def qi6 (t0:(List Token)) (t8:Int) (o2_0:Int) (o2_1:BA) (o2_2:LB) (o2_3:LN) (r:Node × Int × Bool):Prop:=
  Ok Tryz.prog G tt 124 0 (Ret Tryz.prog [.cell 4 45, .tmp 5, .tmp 6] (fun y H=>Told Tryz.prog G H y (.tup [(.agg (zl r.1)),(.int .i64 r.2.1),(.bool r.2.2)]))) (.again (je [38] Tryz.f103 0).1 (je [38] Tryz.f103 0).2 (.n (.sl 4 false (t0.map Token.cells)) .z (.n .undef (.n (.ptr 0 0 0) (.n (.int .i64 t8) .z .z) .z) (.n .undef (.n (.ptr 2 3 0) .z .z) .z))) 10 [(0, .var 45 [(.int .i64 0),(.str ⟨#[]⟩),(.sl 0 true []),(.sl 0 true [])]),(9, .row 9 (o2_2.map sc).flatten),(3, .var 45 [(.int .i64 o2_0),(.str o2_1),(.bs 1 1 9 0 o2_2.length),(.bs 4 5 8 0 o2_3.length)]),(4, .dead),(6, .dead),(8, .row 45 (o2_3.map Node.cells).flatten)])
theorem qef:PC6 qi6 Je:=by
 refine Je.partial_correctness qi6 (fun Je qef t0 t8 o2_0 o2_1 o2_2 o2_3 r h=> ?_)
 unfold qa at h
 refine jm ?_
 refine kr [38] ?_
 obtain ⟨x10,hx,h⟩:=bind_some h
 refine qk (j5 _ _ _ _ hx) ?_
 refine kr [38] ?_
 refine qd (fun hb=> ?_) (fun hb=> ?_)
 ·replace h:=qu hb h
  refine kr [38] ?_
  obtain ⟨x11,hx,h⟩:=bind_some h
  refine qk (qja _ _ _ hx) ?_
  refine kr [38] ?_
  refine qd (fun hb=> ?_) (fun hb=> ?_)
  ·replace h:=qu hb h
   refine kr [38] ?_
   cases h
   exact zb env rfl rfl (zt (zw (qc (jo (qb (qj rfl) (qb (q8 rfl) (qb (q4 (.inr rfl)) (qb (q4 (.inr rfl)) jc))))) (qc (q5 (qj rfl) (by simp)) (qc (q5 (zf rfl) (by simp)) zk)))))
  replace h:=qv hb h
  refine kr [38] ?_
  obtain ⟨x12,hx,h⟩:=bind_some h
  have hp_x12:=ju hx (by simp)
  refine y3 (C:=Node.cells) env hx rfl (show _=AV.sl _ _ (List.map Node.cells [x11.1]) from (by simp only [Ay,AN,Node.cells_eq];rfl)) (by simp) Node.cells_len rfl rfl rfl rfl rfl (by decide) rfl rfl rfl ?_
  refine kr [38] ?_
  exact zx (by kernel_rfl) lA (qef _ _ _ _ _ _ _ h)
 replace h:=qv hb h
 refine kr [38] ?_
 obtain ⟨x13,hx,h⟩:=bind_some h
 refine qk (j5 _ _ _ _ hx) ?_
 refine kr [38] ?_
 refine qd (fun hb=> ?_) (fun hb=> ?_)
 ·replace h:=qu hb h
  refine kr [38] ?_
  cases h
  exact zb env rfl rfl (zt (zw (qc (jo (qb (qj rfl) (qb (q8 rfl) (qb (q4 (.inr rfl)) (qb (q4 (.inr rfl)) jc))))) (qc (q5 (qj rfl) (by simp)) (qc (q5 (zf rfl) (by simp)) zk)))))
 replace h:=qv hb h
 refine kr [38] ?_
 obtain ⟨x14,hx,h⟩:=bind_some h
 refine ja env hx rfl rfl rfl rfl rfl ?_
 refine kr [38] ?_
 obtain ⟨x15,hx,h⟩:=bind_some h
 have hp_x15:=ju hx (by simp)
 refine y3 (C:=sc) env hx rfl rfl (by simp) (fun _=>rfl) rfl rfl rfl rfl rfl (by decide) rfl rfl rfl ?_
 refine kr [38] ?_
 cases h
 exact zb env rfl rfl (zt (zw (qc (jo (qb (qj rfl) (qb (q8 rfl) (qb (z8 yx rfl) (qb (z8 zo rfl) jc))))) (qc (q5 (qj rfl) (by simp)) (qc (q5 (zf rfl) (by simp)) zk)))))
def u5 (t0:(List Token)) (t8:Int) (o2_0:Int) (o2_1:BA) (o2_2:LB) (o2_3:LN) (o3:Node):Option (Node × Int × Bool):=
 app 72 o2_3 ([o3]) >>=fun x6=>
 yg t0 t8 (⟨#[123]⟩:BA) >>=fun x7=>
 if (!x7)=true then
  some ((Node.mk 0 (⟨#[]⟩) ([]:LB) ([]:LN)),t8,false)
 else
  ix t0 t8 >>=fun x8=>
  app 16 o2_2 ([x8.Lead]) >>=fun x9=>
  Je t0 (IntKind.i64.wrap (t8+(1:Int))) o2_0 o2_1 x9 x6
@[reducible] def qo5 (t0:(List Token)) (t8:Int) (o2_0:Int) (o2_1:BA) (o2_2:LB) (o2_3:LN) (o3:Node) (r:Node × Int × Bool):Prop:=
  Ok Tryz.prog G tt 124 0 (Ret Tryz.prog [.cell 4 45, .tmp 5, .tmp 6] (fun y H=>Told Tryz.prog G H y (.tup [(.agg (zl r.1)),(.int .i64 r.2.1),(.bool r.2.2)]))) (.go [] (vf [38] Tryz.f103 38) [] (.n (.sl 4 false (t0.map Token.cells)) (.n .undef (.n .undef .z (.n (.ptr 3 4 0) .z .z)) .z) (.n .undef (.n (.ptr 0 0 0) (.n (.int .i64 t8) .z .z) .z) (.n .undef (.n (.ptr 2 3 0) .z .z) .z))) 8 [(0, .var 45 [(.int .i64 0),(.str ⟨#[]⟩),(.sl 0 true []),(.sl 0 true [])]),(2, .row 9 (o2_2.map sc).flatten),(3, .var 45 [(.int .i64 o2_0),(.str o2_1),(.bs 1 1 2 0 o2_2.length),(.bs 4 5 7 0 o2_3.length)]),(4, .var 45 (zl o3)),(6, .dead),(7, .row 45 (o2_3.map Node.cells).flatten)])
theorem qhy:PC7 qo5 u5:=fun t0 t8 o2_0 o2_1 o2_2 o2_3 o3 r h=>by
 rw [u5.eq_def] at h
 refine kr [38] ?_
 obtain ⟨x6,hx,h⟩:=bind_some h
 have hp_x6:=ju hx (by simp)
 refine y3 (C:=Node.cells) env hx rfl (show _=AV.sl _ _ (List.map Node.cells [o3]) from (by simp only [Ay,AN,Node.cells_eq];rfl)) (by simp) Node.cells_len rfl rfl rfl rfl rfl (by decide) rfl rfl rfl ?_
 refine kr [38] ?_
 obtain ⟨x7,hx,h⟩:=bind_some h
 refine qk (j5 _ _ _ _ hx) ?_
 refine kr [38] ?_
 refine qd (fun hb=> ?_) (fun hb=> ?_)
 ·replace h:=qu hb h
  refine kr [38] ?_
  cases h
  exact zb env rfl rfl (zt (zw (qc (jo (qb (qj rfl) (qb (q8 rfl) (qb (q4 (.inr rfl)) (qb (q4 (.inr rfl)) jc))))) (qc (q5 (qj rfl) (by simp)) (qc (q5 (zf rfl) (by simp)) zk)))))
 replace h:=qv hb h
 refine kr [38] ?_
 obtain ⟨x8,hx,h⟩:=bind_some h
 refine ja env hx rfl rfl rfl rfl rfl ?_
 refine kr [38] ?_
 obtain ⟨x9,hx,h⟩:=bind_some h
 have hp_x9:=ju hx (by simp)
 refine y3 (C:=sc) env hx rfl rfl (by simp) (fun _=>rfl) rfl rfl rfl rfl rfl (by decide) rfl rfl rfl ?_
 refine kr [38] ?_
 exact jb (by kernel_rfl) lA (qef _ _ _ _ _ _ _ h)
def qdb (a0:(List Token)) (a1:Int):Option (Node × Int × Bool):=
 vd a0 a1 ([(⟨#[99,108,97,115,115]⟩:BA),(⟨#[]⟩:BA)]) >>=fun x1=>
 if (!x1.2.2)=true then
  some ((Node.mk 0 (⟨#[]⟩) ([]:LB) ([]:LN)),x1.2.1,false)
 else
  ix a0 (IntKind.i64.wrap (x1.2.1 - (1:Int))) >>=fun x2=>
  yg a0 x1.2.1 (⟨#[58]⟩:BA) >>=fun x3=>
  if x3=true then
   vd a0 x1.2.1 ([(⟨#[58]⟩:BA),(⟨#[]⟩:BA)]) >>=fun x4=>
   if (!x4.2.2)=true then
    some ((Node.mk 0 (⟨#[]⟩) ([]:LB) ([]:LN)),x4.2.1,false)
   else
    ix a0 (IntKind.i64.wrap (x4.2.1 - (1:Int))) >>=fun x5=>
    u5 a0 x4.2.1 (7:Int) x2.Text x1.1 ([]:LN) (Node.mk (8:Int) x5.Text x4.1 ([]:LN))
  else
   u5 a0 x1.2.1 (7:Int) x2.Text x1.1 ([]:LN) (Node.mk (8:Int) (⟨#[]⟩) ([]:LB) ([]:LN))
@[reducible] def qw4 (a0:(List Token)) (a1:Int) (r:Node × Int × Bool):Prop:=
  Fn Tryz.prog G 103 [(.sl 4 false (a0.map Token.cells)),(.int .i64 a1)] (.tup [(.agg (zl r.1)),(.int .i64 r.2.1),(.bool r.2.2)])
theorem qxb:PC2 qw4 qdb:=fun a0 a1 r h=>by
 rw [qdb.eq_def] at h
 refine zg (T:=tt) (N:=124) (rs:= [.cell 4 45, .tmp 5, .tmp 6]) (fun vs w=>by simp) Tryz.func103 rfl rfl rfl rfl (by kernel_rfl) (z7 rfl) (ze _ rfl) ?_
 refine kr [38] ?_
 obtain ⟨x1,hx,h⟩:=bind_some h
 refine qr (ACalls.ghost (e:=9) (ACalls.wkg (AC.go (objs:= [(0, .var 45 [(.int .i64 0),(.str ⟨#[]⟩),(.sl 0 true []),(.sl 0 true [])]),(1, .row 9 (([]:LB).map sc).flatten)]) (xs:= [(.sl 4 false (a0.map Token.cells)),(.int .i64 a1),(.sl 1 false (([(⟨#[99,108,97,115,115]⟩:BA),(⟨#[]⟩:BA)]).map sc))]) (Yz _ _ _ _ hx) [1] [1] rfl rfl rfl rfl rfl rfl rfl rfl rfl) (qt (q7 _) (qt (za _) (qt (qe7 (.inl rfl) (by simp)) jh))) (z6 _))) ?_
 refine kr [38] ?_
 refine qd (fun hb=> ?_) (fun hb=> ?_)
 ·replace h:=qu hb h
  refine kr [38] ?_
  cases h
  exact zb env rfl rfl (zt (zw (qc (jo (qb (qj rfl) (qb (q8 rfl) (qb (q4 (.inr rfl)) (qb (q4 (.inr rfl)) jc))))) (qc (q5 (qj rfl) (by simp)) (qc (q5 (zf rfl) (by simp)) zk)))))
 replace h:=qv hb h
 refine kr [38] ?_
 obtain ⟨x2,hx,h⟩:=bind_some h
 refine ja env hx rfl rfl rfl rfl rfl ?_
 refine kr [38] ?_
 obtain ⟨x3,hx,h⟩:=bind_some h
 refine qk (j5 _ _ _ _ hx) ?_
 refine kr [38] ?_
 refine qd (fun hb=> ?_) (fun hb=> ?_)
 ·replace h:=qu hb h
  refine kr [38] ?_
  obtain ⟨x4,hx,h⟩:=bind_some h
  refine qr (ACalls.ghost (e:=9) (ACalls.wkg (AC.go (objs:= [(0, .var 45 [(.int .i64 0),(.str ⟨#[]⟩),(.sl 0 true []),(.sl 0 true [])]),(2, .row 9 (x1.1.map sc).flatten),(3, .var 45 [(.int .i64 (7:Int)),(.str x2.Text),(.bs 1 1 2 0 x1.1.length),(.sl 0 true [])]),(4, .var 45 [(.int .i64 (8:Int)),(.str ⟨#[]⟩),(.sl 0 true []),(.sl 0 true [])]),(5, .row 9 (([]:LB).map sc).flatten)]) (xs:= [(.sl 4 false (a0.map Token.cells)),(.int .i64 x1.2.1),(.sl 1 false (([(⟨#[58]⟩:BA),(⟨#[]⟩:BA)]).map sc))]) (Yz _ _ _ _ hx) [4] [5] rfl rfl rfl rfl rfl rfl rfl rfl rfl) (qt (q7 _) (qt (za _) (qt (qe7 (.inl rfl) (by simp)) jh))) (z6 _))) ?_
  refine kr [38] ?_
  refine qd (fun hb=> ?_) (fun hb=> ?_)
  ·replace h:=qu hb h
   refine kr [38] ?_
   cases h
   exact zb env rfl rfl (zt (zw (qc (jo (qb (qj rfl) (qb (q8 rfl) (qb (q4 (.inr rfl)) (qb (q4 (.inr rfl)) jc))))) (qc (q5 (qj rfl) (by simp)) (qc (q5 (zf rfl) (by simp)) zk)))))
  replace h:=qv hb h
  refine kr [38] ?_
  obtain ⟨x5,hx,h⟩:=bind_some h
  refine ja env hx rfl rfl rfl rfl rfl ?_
  refine kr [38] ?_
  refine qzs 2 3 4 45 rfl rfl rfl rfl ?_
  refine Qg 3 2 4 yx rfl rfl rfl rfl rfl rfl ?_
  exact q6 (by kernel_rfl) rfl lA (qhy _ _ _ _ _ _ _ _ h)
 replace h:=qv hb h
 refine kr [38] ?_
 refine qzs 2 3 4 45 rfl rfl rfl rfl ?_
 exact q6 (by kernel_rfl) rfl (qoq [some 0,some 1,some 2,some 3,none,some 4] rfl rfl rfl (by simp [Reader.cells,Token.cells] <;> (repeat' apply Bz) <;> first | rfl | exact fun x a _ h=>(zo.all a x h).2 | exact fun x a _ h=>(yx.all a x h).2) (qlz rfl rfl (Kw rfl rfl (Kw rfl rfl (Kw rfl rfl (Kw rfl rfl qr1)))) (qcr yx rfl rfl (qlz rfl rfl (Kw rfl rfl (Kw rfl rfl (Kw rfl rfl (Kw rfl rfl qr1)))) (qlz rfl rfl (Kw rfl rfl (Kw rfl rfl (q2k (.inr rfl) rfl (q2k (.inr rfl) rfl qr1)))) (qkw rfl (qcr zo rfl rfl ql0))))))) (qhy _ _ _ _ _ _ _ _ h)
def qk9 (a0:(List Token)) (a1:Int):Option (Node × Int × Bool):=
 yg a0 a1 (⟨#[102,110]⟩:BA) >>=fun x1=>
 if x1=true then
  Yn a0 a1 >>=fun x2=>
  some (x2.1,x2.2.1,x2.2.2)
 else
  yg a0 a1 (⟨#[99,108,97,115,115]⟩:BA) >>=fun x3=>
  if x3=true then
   qdb a0 a1 >>=fun x4=>
   some (x4.1,x4.2.1,x4.2.2)
  else
   yg a0 a1 (⟨#[99,111,110,115,116]⟩:BA) >>=fun x5=>
   if x5=true then
    Z8 a0 a1 (9:Int) ([(⟨#[99,111,110,115,116]⟩:BA),(⟨#[]⟩:BA),(⟨#[61]⟩:BA)]) >>=fun x6=>
    some (x6.1,x6.2.1,x6.2.2)
   else
    some ((Node.mk 0 (⟨#[]⟩) ([]:LB) ([]:LN)),a1,false)
@[reducible] def qzw (a0:(List Token)) (a1:Int) (r:Node × Int × Bool):Prop:=
  Fn Tryz.prog G 67 [(.sl 4 false (a0.map Token.cells)),(.int .i64 a1)] (.tup [(.agg (zl r.1)),(.int .i64 r.2.1),(.bool r.2.2)])
theorem qz2:PC2 qzw qk9:=fun a0 a1 r h=>by
 rw [qk9.eq_def] at h
 refine zg (T:=tt) (N:=37) (rs:= [.cell 4 45, .tmp 5, .tmp 6]) (fun vs w=>by simp) Tryz.func67 rfl rfl rfl rfl (by kernel_rfl) (z7 rfl) (ze _ rfl) ?_
 refine kr [] ?_
 obtain ⟨x1,hx,h⟩:=bind_some h
 refine qk (j5 _ _ _ _ hx) ?_
 refine kr [] ?_
 refine qd (fun hb=> ?_) (fun hb=> ?_)
 ·replace h:=qu hb h
  refine kr [] ?_
  obtain ⟨x2,hx,h⟩:=bind_some h
  refine qk (qja _ _ _ hx) ?_
  refine kr [] ?_
  cases h
  exact kf
 replace h:=qv hb h
 refine kr [] ?_
 obtain ⟨x3,hx,h⟩:=bind_some h
 refine qk (j5 _ _ _ _ hx) ?_
 refine kr [] ?_
 refine qd (fun hb=> ?_) (fun hb=> ?_)
 ·replace h:=qu hb h
  refine kr [] ?_
  obtain ⟨x4,hx,h⟩:=bind_some h
  refine qk (qxb _ _ _ hx) ?_
  refine kr [] ?_
  cases h
  exact kf
 replace h:=qv hb h
 refine kr [] ?_
 obtain ⟨x5,hx,h⟩:=bind_some h
 refine qk (j5 _ _ _ _ hx) ?_
 refine kr [] ?_
 refine qd (fun hb=> ?_) (fun hb=> ?_)
 ·replace h:=qu hb h
  refine kr [] ?_
  obtain ⟨x6,hx,h⟩:=bind_some h
  refine qk (Fn.wk (qfq _ _ _ _ _ hx) (Ze (qer _) (Ze (qer _) (Ze (qer _) (Ze (qxw (.inl rfl)) qjm))))) ?_
  refine kr [] ?_
  cases h
  exact kf
 replace h:=qv hb h
 refine kr [] ?_
 cases h
 exact zb env rfl rfl (zt (zw (qc (jo (qb (qj rfl) (qb (q8 rfl) (qb (q4 (.inr rfl)) (qb (q4 (.inr rfl)) jc))))) (qc (q5 (qj rfl) (by simp)) (qc (q5 (zf rfl) (by simp)) zk)))))
def qcg (a0:Node):Option (Node × Int × Int):=
 qi0 a0 >>=fun x1=>
 if (decide (x1=(3:Int)))=true then
  some ((Node.mk 0 (⟨#[]⟩) ([]:LB) ([]:LN)),(3:Int),(0:Int))
 else
  some (a0,(0:Int),(0:Int))
@[reducible] def qs1 (a0:Node) (r:Node × Int × Int):Prop:=
  Fn Tryz.prog G 68 [(.agg (zl a0))] (.tup [(.agg (zl r.1)),(.int .i64 r.2.1),(.int .i64 r.2.2)])
theorem qs8:PC1 qs1 qcg:=fun a0 r h=>by
 rw [qcg.eq_def] at h
 refine zg (T:=tt) (N:=10) (rs:= [.cell 2 45, .tmp 3, .tmp 4]) (fun vs w=>by simp) Tryz.func68 rfl rfl rfl rfl (by kernel_rfl) (z7 rfl) (ze _ rfl) ?_
 refine kr [] ?_
 obtain ⟨x1,hx,h⟩:=bind_some h
 refine qk (qxc _ _ hx) ?_
 refine kr [] ?_
 refine qd (fun hb=> ?_) (fun hb=> ?_)
 ·replace h:=qu hb h
  refine kr [] ?_
  cases h
  exact zb env rfl rfl (zt (zw (qc (jo (qb (qj rfl) (qb (q8 rfl) (qb (q4 (.inr rfl)) (qb (q4 (.inr rfl)) jc))))) (qc (q5 (qj rfl) (by simp)) (qc (q5 (qj rfl) (by simp)) zk)))))
 replace h:=qv hb h
 refine kr [] ?_
 cases h
 exact kf
def Yf (t5:(List Token)) (t9:Int) (o1_0:Int) (o1_1:BA) (o1_2:LB) (o1_3:LN):Option (Node × Int × Int):=
 if (decide (t9 < (IntKind.i64.wrap (((t5.map Token.cells).length:Int) - (1:Int)))))=true then
  qk9 (qa t5) (qa t9) >>=fun x2=>
  if (!x2.2.2)=true then
   ix t5 x2.2.1 >>=fun x3=>
   some ((Node.mk 0 (⟨#[]⟩) ([]:LB) ([]:LN)),(1:Int),x3.At)
  else
   app 72 o1_3 ([x2.1]) >>=fun x4=>
   Yf (qa t5) x2.2.1 (qa o1_0) (qa o1_1) (qa o1_2) (qa x4)
 else
  ix t5 t9 >>=fun x5=>
  app 16 o1_2 ([x5.Lead]) >>=fun x6=>
  qcg (Node.mk o1_0 o1_1 x6 o1_3) >>=fun x7=>
  some (x7.1,x7.2.1,x7.2.2)
 partial_fixpoint
@[reducible] def qkh (t5:(List Token)) (t9:Int) (o1_0:Int) (o1_1:BA) (o1_2:LB) (o1_3:LN) (r:Node × Int × Int):Prop:=
  Ok Tryz.prog G tt 67 0 (Ret Tryz.prog [.cell 2 45, .tmp 3, .tmp 4] (fun y H=>Told Tryz.prog G H y (.tup [(.agg (zl r.1)),(.int .i64 r.2.1),(.int .i64 r.2.2)]))) (.again (je [2000012] Tryz.f43 0).1 (je [2000012] Tryz.f43 0).2 (.n .undef (.n .undef .z (.n (.sl 4 false (t5.map Token.cells)) (.n (.int .i64 t9) .z .z) .z)) (.n (.ptr 0 0 0) (.n .undef (.n (.ptr 1 1 0) .z .z) .z) .z)) 4 [(0, .var 45 [(.int .i64 0),(.str ⟨#[]⟩),(.sl 0 true []),(.sl 0 true [])]),(1, .var 45 [(.int .i64 o1_0),(.str o1_1),(.bs 1 2 2 0 o1_2.length),(.bs 4 3 3 0 o1_3.length)]),(2, .row 9 (o1_2.map sc).flatten),(3, .row 45 (o1_3.map Node.cells).flatten)])
theorem qft:PC6 qkh Yf:=by
 refine Yf.partial_correctness qkh (fun Yf qft t5 t9 o1_0 o1_1 o1_2 o1_3 r h=> ?_)
 unfold qa at h
 refine jm ?_
 refine kr [2000012] ?_
 refine qd (fun hb=> ?_) (fun hb=> ?_)
 ·replace h:=qu hb h
  refine kr [2000012] ?_
  obtain ⟨x2,hx,h⟩:=bind_some h
  refine qk (qz2 _ _ _ hx) ?_
  refine kr [2000012] ?_
  refine qd (fun hb=> ?_) (fun hb=> ?_)
  ·replace h:=qu hb h
   refine kr [2000012] ?_
   obtain ⟨x3,hx,h⟩:=bind_some h
   refine ja env hx rfl rfl rfl rfl rfl ?_
   refine kr [2000012] ?_
   cases h
   exact zb env rfl rfl (zt (zw (qc (jo (qb (qj rfl) (qb (q8 rfl) (qb (q4 (.inr rfl)) (qb (q4 (.inr rfl)) jc))))) (qc (q5 (qj rfl) (by simp)) (qc (q5 (qj rfl) (by simp)) zk)))))
  replace h:=qv hb h
  refine kr [2000012] ?_
  obtain ⟨x4,hx,h⟩:=bind_some h
  have hp_x4:=ju hx (by simp)
  refine y3 (C:=Node.cells) env hx rfl (show _=AV.sl _ _ (List.map Node.cells [x2.1]) from (by simp only [Ay,AN,Node.cells_eq];rfl)) (by simp) Node.cells_len rfl rfl rfl rfl rfl (by decide) rfl rfl rfl ?_
  refine kr [2000012] ?_
  exact zx (by kernel_rfl) lA (qft _ _ _ _ _ _ _ h)
 replace h:=qv hb h
 refine kr [2000012] ?_
 obtain ⟨x5,hx,h⟩:=bind_some h
 refine ja env hx rfl rfl rfl rfl rfl ?_
 refine kr [2000012] ?_
 obtain ⟨x6,hx,h⟩:=bind_some h
 have hp_x6:=ju hx (by simp)
 refine y3 (C:=sc) env hx rfl rfl (by simp) (fun _=>rfl) rfl rfl rfl rfl rfl (by decide) rfl rfl rfl ?_
 refine kr [2000012] ?_
 refine Qg 1 2 2 yx rfl rfl rfl rfl rfl rfl ?_
 refine Qg 1 3 3 zo rfl rfl rfl rfl rfl rfl ?_
 refine W6 ?_
 refine kr [2000012] ?_
 obtain ⟨x7,hx,h⟩:=bind_some h
 refine qk (qs8 _ _ hx) ?_
 refine kr [2000012] ?_
 cases h
 exact kf
def qh0 (a0:BA):Option (Node × Int × Int):=
 qdx a0 >>=fun x1=>
 if (!decide (x1.2.1=(0:Int)))=true then
  some ((Node.mk 0 (⟨#[]⟩) ([]:LB) ([]:LN)),x1.2.1,x1.2.2)
 else
  Yf x1.1 (0:Int) (1:Int) (⟨#[]⟩) ([]:LB) ([]:LN)
@[reducible] def qzx (a0:BA) (r:Node × Int × Int):Prop:=
  Fn Tryz.prog G 43 [(.str a0)] (.tup [(.agg (zl r.1)),(.int .i64 r.2.1),(.int .i64 r.2.2)])
theorem qz3:PC1 qzx qh0:=fun a0 r h=>by
 rw [qh0.eq_def] at h
 refine zg (T:=tt) (N:=67) (rs:= [.cell 2 45, .tmp 3, .tmp 4]) (fun vs w=>by simp) Tryz.func43 rfl rfl rfl rfl (by kernel_rfl) (z7 rfl) (ze _ rfl) ?_
 refine kr [2000012] ?_
 obtain ⟨x1,hx,h⟩:=bind_some h
 refine qk (qt2 _ _ hx) ?_
 refine kr [2000012] ?_
 refine qd (fun hb=> ?_) (fun hb=> ?_)
 ·replace h:=qu hb h
  refine kr [2000012] ?_
  cases h
  exact zb env rfl rfl (zt (zw (qc (jo (qb (qj rfl) (qb (q8 rfl) (qb (q4 (.inr rfl)) (qb (q4 (.inr rfl)) jc))))) (qc (q5 (qj rfl) (by simp)) (qc (q5 (qj rfl) (by simp)) zk)))))
 replace h:=qv hb h
 refine kr [2000012] ?_
 refine qk8 1 2 1 9 rfl rfl rfl ?_
 refine qk8 1 3 4 45 rfl rfl rfl ?_
 exact jb (by kernel_rfl) lA (qft _ _ _ _ _ _ _ h)
def qf0 (a0:File):Option Unit:=
 qh0 a0.Text >>=fun x1=>
 if (!decide (x1.2.1=(0:Int)))=true then
  some (Unit.mk a0.Path a0.Text (Node.mk 0 (⟨#[]⟩) ([]:LB) ([]:LN)) true)
 else
  some (Unit.mk a0.Path a0.Text x1.1 false)
@[reducible] def qw7 (a0:File) (r:Unit):Prop:=
  Fn Tryz.prog G 30 [(.agg (File.cells a0))] (.agg (Unit.cells r))
theorem qxf:PC1 qw7 qf0:=fun a0 r h=>by
 rw [qf0.eq_def] at h
 refine zg (T:=tt) (N:=26) (rs:= [.cell 2 48]) (fun vs w=>by simp) Tryz.func30 rfl rfl rfl rfl (by kernel_rfl) (z7 rfl) (ze _ rfl) ?_
 refine kr [] ?_
 obtain ⟨x1,hx,h⟩:=bind_some h
 refine qk (qz3 _ _ hx) ?_
 refine kr [] ?_
 refine qd (fun hb=> ?_) (fun hb=> ?_)
 ·replace h:=qu hb h
  refine kr [] ?_
  cases h
  exact zb env rfl rfl (zt (qud (jo (qb (q8 rfl) (qb (q8 rfl) (qb (qj rfl) (qb (q8 rfl) (qb (q4 (.inr rfl)) (qb (q4 (.inr rfl)) (qb (zf rfl) jc)))))))) (by simp)))
 replace h:=qv hb h
 refine kr [] ?_
 cases h
 exact kf
def Jg (t0:(List File)) (t5:(List Unit)) (t6:Int):Option ((List Unit) × Int):=
 if (decide (t6 < ((t0.map File.cells).length:Int)))=true then
  ix t0 t6 >>=fun x2=>
  qf0 (qa x2) >>=fun x3=>
  app 112 t5 ([x3]) >>=fun x4=>
  Jg (qa t0) (qa x4) (IntKind.i64.wrap (t6+(1:Int)))
 else
  some (t5,(0:Int))
 partial_fixpoint
@[reducible] def qi8 (t0:(List File)) (t5:(List Unit)) (t6:Int) (r:(List Unit) × Int):Prop:=
  Ok Tryz.prog G tt 27 0 (Ret Tryz.prog [.tmp 2, .tmp 3] (fun y H=>Told Tryz.prog G H y (.tup [(.sl 7 false (r.1.map Unit.cells)),(.int .i64 r.2)]))) (.again (je [] Tryz.f11 0).1 (je [] Tryz.f11 0).2 (.n (.sl 2 false (t0.map File.cells)) (.n .undef .z (.n (.bs 7 0 0 0 t5.length) .z .z)) (.n .undef .z (.n (.int .i64 t6) .z .z))) 1 [(0, .row 48 (t5.map Unit.cells).flatten)])
theorem qei:PC3 qi8 Jg:=by
 refine Jg.partial_correctness qi8 (fun Jg qei t0 t5 t6 r h=> ?_)
 unfold qa at h
 refine jm ?_
 refine kr [] ?_
 refine qd (fun hb=> ?_) (fun hb=> ?_)
 ·replace h:=qu hb h
  refine kr [] ?_
  obtain ⟨x2,hx,h⟩:=bind_some h
  refine ja env hx rfl rfl rfl rfl rfl ?_
  refine kr [] ?_
  obtain ⟨x3,hx,h⟩:=bind_some h
  refine qk (qxf _ _ hx) ?_
  refine kr [] ?_
  obtain ⟨x4,hx,h⟩:=bind_some h
  have hp_x4:=ju hx (by simp)
  refine y3 (C:=Unit.cells) env hx rfl rfl (by simp) (fun _=>rfl) rfl rfl rfl rfl rfl (by decide) rfl rfl rfl ?_
  refine kr [] ?_
  exact zx (by kernel_rfl) lA (qei _ _ _ _ h)
 replace h:=qv hb h
 refine kr [] ?_
 cases h
 exact zb env rfl rfl (zt (zw (qc (q5 (z8 qas rfl) (by simp)) (qc (q5 (qj rfl) (by simp)) zk))))
def qf2 (a0:(List File)):Option ((List Unit) × Int):=
 qbj a0 >>=fun x1=>
 if (!decide (x1=(0:Int)))=true then
  some (([]:(List Unit)),x1)
 else
  Jg a0 ([]:List Unit) (0:Int)
@[reducible] def qw9 (a0:(List File)) (r:(List Unit) × Int):Prop:=
  Fn Tryz.prog G 11 [(.sl 2 false (a0.map File.cells))] (.tup [(.sl 7 false (r.1.map Unit.cells)),(.int .i64 r.2)])
theorem qxh:PC1 qw9 qf2:=fun a0 r h=>by
 rw [qf2.eq_def] at h
 refine zg (T:=tt) (N:=27) (rs:= [.tmp 2, .tmp 3]) (fun vs w=>by simp) Tryz.func11 rfl rfl rfl rfl (by kernel_rfl) (z7 rfl) (ze _ rfl) ?_
 refine kr [] ?_
 obtain ⟨x1,hx,h⟩:=bind_some h
 refine qk (qlr _ _ hx) ?_
 refine kr [] ?_
 refine qd (fun hb=> ?_) (fun hb=> ?_)
 ·replace h:=qu hb h
  refine kr [] ?_
  cases h
  exact zb env rfl rfl (zt (zw (qc (q5 (q4 (.inr rfl)) (by simp)) (qc (q5 (qj rfl) (by simp)) zk))))
 replace h:=qv hb h
 refine kr [] ?_
 refine qox 5 _ 7 48 rfl rfl ?_
 exact jb (by kernel_rfl) lA (qei _ _ _ _ h)
def Qk (t0:LB) (t1:LB) (t5:Int):Option Bool:=
 if (decide (t5 < ((t0.map sc).length:Int)))=true then
  ix t0 t5 >>=fun x1=>
  ix t1 t5 >>=fun x2=>
  if (!decide (x1=x2))=true then
   some false
  else
   Qk (qa t0) (qa t1) (IntKind.i64.wrap (t5+(1:Int)))
 else
  some true
 partial_fixpoint
@[reducible] def qgf (t0:LB) (t1:LB) (t5:Int) (r:Bool):Prop:=
  Ok Tryz.prog G tt 26 0 (Ret Tryz.prog [.tmp 4] (fun y H=>Told Tryz.prog G H y (.bool r))) (.again (je [] Tryz.f58 0).1 (je [] Tryz.f58 0).2 (.n (.sl 1 false (t0.map sc)) (.n (.sl 1 false (t1.map sc)) .z (.n (.int .i64 t5) .z .z)) .z) 0 [])
theorem qcc:PC3 qgf Qk:=by
 refine Qk.partial_correctness qgf (fun Qk qcc t0 t1 t5 r h=> ?_)
 unfold qa at h
 refine jm ?_
 refine kr [] ?_
 refine qd (fun hb=> ?_) (fun hb=> ?_)
 ·replace h:=qu hb h
  refine kr [] ?_
  obtain ⟨x1,hx,h⟩:=bind_some h
  refine ja env hx rfl rfl rfl rfl rfl ?_
  refine kr [] ?_
  obtain ⟨x2,hx,h⟩:=bind_some h
  refine ja env hx rfl rfl rfl rfl rfl ?_
  refine kr [] ?_
  refine qd (fun hb=> ?_) (fun hb=> ?_)
  ·replace h:=qu hb h
   refine kr [] ?_
   cases h
   exact kf
  replace h:=qv hb h
  refine kr [] ?_
  exact zx (by kernel_rfl) lA (qcc _ _ _ _ h)
 replace h:=qv hb h
 refine kr [] ?_
 cases h
 exact kf
def qci (a0:LB) (a1:LB):Option Bool:=
 if (!decide (((a0.map sc).length:Int)=((a1.map sc).length:Int)))=true then
  some false
 else
  Qk a0 a1 (0:Int)
@[reducible] def qs4 (a0:LB) (a1:LB) (r:Bool):Prop:=
  Fn Tryz.prog G 58 [(.sl 1 false (a0.map sc)),(.sl 1 false (a1.map sc))] (.bool r)
theorem qta:PC2 qs4 qci:=fun a0 a1 r h=>by
 rw [qci.eq_def] at h
 refine zg (T:=tt) (N:=26) (rs:= [.tmp 4]) (fun vs w=>by simp) Tryz.func58 rfl rfl rfl rfl (by kernel_rfl) (z7 rfl) (ze _ rfl) ?_
 refine kr [] ?_
 refine qd (fun hb=> ?_) (fun hb=> ?_)
 ·replace h:=qu hb h
  refine kr [] ?_
  cases h
  exact kf
 replace h:=qv hb h
 refine kr [] ?_
 exact jb (by kernel_rfl) lA (qcc _ _ _ _ h)
mutual
def vg (a0:Node) (a1:Node):Option Bool:=
 if (!decide (a0.kind=a1.kind))=true then
  some false
 else
  if (!decide (a0.text=a1.text))=true then
   some false
  else
   qci a0.gaps a1.gaps >>=fun x1=>
   if (!x1)=true then
    some false
   else
    if (!decide (((a0.kids.map Node.cells).length:Int)=((a1.kids.map Node.cells).length:Int)))=true then
     some false
    else
     Q5 (0:Int) (qa a0) (qa a1)
 partial_fixpoint
def Q5 (t5:Int) (o0:Node) (o1:Node):Option Bool:=
 if (decide (t5 < ((o0.kids.map Node.cells).length:Int)))=true then
  ix o0.kids t5 >>=fun x2=>
  ix o1.kids t5 >>=fun x3=>
  vg (qa x2) (qa x3) >>=fun x4=>
  if (!x4)=true then
   some false
  else
   Q5 (IntKind.i64.wrap (t5+(1:Int))) (qa o0) (qa o1)
 else
  some true
 partial_fixpoint
end
@[reducible] def qiy (a0:Node) (a1:Node) (r:Bool):Prop:=
  Fn Tryz.prog G 33 [(.agg (zl a0)),(.agg (zl a1))] (.bool r)
@[reducible] def qea (t5:Int) (o0:Node) (o1:Node) (r:Bool):Prop:=
  Ok Tryz.prog G tt 54 0 (Ret Tryz.prog [.tmp 4] (fun y H=>Told Tryz.prog G H y (.bool r))) (.again (je [] Tryz.f33 0).1 (je [] Tryz.f33 0).2 (.n .undef (.n .undef (.n (.ptr 1 1 0) .z .z) (.n (.int .i64 t5) .z .z)) (.n (.ptr 0 0 0) .z .z)) 2 [(0, .var 45 (zl o0)),(1, .var 45 (zl o1))])
theorem qkp:PC2 qiy vg∧PC3 qea Q5:=by
 refine vg.mutual_partial_correctness qiy qea (fun Q5 qax a0 a1 r h=> ?_) (fun vg Q5 qiz qax t5 o0 o1 r h=> ?_)
 ·unfold qa at h
  refine zg (T:=tt) (N:=54) (rs:= [.tmp 4]) (fun vs w=>by simp) Tryz.func33 rfl rfl rfl rfl (by kernel_rfl) (z7 rfl) (ze _ rfl) ?_
  refine kr [] ?_
  refine qw (fun hb=> ?_) (fun hb=> ?_)
  ·replace h:=qv hb h
   refine kr [] ?_
   refine qw (fun hb=> ?_) (fun hb=> ?_)
   ·replace h:=qv hb h
    refine kr [] ?_
    obtain ⟨x1,hx,h⟩:=bind_some h
    refine qk (qta _ _ _ hx) ?_
    refine kr [] ?_
    refine qw (fun hb=> ?_) (fun hb=> ?_)
    ·replace h:=qv hb h
     refine kr [] ?_
     refine qd (fun hb=> ?_) (fun hb=> ?_)
     ·replace h:=qu hb h
      refine kr [] ?_
      cases h
      exact kf
     replace h:=qv hb h
     refine kr [] ?_
     exact jb (by kernel_rfl) lA (qax _ _ _ _ h)
    replace h:=qu hb h
    refine kr [] ?_
    cases h
    exact kf
   replace h:=qu hb h
   refine kr [] ?_
   cases h
   exact kf
  replace h:=qu hb h
  refine kr [] ?_
  cases h
  exact kf
 unfold qa at h
 refine jm ?_
 refine kr [] ?_
 refine qd (fun hb=> ?_) (fun hb=> ?_)
 ·replace h:=qu hb h
  refine kr [] ?_
  obtain ⟨x2,hx,h⟩:=bind_some h
  refine ja env hx rfl rfl rfl rfl (Node.cells_eq x2) ?_
  refine kr [] ?_
  obtain ⟨x3,hx,h⟩:=bind_some h
  refine ja env hx rfl rfl rfl rfl (Node.cells_eq x3) ?_
  refine kr [] ?_
  obtain ⟨x4,hx,h⟩:=bind_some h
  refine qk (qiz _ _ _ hx) ?_
  refine kr [] ?_
  refine qd (fun hb=> ?_) (fun hb=> ?_)
  ·replace h:=qu hb h
   refine kr [] ?_
   cases h
   exact kf
  replace h:=qv hb h
  refine kr [] ?_
  exact zx (by kernel_rfl) lA (qax _ _ _ _ h)
 replace h:=qv hb h
 refine kr [] ?_
 cases h
 exact kf
theorem qiz:PC2 qiy vg:=qkp.1
theorem qax:PC3 qea Q5:=qkp.2
def Jf (t0:(List Unit)) (t1:(List Unit)) (t5:Int):Option Bool:=
 if (decide (t5 < ((t0.map Unit.cells).length:Int)))=true then
  ix t0 t5 >>=fun x1=>
  ix t1 t5 >>=fun x2=>
  if (!decide (x1.Path=x2.Path))=true then
   some false
  else
   ix t0 t5 >>=fun x3=>
   ix t1 t5 >>=fun x4=>
   if (!decide (x3.Text=x4.Text))=true then
    some false
   else
    ix t0 t5 >>=fun x5=>
    ix t1 t5 >>=fun x6=>
    if (!(x5.Broken==x6.Broken))=true then
     some false
    else
     ix t0 t5 >>=fun x7=>
     ix t1 t5 >>=fun x8=>
     vg x7.Tree x8.Tree >>=fun x9=>
     if (!x9)=true then
      some false
     else
      Jf (qa t0) (qa t1) (IntKind.i64.wrap (t5+(1:Int)))
 else
  some true
 partial_fixpoint
@[reducible] def qi7 (t0:(List Unit)) (t1:(List Unit)) (t5:Int) (r:Bool):Prop:=
  Ok Tryz.prog G tt 68 0 (Ret Tryz.prog [.tmp 4] (fun y H=>Told Tryz.prog G H y (.bool r))) (.again (je [] Tryz.f14 0).1 (je [] Tryz.f14 0).2 (.n (.sl 7 false (t0.map Unit.cells)) (.n (.sl 7 false (t1.map Unit.cells)) .z (.n (.int .i64 t5) .z .z)) .z) 0 [])
theorem qeh:PC3 qi7 Jf:=by
 refine Jf.partial_correctness qi7 (fun Jf qeh t0 t1 t5 r h=> ?_)
 unfold qa at h
 refine jm ?_
 refine kr [] ?_
 refine qd (fun hb=> ?_) (fun hb=> ?_)
 ·replace h:=qu hb h
  refine kr [] ?_
  obtain ⟨x1,hx,h⟩:=bind_some h
  refine ja env hx rfl rfl rfl rfl rfl ?_
  refine kr [] ?_
  obtain ⟨x2,hx,h⟩:=bind_some h
  refine ja env hx rfl rfl rfl rfl rfl ?_
  refine kr [] ?_
  refine qw (fun hb=> ?_) (fun hb=> ?_)
  ·replace h:=qv hb h
   refine kr [] ?_
   obtain ⟨x3,hx,h⟩:=bind_some h
   refine ja env hx rfl rfl rfl rfl rfl ?_
   refine kr [] ?_
   obtain ⟨x4,hx,h⟩:=bind_some h
   refine ja env hx rfl rfl rfl rfl rfl ?_
   refine kr [] ?_
   refine qw (fun hb=> ?_) (fun hb=> ?_)
   ·replace h:=qv hb h
    refine kr [] ?_
    obtain ⟨x5,hx,h⟩:=bind_some h
    refine ja env hx rfl rfl rfl rfl rfl ?_
    refine kr [] ?_
    obtain ⟨x6,hx,h⟩:=bind_some h
    refine ja env hx rfl rfl rfl rfl rfl ?_
    refine kr [] ?_
    refine qw (fun hb=> ?_) (fun hb=> ?_)
    ·replace h:=qv hb h
     refine kr [] ?_
     obtain ⟨x7,hx,h⟩:=bind_some h
     refine ja env hx rfl rfl rfl rfl rfl ?_
     refine kr [] ?_
     obtain ⟨x8,hx,h⟩:=bind_some h
     refine ja env hx rfl rfl rfl rfl rfl ?_
     refine kr [] ?_
     obtain ⟨x9,hx,h⟩:=bind_some h
     refine qk (qiz _ _ _ hx) ?_
     refine kr [] ?_
     refine qd (fun hb=> ?_) (fun hb=> ?_)
     ·replace h:=qu hb h
      refine kr [] ?_
      cases h
      exact kf
     replace h:=qv hb h
     refine kr [] ?_
     exact zx (by kernel_rfl) lA (qeh _ _ _ _ h)
    replace h:=qu hb h
    refine kr [] ?_
    cases h
    exact kf
   replace h:=qu hb h
   refine kr [] ?_
   cases h
   exact kf
  replace h:=qu hb h
  refine kr [] ?_
  cases h
  exact kf
 replace h:=qv hb h
 refine kr [] ?_
 cases h
 exact kf
def qf1 (a0:(List Unit)) (a1:(List Unit)):Option Bool:=
 if (!decide (((a0.map Unit.cells).length:Int)=((a1.map Unit.cells).length:Int)))=true then
  some false
 else
  Jf a0 a1 (0:Int)
@[reducible] def qw8 (a0:(List Unit)) (a1:(List Unit)) (r:Bool):Prop:=
  Fn Tryz.prog G 14 [(.sl 7 false (a0.map Unit.cells)),(.sl 7 false (a1.map Unit.cells))] (.bool r)
theorem qxg:PC2 qw8 qf1:=fun a0 a1 r h=>by
 rw [qf1.eq_def] at h
 refine zg (T:=tt) (N:=68) (rs:= [.tmp 4]) (fun vs w=>by simp) Tryz.func14 rfl rfl rfl rfl (by kernel_rfl) (z7 rfl) (ze _ rfl) ?_
 refine kr [] ?_
 refine qd (fun hb=> ?_) (fun hb=> ?_)
 ·replace h:=qu hb h
  refine kr [] ?_
  cases h
  exact kf
 replace h:=qv hb h
 refine kr [] ?_
 exact jb (by kernel_rfl) lA (qeh _ _ _ _ h)
def Yr (a0:(List File)):Option Bool:=
 qd1 a0 >>=fun x1=>
 if (!x1)=true then
  qbk >>=fun x2=>
  some x2
 else
  Jp a0 >>=fun x3=>
  qf2 a0 >>=fun x4=>
  Zs a0 >>=fun x5=>
  qbj a0 >>=fun x6=>
  if (decide (x5=x6))=true then
   qf1 x3.1 x4.1 >>=fun x7=>
   if x7=true then
    if (decide (x3.2=x4.2))=true then
     qbk >>=fun x8=>
     some x8
    else
     some false
   else
    some false
  else
   some false
@[reducible] def qcm (a0:(List File)) (r:Bool):Prop:=
  Fn Tryz.prog G 3 [(.sl 2 false (a0.map File.cells))] (.bool r)
theorem qjj:PC1 qcm Yr:=fun a0 r h=>by
 rw [Yr.eq_def] at h
 refine zg (T:=tt) (N:=39) (rs:= [.tmp 2]) (fun vs w=>by simp) Tryz.func3 rfl rfl rfl rfl (by kernel_rfl) (z7 rfl) (ze _ rfl) ?_
 refine kr [] ?_
 obtain ⟨x1,hx,h⟩:=bind_some h
 refine qk (qt6 _ _ hx) ?_
 refine kr [] ?_
 refine qd (fun hb=> ?_) (fun hb=> ?_)
 ·replace h:=qu hb h
  refine kr [] ?_
  obtain ⟨x2,hx,h⟩:=bind_some h
  refine qk (qls _ hx) ?_
  refine kr [] ?_
  cases h
  exact kf
 replace h:=qv hb h
 refine kr [] ?_
 obtain ⟨x3,hx,h⟩:=bind_some h
 refine qk (qhu _ _ hx) ?_
 refine kr [] ?_
 obtain ⟨x4,hx,h⟩:=bind_some h
 refine qk (qxh _ _ hx) ?_
 refine kr [] ?_
 obtain ⟨x5,hx,h⟩:=bind_some h
 refine qk (qb6 _ _ hx) ?_
 refine kr [] ?_
 obtain ⟨x6,hx,h⟩:=bind_some h
 refine qk (qlr _ _ hx) ?_
 refine kr [] ?_
 refine qq (fun hb=> ?_) (fun hb=> ?_)
 ·replace h:=qu hb h
  refine kr [] ?_
  obtain ⟨x7,hx,h⟩:=bind_some h
  refine qk (qxg _ _ _ hx) ?_
  refine kr [] ?_
  refine qq (fun hb=> ?_) (fun hb=> ?_)
  ·replace h:=qu hb h
   refine kr [] ?_
   refine qq (fun hb=> ?_) (fun hb=> ?_)
   ·replace h:=qu hb h
    refine kr [] ?_
    obtain ⟨x8,hx,h⟩:=bind_some h
    refine qk (qls _ hx) ?_
    refine kr [] ?_
    cases h
    exact kf
   replace h:=qv hb h
   refine kr [] ?_
   cases h
   exact kf
  replace h:=qv hb h
  refine kr [] ?_
  cases h
  exact kf
 replace h:=qv hb h
 refine kr [] ?_
 cases h
 exact kf
end Go.Proofs.YtpnkemogepoioaaGreatDoorW.Ex.Gr
