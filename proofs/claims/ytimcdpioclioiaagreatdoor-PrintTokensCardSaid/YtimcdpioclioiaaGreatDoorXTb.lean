/- The functions of the program's layer 8 and of its references, printed as functions on numbers, strings, lists and trees, with the proofs that they are what the code computes. Conditions: those in each theorem. -/
import Derived.Test.YtimcdpioclioiaaGreatDoorXTa
namespace Go.Proofs.YtimcdpioclioiaaGreatDoorW.Ex.Gr
open Go Go.Proofs.YtimcdpioclioiaaGreatDoorW.Ex
set_option linter.all false
set_option maxRecDepth 100000
set_option synthInstance.maxSize 4000
set_option maxHeartbeats 4000000
mutual
def F_nodeT (a0 : BA) (a4 : LU) (a1 : Node) (a2 : BA) (a3 : Int) : Option (Node × BA × LU) :=
 F_grammar_Group a1.kind >>= fun x1 =>
 if (decide (x1 = (3 : Int))) = true then
  F_expressionT (qa a0) (qa a4) (qa a1) a1.kind a1.text ([] : LB) ([] : LN) (qa a3) (qa a2) >>= fun x2 =>
  F_nodeT_t23 x2.1 x2.2.1 (qa a1) a1.kind a1.text x2.2.2.1 x2.2.2.2 (qa a3)
 else
  F_grammar_Group a1.kind >>= fun x3 =>
  if (decide (x3 = (2 : Int))) = true then
   F_statementT (qa a0) (qa a4) (qa a1) a1.kind a1.text ([] : LB) ([] : LN) (qa a3) (qa a2) >>= fun x4 =>
   F_nodeT_t30 x4.1 x4.2.1 (qa a1) a1.kind a1.text x4.2.2.1 x4.2.2.2 (qa a3)
  else
   F_otherT (qa a0) (qa a4) (qa a1) a1.kind a1.text ([] : LB) ([] : LN) (qa a3) (qa a2) >>= fun x5 =>
   F_nodeT_t30 x5.1 x5.2.1 (qa a1) a1.kind a1.text x5.2.2.1 x5.2.2.2.1 x5.2.2.2.2
 partial_fixpoint
def F_expressionT (a0 : BA) (a2 : LU) (a0_n : Node) (a3 : Int) (a4 : BA) (a5 : LB) (a6 : LN) (a7 : Int) (a1 : BA) : Option (BA × LU × LB × LN) :=
 if (decide (a0_n.kind = (20 : Int))) = true then
  F_ownT (qa a0) (qa a2) (qa a0_n) (qa a3) (qa a4) (qa a5) (qa a6) (qa a7) (qa a1) a0_n.text >>= fun x6 =>
  F_ownT x6.1 x6.2.1 (qa a0_n) (qa a3) (qa a4) x6.2.2 (qa a6) (qa a7) (⟨#[]⟩ : BA) (⟨#[40]⟩ : BA) >>= fun x7 =>
  F_restT x7.1 x7.2.1 (qa a0_n) (qa a3) (qa a4) x7.2.2 (qa a6) (qa a7) >>= fun x8 =>
  some (x8.1, x8.2.1, x8.2.2.1, x8.2.2.2)
 else
  if (decide (a0_n.kind = (21 : Int))) = true then
   F_kidT (qa a0) (qa a2) (qa a0_n) (qa a3) (qa a4) (qa a5) (qa a6) (qa a7) (qa a1) >>= fun x9 =>
   F_ownT x9.1 x9.2.1 (qa a0_n) (qa a3) (qa a4) (qa a5) x9.2.2 (qa a7) (⟨#[]⟩ : BA) (⟨#[46]⟩ : BA) >>= fun x10 =>
   F_ownT x10.1 x10.2.1 (qa a0_n) (qa a3) (qa a4) x10.2.2 x9.2.2 (qa a7) (⟨#[]⟩ : BA) a0_n.text >>= fun x11 =>
   F_ownT x11.1 x11.2.1 (qa a0_n) (qa a3) (qa a4) x11.2.2 x9.2.2 (qa a7) (⟨#[]⟩ : BA) (⟨#[40]⟩ : BA) >>= fun x12 =>
   F_restT x12.1 x12.2.1 (qa a0_n) (qa a3) (qa a4) x12.2.2 x9.2.2 (qa a7) >>= fun x13 =>
   some (x13.1, x13.2.1, x13.2.2.1, x13.2.2.2)
  else
   if (decide (a0_n.kind = (22 : Int))) = true then
    F_ownT (qa a0) (qa a2) (qa a0_n) (qa a3) (qa a4) (qa a5) (qa a6) (qa a7) (qa a1) (⟨#[110, 101, 119]⟩ : BA) >>= fun x14 =>
    F_ownT x14.1 x14.2.1 (qa a0_n) (qa a3) (qa a4) x14.2.2 (qa a6) (qa a7) (⟨#[32]⟩ : BA) a0_n.text >>= fun x15 =>
    F_ownT x15.1 x15.2.1 (qa a0_n) (qa a3) (qa a4) x15.2.2 (qa a6) (qa a7) (⟨#[]⟩ : BA) (⟨#[40]⟩ : BA) >>= fun x16 =>
    F_ownT x16.1 x16.2.1 (qa a0_n) (qa a3) (qa a4) x16.2.2 (qa a6) (qa a7) (⟨#[]⟩ : BA) (⟨#[41]⟩ : BA) >>= fun x17 =>
    some (x17.1, x17.2.1, x17.2.2, a6)
   else
    if (decide (a0_n.kind = (24 : Int))) = true then
     F_kidT (qa a0) (qa a2) (qa a0_n) (qa a3) (qa a4) (qa a5) (qa a6) (qa a7) (qa a1) >>= fun x18 =>
     F_ownT x18.1 x18.2.1 (qa a0_n) (qa a3) (qa a4) (qa a5) x18.2.2 (qa a7) (⟨#[32]⟩ : BA) a0_n.text >>= fun x19 =>
     F_kidT x19.1 x19.2.1 (qa a0_n) (qa a3) (qa a4) x19.2.2 x18.2.2 (qa a7) (⟨#[32]⟩ : BA) >>= fun x20 =>
     some (x20.1, x20.2.1, x19.2.2, x20.2.2)
    else
     if (decide (a0_n.kind = (25 : Int))) = true then
      F_ownT (qa a0) (qa a2) (qa a0_n) (qa a3) (qa a4) (qa a5) (qa a6) (qa a7) (qa a1) a0_n.text >>= fun x21 =>
      F_kidT x21.1 x21.2.1 (qa a0_n) (qa a3) (qa a4) x21.2.2 (qa a6) (qa a7) (⟨#[]⟩ : BA) >>= fun x22 =>
      some (x22.1, x22.2.1, x21.2.2, x22.2.2)
     else
      if (decide (a0_n.kind = (26 : Int))) = true then
       F_ownT (qa a0) (qa a2) (qa a0_n) (qa a3) (qa a4) (qa a5) (qa a6) (qa a7) (qa a1) (⟨#[40]⟩ : BA) >>= fun x23 =>
       F_kidT x23.1 x23.2.1 (qa a0_n) (qa a3) (qa a4) x23.2.2 (qa a6) (qa a7) (⟨#[]⟩ : BA) >>= fun x24 =>
       F_ownT x24.1 x24.2.1 (qa a0_n) (qa a3) (qa a4) x23.2.2 x24.2.2 (qa a7) (⟨#[]⟩ : BA) (⟨#[41]⟩ : BA) >>= fun x25 =>
       some (x25.1, x25.2.1, x25.2.2, x24.2.2)
      else
       F_ownT (qa a0) (qa a2) (qa a0_n) (qa a3) (qa a4) (qa a5) (qa a6) (qa a7) (qa a1) a0_n.text >>= fun x26 =>
       some (x26.1, x26.2.1, x26.2.2, a6)
 partial_fixpoint
def F_statementT (a0 : BA) (a2 : LU) (a0_n : Node) (a3 : Int) (a4 : BA) (a5 : LB) (a6 : LN) (a7 : Int) (a1 : BA) : Option (BA × LU × LB × LN) :=
 if (decide (a0_n.kind = (10 : Int))) = true then
  F_namedT (qa a0) (qa a2) (qa a0_n) (qa a3) (qa a4) (qa a5) (qa a6) (qa a7) (qa a1) (⟨#[108, 101, 116]⟩ : BA) >>= fun x27 =>
  some (x27.1, x27.2.1, x27.2.2.1, x27.2.2.2)
 else
  if (decide (a0_n.kind = (11 : Int))) = true then
   F_ownT (qa a0) (qa a2) (qa a0_n) (qa a3) (qa a4) (qa a5) (qa a6) (qa a7) (qa a1) a0_n.text >>= fun x28 =>
   F_ownT x28.1 x28.2.1 (qa a0_n) (qa a3) (qa a4) x28.2.2 (qa a6) (qa a7) (⟨#[32]⟩ : BA) (⟨#[61]⟩ : BA) >>= fun x29 =>
   F_kidT x29.1 x29.2.1 (qa a0_n) (qa a3) (qa a4) x29.2.2 (qa a6) (qa a7) (⟨#[32]⟩ : BA) >>= fun x30 =>
   F_ownT x30.1 x30.2.1 (qa a0_n) (qa a3) (qa a4) x29.2.2 x30.2.2 (qa a7) (⟨#[]⟩ : BA) (⟨#[59]⟩ : BA) >>= fun x31 =>
   some (x31.1, x31.2.1, x31.2.2, x30.2.2)
  else
   if (decide (a0_n.kind = (12 : Int))) = true then
    F_ownT (qa a0) (qa a2) (qa a0_n) (qa a3) (qa a4) (qa a5) (qa a6) (qa a7) (qa a1) (⟨#[114, 101, 116, 117, 114, 110]⟩ : BA) >>= fun x32 =>
    F_kidT x32.1 x32.2.1 (qa a0_n) (qa a3) (qa a4) x32.2.2 (qa a6) (qa a7) (⟨#[32]⟩ : BA) >>= fun x33 =>
    F_ownT x33.1 x33.2.1 (qa a0_n) (qa a3) (qa a4) x32.2.2 x33.2.2 (qa a7) (⟨#[]⟩ : BA) (⟨#[59]⟩ : BA) >>= fun x34 =>
    some (x34.1, x34.2.1, x34.2.2, x33.2.2)
   else
    if (decide (a0_n.kind = (13 : Int))) = true then
     if (decide (a0_n.kind = (15 : Int))) = true then
      F_statementT_t53 (qa a1) (⟨#[119, 104, 105, 108, 101]⟩ : BA) (qa a0_n) (qa a3) (qa a4) (qa a5) (qa a6) (qa a7) (qa a0) (qa a2)
     else
      F_statementT_t53 (qa a1) (⟨#[105, 102]⟩ : BA) (qa a0_n) (qa a3) (qa a4) (qa a5) (qa a6) (qa a7) (qa a0) (qa a2)
    else
     if (decide (a0_n.kind = (15 : Int))) = true then
      if (decide (a0_n.kind = (15 : Int))) = true then
       F_statementT_t53 (qa a1) (⟨#[119, 104, 105, 108, 101]⟩ : BA) (qa a0_n) (qa a3) (qa a4) (qa a5) (qa a6) (qa a7) (qa a0) (qa a2)
      else
       F_statementT_t53 (qa a1) (⟨#[105, 102]⟩ : BA) (qa a0_n) (qa a3) (qa a4) (qa a5) (qa a6) (qa a7) (qa a0) (qa a2)
     else
      F_kidT (qa a0) (qa a2) (qa a0_n) (qa a3) (qa a4) (qa a5) (qa a6) (qa a7) (qa a1) >>= fun x35 =>
      F_ownT x35.1 x35.2.1 (qa a0_n) (qa a3) (qa a4) (qa a5) x35.2.2 (qa a7) (⟨#[]⟩ : BA) (⟨#[59]⟩ : BA) >>= fun x36 =>
      some (x36.1, x36.2.1, x36.2.2, x35.2.2)
 partial_fixpoint
def F_otherT (a0 : BA) (a2 : LU) (a0_n : Node) (a3 : Int) (a4 : BA) (a5 : LB) (a6 : LN) (a7 : Int) (a1 : BA) : Option (BA × LU × LB × LN × Int) :=
 if (decide (a0_n.kind = (1 : Int))) = true then
  F_otherT_l0 a0_n.kids 0 (qa a1) (qa a0_n) (qa a3) (qa a4) (qa a5) (qa a6) (qa a7) (qa a0) (qa a2)
 else
  if (decide (a0_n.kind = (2 : Int))) = true then
   F_ownT (qa a0) (qa a2) (qa a0_n) (qa a3) (qa a4) (qa a5) (qa a6) (qa a7) (qa a1) (⟨#[102, 110]⟩ : BA) >>= fun x37 =>
   F_ownT x37.1 x37.2.1 (qa a0_n) (qa a3) (qa a4) x37.2.2 (qa a6) (qa a7) (⟨#[32]⟩ : BA) a0_n.text >>= fun x38 =>
   F_kidT x38.1 x38.2.1 (qa a0_n) (qa a3) (qa a4) x38.2.2 (qa a6) (qa a7) (⟨#[]⟩ : BA) >>= fun x39 =>
   F_kidT x39.1 x39.2.1 (qa a0_n) (qa a3) (qa a4) x38.2.2 x39.2.2 (qa a7) (⟨#[32]⟩ : BA) >>= fun x40 =>
   F_kidT x40.1 x40.2.1 (qa a0_n) (qa a3) (qa a4) x38.2.2 x40.2.2 (qa a7) (⟨#[32]⟩ : BA) >>= fun x41 =>
   some (x41.1, x41.2.1, x38.2.2, x41.2.2, a7)
  else
   if (decide (a0_n.kind = (3 : Int))) = true then
    F_ownT (qa a0) (qa a2) (qa a0_n) (qa a3) (qa a4) (qa a5) (qa a6) (qa a7) (qa a1) (⟨#[40]⟩ : BA) >>= fun x42 =>
    F_restT x42.1 x42.2.1 (qa a0_n) (qa a3) (qa a4) x42.2.2 (qa a6) (qa a7) >>= fun x43 =>
    some (x43.1, x43.2.1, x43.2.2.1, x43.2.2.2, a7)
   else
    if (decide (a0_n.kind = (4 : Int))) = true then
     F_ownT (qa a0) (qa a2) (qa a0_n) (qa a3) (qa a4) (qa a5) (qa a6) (qa a7) (qa a1) a0_n.text >>= fun x44 =>
     F_kidT x44.1 x44.2.1 (qa a0_n) (qa a3) (qa a4) x44.2.2 (qa a6) (qa a7) (⟨#[32]⟩ : BA) >>= fun x45 =>
     some (x45.1, x45.2.1, x44.2.2, x45.2.2, a7)
    else
     if (decide (a0_n.kind = (5 : Int))) = true then
      F_ownT (qa a0) (qa a2) (qa a0_n) (qa a3) (qa a4) (qa a5) (qa a6) (qa a7) (qa a1) a0_n.text >>= fun x46 =>
      some (x46.1, x46.2.1, x46.2.2, a6, a7)
     else
      if (decide (a0_n.kind = (6 : Int))) = true then
       F_ownT (qa a0) (qa a2) (qa a0_n) (qa a3) (qa a4) (qa a5) (qa a6) (qa a7) (qa a1) (⟨#[123]⟩ : BA) >>= fun x47 =>
       F_bodyT x47.1 x47.2.1 (qa a0_n) (qa a3) (qa a4) x47.2.2 (qa a6) (qa a7) (0 : Int) >>= fun x48 =>
       some (x48.1, x48.2.1, x48.2.2.1, x48.2.2.2.1, x48.2.2.2.2)
      else
       if (decide (a0_n.kind = (7 : Int))) = true then
        F_ownT (qa a0) (qa a2) (qa a0_n) (qa a3) (qa a4) (qa a5) (qa a6) (qa a7) (qa a1) (⟨#[99, 108, 97, 115, 115]⟩ : BA) >>= fun x49 =>
        F_ownT x49.1 x49.2.1 (qa a0_n) (qa a3) (qa a4) x49.2.2 (qa a6) (qa a7) (⟨#[32]⟩ : BA) a0_n.text >>= fun x50 =>
        F_kidT x50.1 x50.2.1 (qa a0_n) (qa a3) (qa a4) x50.2.2 (qa a6) (qa a7) (⟨#[32]⟩ : BA) >>= fun x51 =>
        F_ownT x51.1 x51.2.1 (qa a0_n) (qa a3) (qa a4) x50.2.2 x51.2.2 (qa a7) (⟨#[32]⟩ : BA) (⟨#[123]⟩ : BA) >>= fun x52 =>
        F_bodyT x52.1 x52.2.1 (qa a0_n) (qa a3) (qa a4) x52.2.2 x51.2.2 (qa a7) (1 : Int) >>= fun x53 =>
        some (x53.1, x53.2.1, x53.2.2.1, x53.2.2.2.1, x53.2.2.2.2)
       else
        if (decide (a0_n.kind = (8 : Int))) = true then
         if (!decide (a0_n.text = (⟨#[]⟩ : BA))) = true then
          F_ownT (qa a0) (qa a2) (qa a0_n) (qa a3) (qa a4) (qa a5) (qa a6) (qa a7) (qa a1) (⟨#[58]⟩ : BA) >>= fun x54 =>
          F_ownT x54.1 x54.2.1 (qa a0_n) (qa a3) (qa a4) x54.2.2 (qa a6) (qa a7) (⟨#[32]⟩ : BA) a0_n.text >>= fun x55 =>
          some (x55.1, x55.2.1, x55.2.2, a6, a7)
         else
          some (a0, a2, a5, a6, a7)
        else
         if (decide (a0_n.kind = (9 : Int))) = true then
          F_namedT (qa a0) (qa a2) (qa a0_n) (qa a3) (qa a4) (qa a5) (qa a6) (qa a7) (qa a1) (⟨#[99, 111, 110, 115, 116]⟩ : BA) >>= fun x56 =>
          some (x56.1, x56.2.1, x56.2.2.1, x56.2.2.2, a7)
         else
          if (decide (a0_n.kind = (14 : Int))) = true then
           if (decide ((0 : Int) < ((a0_n.kids.map Node.cells).length : Int))) = true then
            F_ownT (qa a0) (qa a2) (qa a0_n) (qa a3) (qa a4) (qa a5) (qa a6) (qa a7) (qa a1) (⟨#[101, 108, 115, 101]⟩ : BA) >>= fun x57 =>
            F_kidT x57.1 x57.2.1 (qa a0_n) (qa a3) (qa a4) x57.2.2 (qa a6) (qa a7) (⟨#[32]⟩ : BA) >>= fun x58 =>
            some (x58.1, x58.2.1, x57.2.2, x58.2.2, a7)
           else
            some (a0, a2, a5, a6, a7)
          else
           some (a0, a2, a5, a6, a7)
 partial_fixpoint
def F_restT (a0 : BA) (a1 : LU) (a0_n : Node) (a2 : Int) (a3 : BA) (a4 : LB) (a5 : LN) (a6 : Int) : Option (BA × LU × LB × LN) :=
 F_restT_l0 (qa true) (qa a0_n) (qa a2) (qa a3) (qa a4) (qa a5) (qa a6) (qa a0) (qa a1)
 partial_fixpoint
def F_kidT (a0 : BA) (a2 : LU) (a0_n : Node) (a3 : Int) (a4 : BA) (a5 : LB) (a6 : LN) (a7 : Int) (a1 : BA) : Option (BA × LU × LN) :=
 ix a0_n.kids (a6.length : Int) >>= fun x59 =>
 F_nodeT (qa a0) (qa a2) (qa x59) (qa a1) (qa a7) >>= fun x60 =>
 app 72 a6 [x60.1] >>= fun x61 =>
 some (x60.2.1, x60.2.2, x61)
 partial_fixpoint
def F_namedT (a0 : BA) (a3 : LU) (a0_n : Node) (a4 : Int) (a5 : BA) (a6 : LB) (a7 : LN) (a8 : Int) (a1 : BA) (a2 : BA) : Option (BA × LU × LB × LN) :=
 F_ownT (qa a0) (qa a3) (qa a0_n) (qa a4) (qa a5) (qa a6) (qa a7) (qa a8) (qa a1) (qa a2) >>= fun x62 =>
 F_ownT x62.1 x62.2.1 (qa a0_n) (qa a4) (qa a5) x62.2.2 (qa a7) (qa a8) (⟨#[32]⟩ : BA) a0_n.text >>= fun x63 =>
 F_ownT x63.1 x63.2.1 (qa a0_n) (qa a4) (qa a5) x63.2.2 (qa a7) (qa a8) (⟨#[32]⟩ : BA) (⟨#[61]⟩ : BA) >>= fun x64 =>
 F_kidT x64.1 x64.2.1 (qa a0_n) (qa a4) (qa a5) x64.2.2 (qa a7) (qa a8) (⟨#[32]⟩ : BA) >>= fun x65 =>
 F_ownT x65.1 x65.2.1 (qa a0_n) (qa a4) (qa a5) x64.2.2 x65.2.2 (qa a8) (⟨#[]⟩ : BA) (⟨#[59]⟩ : BA) >>= fun x66 =>
 some (x66.1, x66.2.1, x66.2.2, x65.2.2)
 partial_fixpoint
def F_bodyT (a0 : BA) (a2 : LU) (a0_n : Node) (a3 : Int) (a4 : BA) (a5 : LB) (a6 : LN) (a7 : Int) (a1 : Int) : Option (BA × LU × LB × LN × Int) :=
 F_bodyT_l0 (qa a1) (qa a0_n) (qa a3) (qa a4) (qa a5) (qa a6) (IntKind.i64.wrap (a7 + (1 : Int))) (qa a0) (qa a2)
 partial_fixpoint
def F_statementT_t53 (t1 : BA) (t4 : BA) (o0_1 : Node) (a0 : Int) (a1 : BA) (a2 : LB) (a3 : LN) (o0_3 : Int) (o2 : BA) (o3_1 : LU) : Option (BA × LU × LB × LN) :=
 F_ownT (qa o2) (qa o3_1) (qa o0_1) (qa a0) (qa a1) (qa a2) (qa a3) (qa o0_3) (qa t1) (qa t4) >>= fun x67 =>
 F_statementT_l0 o0_1.kids (qa o0_1) (qa a0) (qa a1) x67.2.2 (qa a3) (qa o0_3) x67.1 x67.2.1
 partial_fixpoint
def F_otherT_l0 (a0 : LN) (j0 : Nat) (t1 : BA) (o0_1 : Node) (a1 : Int) (a2 : BA) (a3 : LB) (a4 : LN) (o0_3 : Int) (o2 : BA) (o3_1 : LU) : Option (BA × LU × LB × LN × Int) :=
 match a0 with
 | [] =>
   if (decide ((0 : Int) < ((o0_1.kids.map Node.cells).length : Int))) = true then
    F_otherT_t33 (⟨#[10]⟩ : BA) (qa o0_1) (qa a1) (qa a2) (qa a3) (qa a4) (qa o0_3) (qa o2) (qa o3_1)
   else
    F_otherT_t33 (qa t1) (qa o0_1) (qa a1) (qa a2) (qa a3) (qa a4) (qa o0_3) (qa o2) (qa o3_1)
 | x_0 :: a0 =>
   if (decide ((0 : Int) < ((j0 : Nat) : Int))) = true then
    F_otherT_t22 (qa a0) (qa j0) (⟨#[10, 10]⟩ : BA) (qa o0_1) (qa a1) (qa a2) (qa a3) (qa a4) (qa o0_3) (qa o2) (qa o3_1)
   else
    F_otherT_t22 (qa a0) (qa j0) (qa t1) (qa o0_1) (qa a1) (qa a2) (qa a3) (qa a4) (qa o0_3) (qa o2) (qa o3_1)
 partial_fixpoint
def F_restT_l0 (t2 : Bool) (o0_1 : Node) (a0 : Int) (a1 : BA) (a2 : LB) (a3 : LN) (o0_3 : Int) (o2 : BA) (o3_1 : LU) : Option (BA × LU × LB × LN) :=
 if (decide ((a3.length : Int) < ((o0_1.kids.map Node.cells).length : Int))) = true then
  if t2 = true then
   F_kidT (qa o2) (qa o3_1) (qa o0_1) (qa a0) (qa a1) (qa a2) (qa a3) (qa o0_3) (⟨#[]⟩ : BA) >>= fun x68 =>
   F_restT_b1 (qa o0_1) (qa a0) (qa a1) (qa a2) x68.2.2 (qa o0_3) x68.1 x68.2.1
  else
   F_ownT (qa o2) (qa o3_1) (qa o0_1) (qa a0) (qa a1) (qa a2) (qa a3) (qa o0_3) (⟨#[]⟩ : BA) (⟨#[44]⟩ : BA) >>= fun x69 =>
   F_kidT x69.1 x69.2.1 (qa o0_1) (qa a0) (qa a1) x69.2.2 (qa a3) (qa o0_3) (⟨#[32]⟩ : BA) >>= fun x70 =>
   F_restT_b1 (qa o0_1) (qa a0) (qa a1) x69.2.2 x70.2.2 (qa o0_3) x70.1 x70.2.1
 else
  F_ownT (qa o2) (qa o3_1) (qa o0_1) (qa a0) (qa a1) (qa a2) (qa a3) (qa o0_3) (⟨#[]⟩ : BA) (⟨#[41]⟩ : BA) >>= fun x71 =>
  some (x71.1, x71.2.1, x71.2.2, a3)
 partial_fixpoint
def F_bodyT_l0 (t1 : Int) (o0_1 : Node) (a0 : Int) (a1 : BA) (a2 : LB) (a3 : LN) (o0_3 : Int) (o2 : BA) (o3_1 : LU) : Option (BA × LU × LB × LN × Int) :=
 if (decide ((a3.length : Int) < ((o0_1.kids.map Node.cells).length : Int))) = true then
  F_print_line (qa o0_3) >>= fun x72 =>
  F_kidT (qa o2) (qa o3_1) (qa o0_1) (qa a0) (qa a1) (qa a2) (qa a3) (qa o0_3) (qa x72) >>= fun x73 =>
  F_bodyT_l0 (qa t1) (qa o0_1) (qa a0) (qa a1) (qa a2) x73.2.2 (qa o0_3) x73.1 x73.2.1
 else
  if (decide (t1 < ((o0_1.kids.map Node.cells).length : Int))) = true then
   F_print_line (IntKind.i64.wrap (o0_3 - (1 : Int))) >>= fun x74 =>
   F_ownT (qa o2) (qa o3_1) (qa o0_1) (qa a0) (qa a1) (qa a2) (qa a3) (IntKind.i64.wrap (o0_3 - (1 : Int))) (qa x74) (⟨#[125]⟩ : BA) >>= fun x75 =>
   some (x75.1, x75.2.1, x75.2.2, a3, (IntKind.i64.wrap (o0_3 - (1 : Int))))
  else
   F_ownT (qa o2) (qa o3_1) (qa o0_1) (qa a0) (qa a1) (qa a2) (qa a3) (IntKind.i64.wrap (o0_3 - (1 : Int))) (⟨#[]⟩ : BA) (⟨#[125]⟩ : BA) >>= fun x76 =>
   some (x76.1, x76.2.1, x76.2.2, a3, (IntKind.i64.wrap (o0_3 - (1 : Int))))
 partial_fixpoint
def F_statementT_l0 (a0 : LN) (o0_1 : Node) (a1 : Int) (a2 : BA) (a3 : LB) (a4 : LN) (o0_3 : Int) (o2 : BA) (o3_1 : LU) : Option (BA × LU × LB × LN) :=
 match a0 with
 | [] =>
   some (o2, o3_1, a3, a4)
 | x_0 :: a0 =>
   F_kidT (qa o2) (qa o3_1) (qa o0_1) (qa a1) (qa a2) (qa a3) (qa a4) (qa o0_3) (⟨#[32]⟩ : BA) >>= fun x77 =>
   F_statementT_l0 (qa a0) (qa o0_1) (qa a1) (qa a2) (qa a3) x77.2.2 (qa o0_3) x77.1 x77.2.1
 partial_fixpoint
def F_otherT_t22 (a0 : LN) (j0 : Nat) (t1 : BA) (o0_1 : Node) (a1 : Int) (a2 : BA) (a3 : LB) (a4 : LN) (o0_3 : Int) (o2 : BA) (o3_1 : LU) : Option (BA × LU × LB × LN × Int) :=
 F_kidT (qa o2) (qa o3_1) (qa o0_1) (qa a1) (qa a2) (qa a3) (qa a4) (qa o0_3) (qa t1) >>= fun x79 =>
 F_otherT_l0 (qa a0) (j0 + 1) (qa t1) (qa o0_1) (qa a1) (qa a2) (qa a3) x79.2.2 (qa o0_3) x79.1 x79.2.1
 partial_fixpoint
def F_restT_b1 (o0_1 : Node) (a0 : Int) (a1 : BA) (a2 : LB) (a3 : LN) (o0_3 : Int) (o2 : BA) (o3_1 : LU) : Option (BA × LU × LB × LN) :=
 F_restT_l0 (qa false) (qa o0_1) (qa a0) (qa a1) (qa a2) (qa a3) (qa o0_3) (qa o2) (qa o3_1)
 partial_fixpoint
end
@[reducible] def M_F_nodeT (a0 : BA) (a4 : LU) (a1 : Node) (a2 : BA) (a3 : Int) (r : Node × BA × LU) : Prop :=
  AC Tryz.prog G 16 [(.ptr 0 0 0), (.agg (zo a1)), (.str a2), (.int .i64 a3)] 4 [(0, .var 42 [(.fn 17 [(.ptr 1 1 0), (.ptr 2 2 0)])]), (1, .var 9 [(.str a0)]), (2, .var 47 [(.optr 2 2 0), (.bs 1 3 3 0 a4.length)]), (3, .row 5 (a4.map c8).flatten)] (.agg (zo r.1)) 5 [(0, .var 42 [(.fn 17 [(.ptr 1 1 0), (.ptr 2 2 0)])]), (1, .var 9 [(.str r.2.1)]), (2, .var 47 [(.optr 2 2 0), (.bs 1 3 4 0 r.2.2.length)]), (4, .row 5 (r.2.2.map c8).flatten)]
@[reducible] def M_F_expressionT (a0 : BA) (a2 : LU) (a0_n : Node) (a3 : Int) (a4 : BA) (a5 : LB) (a6 : LN) (a7 : Int) (a1 : BA) (r : BA × LU × LB × LN) : Prop :=
  AC Tryz.prog G 34 [(.ptr 0 0 0), (.str a1)] 7 [(0, .var 67 [(.ptr 1 1 0), (.int .i64 a0_n.kind), (.str a0_n.text), (.sl 1 false (a0_n.gaps.map sc)), (.sl 4 false (a0_n.kids.map Node.cells)), (.int .i64 a3), (.str a4), (.bs 1 5 5 0 a5.length), (.bs 4 6 6 0 a6.length), (.int .i64 a7)]), (1, .var 42 [(.fn 17 [(.ptr 2 2 0), (.ptr 3 3 0)])]), (2, .var 9 [(.str a0)]), (3, .var 47 [(.optr 3 3 0), (.bs 1 4 4 0 a2.length)]), (4, .row 5 (a2.map c8).flatten), (5, .row 9 (a5.map sc).flatten), (6, .row 25 (a6.map Node.cells).flatten)] (.tup []) 10 [(0, .var 67 [(.ptr 1 1 0), (.int .i64 a0_n.kind), (.str a0_n.text), (.sl 1 false (a0_n.gaps.map sc)), (.sl 4 false (a0_n.kids.map Node.cells)), (.int .i64 a3), (.str a4), (.bs 1 5 8 0 r.2.2.1.length), (.bs 4 6 9 0 r.2.2.2.length), (.int .i64 a7)]), (1, .var 42 [(.fn 17 [(.ptr 2 2 0), (.ptr 3 3 0)])]), (2, .var 9 [(.str r.1)]), (3, .var 47 [(.optr 3 3 0), (.bs 1 4 7 0 r.2.1.length)]), (7, .row 5 (r.2.1.map c8).flatten), (8, .row 9 (r.2.2.1.map sc).flatten), (9, .row 25 (r.2.2.2.map Node.cells).flatten)]
@[reducible] def M_F_statementT (a0 : BA) (a2 : LU) (a0_n : Node) (a3 : Int) (a4 : BA) (a5 : LB) (a6 : LN) (a7 : Int) (a1 : BA) (r : BA × LU × LB × LN) : Prop :=
  AC Tryz.prog G 35 [(.ptr 0 0 0), (.str a1)] 7 [(0, .var 67 [(.ptr 1 1 0), (.int .i64 a0_n.kind), (.str a0_n.text), (.sl 1 false (a0_n.gaps.map sc)), (.sl 4 false (a0_n.kids.map Node.cells)), (.int .i64 a3), (.str a4), (.bs 1 5 5 0 a5.length), (.bs 4 6 6 0 a6.length), (.int .i64 a7)]), (1, .var 42 [(.fn 17 [(.ptr 2 2 0), (.ptr 3 3 0)])]), (2, .var 9 [(.str a0)]), (3, .var 47 [(.optr 3 3 0), (.bs 1 4 4 0 a2.length)]), (4, .row 5 (a2.map c8).flatten), (5, .row 9 (a5.map sc).flatten), (6, .row 25 (a6.map Node.cells).flatten)] (.tup []) 10 [(0, .var 67 [(.ptr 1 1 0), (.int .i64 a0_n.kind), (.str a0_n.text), (.sl 1 false (a0_n.gaps.map sc)), (.sl 4 false (a0_n.kids.map Node.cells)), (.int .i64 a3), (.str a4), (.bs 1 5 8 0 r.2.2.1.length), (.bs 4 6 9 0 r.2.2.2.length), (.int .i64 a7)]), (1, .var 42 [(.fn 17 [(.ptr 2 2 0), (.ptr 3 3 0)])]), (2, .var 9 [(.str r.1)]), (3, .var 47 [(.optr 3 3 0), (.bs 1 4 7 0 r.2.1.length)]), (7, .row 5 (r.2.1.map c8).flatten), (8, .row 9 (r.2.2.1.map sc).flatten), (9, .row 25 (r.2.2.2.map Node.cells).flatten)]
@[reducible] def M_F_otherT (a0 : BA) (a2 : LU) (a0_n : Node) (a3 : Int) (a4 : BA) (a5 : LB) (a6 : LN) (a7 : Int) (a1 : BA) (r : BA × LU × LB × LN × Int) : Prop :=
  AC Tryz.prog G 36 [(.ptr 0 0 0), (.str a1)] 7 [(0, .var 67 [(.ptr 1 1 0), (.int .i64 a0_n.kind), (.str a0_n.text), (.sl 1 false (a0_n.gaps.map sc)), (.sl 4 false (a0_n.kids.map Node.cells)), (.int .i64 a3), (.str a4), (.bs 1 5 5 0 a5.length), (.bs 4 6 6 0 a6.length), (.int .i64 a7)]), (1, .var 42 [(.fn 17 [(.ptr 2 2 0), (.ptr 3 3 0)])]), (2, .var 9 [(.str a0)]), (3, .var 47 [(.optr 3 3 0), (.bs 1 4 4 0 a2.length)]), (4, .row 5 (a2.map c8).flatten), (5, .row 9 (a5.map sc).flatten), (6, .row 25 (a6.map Node.cells).flatten)] (.tup []) 10 [(0, .var 67 [(.ptr 1 1 0), (.int .i64 a0_n.kind), (.str a0_n.text), (.sl 1 false (a0_n.gaps.map sc)), (.sl 4 false (a0_n.kids.map Node.cells)), (.int .i64 a3), (.str a4), (.bs 1 5 8 0 r.2.2.1.length), (.bs 4 6 9 0 r.2.2.2.1.length), (.int .i64 r.2.2.2.2)]), (1, .var 42 [(.fn 17 [(.ptr 2 2 0), (.ptr 3 3 0)])]), (2, .var 9 [(.str r.1)]), (3, .var 47 [(.optr 3 3 0), (.bs 1 4 7 0 r.2.1.length)]), (7, .row 5 (r.2.1.map c8).flatten), (8, .row 9 (r.2.2.1.map sc).flatten), (9, .row 25 (r.2.2.2.1.map Node.cells).flatten)]
@[reducible] def M_F_restT (a0 : BA) (a1 : LU) (a0_n : Node) (a2 : Int) (a3 : BA) (a4 : LB) (a5 : LN) (a6 : Int) (r : BA × LU × LB × LN) : Prop :=
  AC Tryz.prog G 53 [(.ptr 0 0 0)] 7 [(0, .var 67 [(.ptr 1 1 0), (.int .i64 a0_n.kind), (.str a0_n.text), (.sl 1 false (a0_n.gaps.map sc)), (.sl 4 false (a0_n.kids.map Node.cells)), (.int .i64 a2), (.str a3), (.bs 1 5 5 0 a4.length), (.bs 4 6 6 0 a5.length), (.int .i64 a6)]), (1, .var 42 [(.fn 17 [(.ptr 2 2 0), (.ptr 3 3 0)])]), (2, .var 9 [(.str a0)]), (3, .var 47 [(.optr 3 3 0), (.bs 1 4 4 0 a1.length)]), (4, .row 5 (a1.map c8).flatten), (5, .row 9 (a4.map sc).flatten), (6, .row 25 (a5.map Node.cells).flatten)] (.tup []) 10 [(0, .var 67 [(.ptr 1 1 0), (.int .i64 a0_n.kind), (.str a0_n.text), (.sl 1 false (a0_n.gaps.map sc)), (.sl 4 false (a0_n.kids.map Node.cells)), (.int .i64 a2), (.str a3), (.bs 1 5 8 0 r.2.2.1.length), (.bs 4 6 9 0 r.2.2.2.length), (.int .i64 a6)]), (1, .var 42 [(.fn 17 [(.ptr 2 2 0), (.ptr 3 3 0)])]), (2, .var 9 [(.str r.1)]), (3, .var 47 [(.optr 3 3 0), (.bs 1 4 7 0 r.2.1.length)]), (7, .row 5 (r.2.1.map c8).flatten), (8, .row 9 (r.2.2.1.map sc).flatten), (9, .row 25 (r.2.2.2.map Node.cells).flatten)]
@[reducible] def M_F_kidT (a0 : BA) (a2 : LU) (a0_n : Node) (a3 : Int) (a4 : BA) (a5 : LB) (a6 : LN) (a7 : Int) (a1 : BA) (r : BA × LU × LN) : Prop :=
  AC Tryz.prog G 54 [(.ptr 0 0 0), (.str a1)] 7 [(0, .var 67 [(.ptr 1 1 0), (.int .i64 a0_n.kind), (.str a0_n.text), (.sl 1 false (a0_n.gaps.map sc)), (.sl 4 false (a0_n.kids.map Node.cells)), (.int .i64 a3), (.str a4), (.bs 1 5 5 0 a5.length), (.bs 4 6 6 0 a6.length), (.int .i64 a7)]), (1, .var 42 [(.fn 17 [(.ptr 2 2 0), (.ptr 3 3 0)])]), (2, .var 9 [(.str a0)]), (3, .var 47 [(.optr 3 3 0), (.bs 1 4 4 0 a2.length)]), (4, .row 5 (a2.map c8).flatten), (5, .row 9 (a5.map sc).flatten), (6, .row 25 (a6.map Node.cells).flatten)] (.tup []) 9 [(0, .var 67 [(.ptr 1 1 0), (.int .i64 a0_n.kind), (.str a0_n.text), (.sl 1 false (a0_n.gaps.map sc)), (.sl 4 false (a0_n.kids.map Node.cells)), (.int .i64 a3), (.str a4), (.bs 1 5 5 0 a5.length), (.bs 4 6 8 0 r.2.2.length), (.int .i64 a7)]), (1, .var 42 [(.fn 17 [(.ptr 2 2 0), (.ptr 3 3 0)])]), (2, .var 9 [(.str r.1)]), (3, .var 47 [(.optr 3 3 0), (.bs 1 4 7 0 r.2.1.length)]), (7, .row 5 (r.2.1.map c8).flatten), (5, .row 9 (a5.map sc).flatten), (8, .row 25 (r.2.2.map Node.cells).flatten)]
@[reducible] def M_F_namedT (a0 : BA) (a3 : LU) (a0_n : Node) (a4 : Int) (a5 : BA) (a6 : LB) (a7 : LN) (a8 : Int) (a1 : BA) (a2 : BA) (r : BA × LU × LB × LN) : Prop :=
  AC Tryz.prog G 55 [(.ptr 0 0 0), (.str a1), (.str a2)] 7 [(0, .var 67 [(.ptr 1 1 0), (.int .i64 a0_n.kind), (.str a0_n.text), (.sl 1 false (a0_n.gaps.map sc)), (.sl 4 false (a0_n.kids.map Node.cells)), (.int .i64 a4), (.str a5), (.bs 1 5 5 0 a6.length), (.bs 4 6 6 0 a7.length), (.int .i64 a8)]), (1, .var 42 [(.fn 17 [(.ptr 2 2 0), (.ptr 3 3 0)])]), (2, .var 9 [(.str a0)]), (3, .var 47 [(.optr 3 3 0), (.bs 1 4 4 0 a3.length)]), (4, .row 5 (a3.map c8).flatten), (5, .row 9 (a6.map sc).flatten), (6, .row 25 (a7.map Node.cells).flatten)] (.tup []) 10 [(0, .var 67 [(.ptr 1 1 0), (.int .i64 a0_n.kind), (.str a0_n.text), (.sl 1 false (a0_n.gaps.map sc)), (.sl 4 false (a0_n.kids.map Node.cells)), (.int .i64 a4), (.str a5), (.bs 1 5 8 0 r.2.2.1.length), (.bs 4 6 9 0 r.2.2.2.length), (.int .i64 a8)]), (1, .var 42 [(.fn 17 [(.ptr 2 2 0), (.ptr 3 3 0)])]), (2, .var 9 [(.str r.1)]), (3, .var 47 [(.optr 3 3 0), (.bs 1 4 7 0 r.2.1.length)]), (7, .row 5 (r.2.1.map c8).flatten), (8, .row 9 (r.2.2.1.map sc).flatten), (9, .row 25 (r.2.2.2.map Node.cells).flatten)]
@[reducible] def M_F_bodyT (a0 : BA) (a2 : LU) (a0_n : Node) (a3 : Int) (a4 : BA) (a5 : LB) (a6 : LN) (a7 : Int) (a1 : Int) (r : BA × LU × LB × LN × Int) : Prop :=
  AC Tryz.prog G 56 [(.ptr 0 0 0), (.int .i64 a1)] 7 [(0, .var 67 [(.ptr 1 1 0), (.int .i64 a0_n.kind), (.str a0_n.text), (.sl 1 false (a0_n.gaps.map sc)), (.sl 4 false (a0_n.kids.map Node.cells)), (.int .i64 a3), (.str a4), (.bs 1 5 5 0 a5.length), (.bs 4 6 6 0 a6.length), (.int .i64 a7)]), (1, .var 42 [(.fn 17 [(.ptr 2 2 0), (.ptr 3 3 0)])]), (2, .var 9 [(.str a0)]), (3, .var 47 [(.optr 3 3 0), (.bs 1 4 4 0 a2.length)]), (4, .row 5 (a2.map c8).flatten), (5, .row 9 (a5.map sc).flatten), (6, .row 25 (a6.map Node.cells).flatten)] (.tup []) 10 [(0, .var 67 [(.ptr 1 1 0), (.int .i64 a0_n.kind), (.str a0_n.text), (.sl 1 false (a0_n.gaps.map sc)), (.sl 4 false (a0_n.kids.map Node.cells)), (.int .i64 a3), (.str a4), (.bs 1 5 8 0 r.2.2.1.length), (.bs 4 6 9 0 r.2.2.2.1.length), (.int .i64 r.2.2.2.2)]), (1, .var 42 [(.fn 17 [(.ptr 2 2 0), (.ptr 3 3 0)])]), (2, .var 9 [(.str r.1)]), (3, .var 47 [(.optr 3 3 0), (.bs 1 4 7 0 r.2.1.length)]), (7, .row 5 (r.2.1.map c8).flatten), (8, .row 9 (r.2.2.1.map sc).flatten), (9, .row 25 (r.2.2.2.1.map Node.cells).flatten)]
@[reducible] def M_F_statementT_t53 (t1 : BA) (t4 : BA) (o0_1 : Node) (a0 : Int) (a1 : BA) (a2 : LB) (a3 : LN) (o0_3 : Int) (o2 : BA) (o3_1 : LU) (r : BA × LU × LB × LN) : Prop :=
  Ok Tryz.prog G tt 69 7 (Ret Tryz.prog [] (fun y H => yb Tryz.prog G 7 H y (.tup []) ⟨10, [(0, .var 67 [(.ptr 1 1 0), (.int .i64 o0_1.kind), (.str o0_1.text), (.sl 1 false (o0_1.gaps.map sc)), (.sl 4 false (o0_1.kids.map Node.cells)), (.int .i64 a0), (.str a1), (.bs 1 5 8 0 r.2.2.1.length), (.bs 4 6 9 0 r.2.2.2.length), (.int .i64 o0_3)]), (1, .var 42 [(.fn 17 [(.ptr 2 2 0), (.ptr 3 3 0)])]), (2, .var 9 [(.str r.1)]), (3, .var 47 [(.optr 3 3 0), (.bs 1 4 7 0 r.2.1.length)]), (7, .row 5 (r.2.1.map c8).flatten), (8, .row 9 (r.2.2.1.map sc).flatten), (9, .row 25 (r.2.2.2.map Node.cells).flatten)]⟩)) (.go [] (yo [53] Tryz.f35 53) [] (.n (.ptr 0 0 0) (.n (.str t1) .z .z) (.n .undef (.n (.str t4) .z .z) .z)) 10 [(0, .var 67 [(.ptr 1 1 0), (.int .i64 o0_1.kind), (.str o0_1.text), (.sl 1 false (o0_1.gaps.map sc)), (.sl 4 false (o0_1.kids.map Node.cells)), (.int .i64 a0), (.str a1), (.bs 1 5 8 0 a2.length), (.bs 4 6 9 0 a3.length), (.int .i64 o0_3)]), (1, .var 42 [(.fn 17 [(.ptr 2 2 0), (.ptr 3 3 0)])]), (2, .var 9 [(.str o2)]), (3, .var 47 [(.optr 3 3 0), (.bs 1 4 7 0 o3_1.length)]), (7, .row 5 (o3_1.map c8).flatten), (8, .row 9 (a2.map sc).flatten), (9, .row 25 (a3.map Node.cells).flatten)])
@[reducible] def M_F_otherT_l0 (a0 : LN) (j0 : Nat) (t1 : BA) (o0_1 : Node) (a1 : Int) (a2 : BA) (a3 : LB) (a4 : LN) (o0_3 : Int) (o2 : BA) (o3_1 : LU) (r : BA × LU × LB × LN × Int) : Prop :=
  ∀ (l0 : LN), l0.drop j0 = a0 → j0 ≤ l0.length → l0.length ≤ 9223372036854775807 → Ok Tryz.prog G tt 146 7 (Ret Tryz.prog [] (fun y H => yb Tryz.prog G 7 H y (.tup []) ⟨10, [(0, .var 67 [(.ptr 1 1 0), (.int .i64 o0_1.kind), (.str o0_1.text), (.sl 1 false (o0_1.gaps.map sc)), (.sl 4 false (o0_1.kids.map Node.cells)), (.int .i64 a1), (.str a2), (.bs 1 5 8 0 r.2.2.1.length), (.bs 4 6 9 0 r.2.2.2.1.length), (.int .i64 r.2.2.2.2)]), (1, .var 42 [(.fn 17 [(.ptr 2 2 0), (.ptr 3 3 0)])]), (2, .var 9 [(.str r.1)]), (3, .var 47 [(.optr 3 3 0), (.bs 1 4 7 0 r.2.1.length)]), (7, .row 5 (r.2.1.map c8).flatten), (8, .row 9 (r.2.2.1.map sc).flatten), (9, .row 25 (r.2.2.2.1.map Node.cells).flatten)]⟩)) (.again (jq [22, 33] Tryz.f36 0).1 (jq [22, 33] Tryz.f36 0).2 (.n (.ptr 0 0 0) (.n (.str t1) .z (.n .undef (.n .undef (.n (.int .i64 ((l0.map Node.cells).length : Int)) .z .z) .z) .z)) (.n .undef (.n .undef (.n .undef (.n (.sl 4 false (l0.map Node.cells)) .z .z) .z) .z) (.n .undef (.n .undef (.n (.int .i64 ((j0 : Nat) : Int)) .z .z) .z) .z))) 10 [(0, .var 67 [(.ptr 1 1 0), (.int .i64 o0_1.kind), (.str o0_1.text), (.sl 1 false (o0_1.gaps.map sc)), (.sl 4 false (o0_1.kids.map Node.cells)), (.int .i64 a1), (.str a2), (.bs 1 5 8 0 a3.length), (.bs 4 6 9 0 a4.length), (.int .i64 o0_3)]), (1, .var 42 [(.fn 17 [(.ptr 2 2 0), (.ptr 3 3 0)])]), (2, .var 9 [(.str o2)]), (3, .var 47 [(.optr 3 3 0), (.bs 1 4 7 0 o3_1.length)]), (7, .row 5 (o3_1.map c8).flatten), (8, .row 9 (a3.map sc).flatten), (9, .row 25 (a4.map Node.cells).flatten)])
@[reducible] def M_F_restT_l0 (t2 : Bool) (o0_1 : Node) (a0 : Int) (a1 : BA) (a2 : LB) (a3 : LN) (o0_3 : Int) (o2 : BA) (o3_1 : LU) (r : BA × LU × LB × LN) : Prop :=
  Ok Tryz.prog G tt 25 7 (Ret Tryz.prog [] (fun y H => yb Tryz.prog G 7 H y (.tup []) ⟨10, [(0, .var 67 [(.ptr 1 1 0), (.int .i64 o0_1.kind), (.str o0_1.text), (.sl 1 false (o0_1.gaps.map sc)), (.sl 4 false (o0_1.kids.map Node.cells)), (.int .i64 a0), (.str a1), (.bs 1 5 8 0 r.2.2.1.length), (.bs 4 6 9 0 r.2.2.2.length), (.int .i64 o0_3)]), (1, .var 42 [(.fn 17 [(.ptr 2 2 0), (.ptr 3 3 0)])]), (2, .var 9 [(.str r.1)]), (3, .var 47 [(.optr 3 3 0), (.bs 1 4 7 0 r.2.1.length)]), (7, .row 5 (r.2.1.map c8).flatten), (8, .row 9 (r.2.2.1.map sc).flatten), (9, .row 25 (r.2.2.2.map Node.cells).flatten)]⟩)) (.again (jq [1000001] Tryz.f53 0).1 (jq [1000001] Tryz.f53 0).2 (.n (.ptr 0 0 0) .z (.n (.bool t2) .z .z)) 10 [(0, .var 67 [(.ptr 1 1 0), (.int .i64 o0_1.kind), (.str o0_1.text), (.sl 1 false (o0_1.gaps.map sc)), (.sl 4 false (o0_1.kids.map Node.cells)), (.int .i64 a0), (.str a1), (.bs 1 5 8 0 a2.length), (.bs 4 6 9 0 a3.length), (.int .i64 o0_3)]), (1, .var 42 [(.fn 17 [(.ptr 2 2 0), (.ptr 3 3 0)])]), (2, .var 9 [(.str o2)]), (3, .var 47 [(.optr 3 3 0), (.bs 1 4 7 0 o3_1.length)]), (7, .row 5 (o3_1.map c8).flatten), (8, .row 9 (a2.map sc).flatten), (9, .row 25 (a3.map Node.cells).flatten)])
@[reducible] def M_F_bodyT_l0 (t1 : Int) (o0_1 : Node) (a0 : Int) (a1 : BA) (a2 : LB) (a3 : LN) (o0_3 : Int) (o2 : BA) (o3_1 : LU) (r : BA × LU × LB × LN × Int) : Prop :=
  Ok Tryz.prog G tt 55 7 (Ret Tryz.prog [] (fun y H => yb Tryz.prog G 7 H y (.tup []) ⟨10, [(0, .var 67 [(.ptr 1 1 0), (.int .i64 o0_1.kind), (.str o0_1.text), (.sl 1 false (o0_1.gaps.map sc)), (.sl 4 false (o0_1.kids.map Node.cells)), (.int .i64 a0), (.str a1), (.bs 1 5 8 0 r.2.2.1.length), (.bs 4 6 9 0 r.2.2.2.1.length), (.int .i64 r.2.2.2.2)]), (1, .var 42 [(.fn 17 [(.ptr 2 2 0), (.ptr 3 3 0)])]), (2, .var 9 [(.str r.1)]), (3, .var 47 [(.optr 3 3 0), (.bs 1 4 7 0 r.2.1.length)]), (7, .row 5 (r.2.1.map c8).flatten), (8, .row 9 (r.2.2.1.map sc).flatten), (9, .row 25 (r.2.2.2.1.map Node.cells).flatten)]⟩)) (.again (jq [] Tryz.f56 0).1 (jq [] Tryz.f56 0).2 (.n (.ptr 0 0 0) (.n (.int .i64 t1) .z .z) .z) 10 [(0, .var 67 [(.ptr 1 1 0), (.int .i64 o0_1.kind), (.str o0_1.text), (.sl 1 false (o0_1.gaps.map sc)), (.sl 4 false (o0_1.kids.map Node.cells)), (.int .i64 a0), (.str a1), (.bs 1 5 8 0 a2.length), (.bs 4 6 9 0 a3.length), (.int .i64 o0_3)]), (1, .var 42 [(.fn 17 [(.ptr 2 2 0), (.ptr 3 3 0)])]), (2, .var 9 [(.str o2)]), (3, .var 47 [(.optr 3 3 0), (.bs 1 4 7 0 o3_1.length)]), (7, .row 5 (o3_1.map c8).flatten), (8, .row 9 (a2.map sc).flatten), (9, .row 25 (a3.map Node.cells).flatten)])
@[reducible] def M_F_statementT_l0 (a0 : LN) (o0_1 : Node) (a1 : Int) (a2 : BA) (a3 : LB) (a4 : LN) (o0_3 : Int) (o2 : BA) (o3_1 : LU) (r : BA × LU × LB × LN) : Prop :=
  ∀ (l0 : LN) (j0 : Nat), l0.drop j0 = a0 → j0 ≤ l0.length → l0.length ≤ 9223372036854775807 → Ok Tryz.prog G tt 69 7 (Ret Tryz.prog [] (fun y H => yb Tryz.prog G 7 H y (.tup []) ⟨10, [(0, .var 67 [(.ptr 1 1 0), (.int .i64 o0_1.kind), (.str o0_1.text), (.sl 1 false (o0_1.gaps.map sc)), (.sl 4 false (o0_1.kids.map Node.cells)), (.int .i64 a1), (.str a2), (.bs 1 5 8 0 r.2.2.1.length), (.bs 4 6 9 0 r.2.2.2.length), (.int .i64 o0_3)]), (1, .var 42 [(.fn 17 [(.ptr 2 2 0), (.ptr 3 3 0)])]), (2, .var 9 [(.str r.1)]), (3, .var 47 [(.optr 3 3 0), (.bs 1 4 7 0 r.2.1.length)]), (7, .row 5 (r.2.1.map c8).flatten), (8, .row 9 (r.2.2.1.map sc).flatten), (9, .row 25 (r.2.2.2.map Node.cells).flatten)]⟩)) (.again (jq [53] Tryz.f35 0).1 (jq [53] Tryz.f35 0).2 (.n (.ptr 0 0 0) (.n .undef (.n .undef (.n .undef (.n .undef (.n .undef (.n (.int .i64 ((l0.map Node.cells).length : Int)) .z .z) .z) .z) .z) .z) .z) (.n .undef (.n .undef (.n .undef (.n .undef (.n .undef (.n (.int .i64 ((j0 : Nat) : Int)) .z .z) .z) .z) .z) .z) (.n .undef .z (.n .undef .z (.n .undef .z (.n (.sl 4 false (l0.map Node.cells)) .z .z)))))) 15 [(0, .var 67 [(.ptr 1 1 0), (.int .i64 o0_1.kind), (.str o0_1.text), (.sl 1 false (o0_1.gaps.map sc)), (.sl 4 false (o0_1.kids.map Node.cells)), (.int .i64 a1), (.str a2), (.bs 1 5 13 0 a3.length), (.bs 4 6 14 0 a4.length), (.int .i64 o0_3)]), (1, .var 42 [(.fn 17 [(.ptr 2 2 0), (.ptr 3 3 0)])]), (2, .var 9 [(.str o2)]), (3, .var 47 [(.optr 3 3 0), (.bs 1 4 12 0 o3_1.length)]), (12, .row 5 (o3_1.map c8).flatten), (13, .row 9 (a3.map sc).flatten), (14, .row 25 (a4.map Node.cells).flatten)])
@[reducible] def M_F_otherT_t22 (a0 : LN) (j0 : Nat) (t1 : BA) (o0_1 : Node) (a1 : Int) (a2 : BA) (a3 : LB) (a4 : LN) (o0_3 : Int) (o2 : BA) (o3_1 : LU) (r : BA × LU × LB × LN × Int) : Prop :=
  ∀ (l0 : LN), l0.drop (j0 + 1) = a0 → j0 + 1 ≤ l0.length → l0.length ≤ 9223372036854775807 → Ok Tryz.prog G tt 146 7 (Ret Tryz.prog [] (fun y H => yb Tryz.prog G 7 H y (.tup []) ⟨10, [(0, .var 67 [(.ptr 1 1 0), (.int .i64 o0_1.kind), (.str o0_1.text), (.sl 1 false (o0_1.gaps.map sc)), (.sl 4 false (o0_1.kids.map Node.cells)), (.int .i64 a1), (.str a2), (.bs 1 5 8 0 r.2.2.1.length), (.bs 4 6 9 0 r.2.2.2.1.length), (.int .i64 r.2.2.2.2)]), (1, .var 42 [(.fn 17 [(.ptr 2 2 0), (.ptr 3 3 0)])]), (2, .var 9 [(.str r.1)]), (3, .var 47 [(.optr 3 3 0), (.bs 1 4 7 0 r.2.1.length)]), (7, .row 5 (r.2.1.map c8).flatten), (8, .row 9 (r.2.2.1.map sc).flatten), (9, .row 25 (r.2.2.2.1.map Node.cells).flatten)]⟩)) (.go [] (yo [22, 33] Tryz.f36 22) [] (.n (.ptr 0 0 0) (.n (.str t1) .z (.n .undef (.n .undef (.n (.int .i64 ((l0.map Node.cells).length : Int)) .z .z) .z) .z)) (.n .undef (.n .undef (.n .undef (.n (.sl 4 false (l0.map Node.cells)) .z .z) .z) .z) (.n .undef (.n .undef (.n (.int .i64 ((j0 : Nat) : Int)) .z .z) .z) .z))) 13 [(0, .var 67 [(.ptr 1 1 0), (.int .i64 o0_1.kind), (.str o0_1.text), (.sl 1 false (o0_1.gaps.map sc)), (.sl 4 false (o0_1.kids.map Node.cells)), (.int .i64 a1), (.str a2), (.bs 1 5 11 0 a3.length), (.bs 4 6 12 0 a4.length), (.int .i64 o0_3)]), (1, .var 42 [(.fn 17 [(.ptr 2 2 0), (.ptr 3 3 0)])]), (2, .var 9 [(.str o2)]), (3, .var 47 [(.optr 3 3 0), (.bs 1 4 10 0 o3_1.length)]), (10, .row 5 (o3_1.map c8).flatten), (11, .row 9 (a3.map sc).flatten), (12, .row 25 (a4.map Node.cells).flatten)])
@[reducible] def M_F_restT_b1 (o0_1 : Node) (a0 : Int) (a1 : BA) (a2 : LB) (a3 : LN) (o0_3 : Int) (o2 : BA) (o3_1 : LU) (r : BA × LU × LB × LN) : Prop :=
  Ok Tryz.prog G tt 25 7 (Ret Tryz.prog [] (fun y H => yb Tryz.prog G 7 H y (.tup []) ⟨10, [(0, .var 67 [(.ptr 1 1 0), (.int .i64 o0_1.kind), (.str o0_1.text), (.sl 1 false (o0_1.gaps.map sc)), (.sl 4 false (o0_1.kids.map Node.cells)), (.int .i64 a0), (.str a1), (.bs 1 5 8 0 r.2.2.1.length), (.bs 4 6 9 0 r.2.2.2.length), (.int .i64 o0_3)]), (1, .var 42 [(.fn 17 [(.ptr 2 2 0), (.ptr 3 3 0)])]), (2, .var 9 [(.str r.1)]), (3, .var 47 [(.optr 3 3 0), (.bs 1 4 7 0 r.2.1.length)]), (7, .row 5 (r.2.1.map c8).flatten), (8, .row 9 (r.2.2.1.map sc).flatten), (9, .row 25 (r.2.2.2.map Node.cells).flatten)]⟩)) (.go [] (blockOf [1000001] Tryz.f53 1) [] (.n (.ptr 0 0 0) .z .z) 15 [(0, .var 67 [(.ptr 1 1 0), (.int .i64 o0_1.kind), (.str o0_1.text), (.sl 1 false (o0_1.gaps.map sc)), (.sl 4 false (o0_1.kids.map Node.cells)), (.int .i64 a0), (.str a1), (.bs 1 5 13 0 a2.length), (.bs 4 6 14 0 a3.length), (.int .i64 o0_3)]), (1, .var 42 [(.fn 17 [(.ptr 2 2 0), (.ptr 3 3 0)])]), (2, .var 9 [(.str o2)]), (3, .var 47 [(.optr 3 3 0), (.bs 1 4 12 0 o3_1.length)]), (12, .row 5 (o3_1.map c8).flatten), (13, .row 9 (a2.map sc).flatten), (14, .row 25 (a3.map Node.cells).flatten)])
theorem ALL_F_nodeT : PC5 M_F_nodeT F_nodeT ∧ PC9 M_F_otherT F_otherT ∧ PC10 M_F_namedT F_namedT ∧ PC9 M_F_kidT F_kidT ∧ PC9 M_F_bodyT F_bodyT ∧ PC9 M_F_bodyT_l0 F_bodyT_l0 ∧ PC8 M_F_restT F_restT ∧ PC9 M_F_restT_l0 F_restT_l0 ∧ PC8 M_F_restT_b1 F_restT_b1 ∧ PC11 M_F_otherT_l0 F_otherT_l0 ∧ PC11 M_F_otherT_t22 F_otherT_t22 ∧ PC9 M_F_statementT F_statementT ∧ PC10 M_F_statementT_t53 F_statementT_t53 ∧ PC9 M_F_statementT_l0 F_statementT_l0 ∧ PC9 M_F_expressionT F_expressionT := by
 refine F_nodeT.mutual_partial_correctness M_F_nodeT M_F_otherT M_F_namedT M_F_kidT M_F_bodyT M_F_bodyT_l0 M_F_restT M_F_restT_l0 M_F_restT_b1 M_F_otherT_l0 M_F_otherT_t22 M_F_statementT M_F_statementT_t53 M_F_statementT_l0 M_F_expressionT (fun F_otherT F_statementT F_expressionT H_F_otherT H_F_statementT H_F_expressionT a0 a4 a1 a2 a3 r h => ?_) (fun F_namedT F_kidT F_bodyT F_restT F_otherT_l0 H_F_namedT H_F_kidT H_F_bodyT H_F_restT H_F_otherT_l0 a0 a2 a0_n a3 a4 a5 a6 a7 a1 r h => ?_) (fun F_kidT H_F_kidT a0 a3 a0_n a4 a5 a6 a7 a8 a1 a2 r h => ?_) (fun F_nodeT H_F_nodeT a0 a2 a0_n a3 a4 a5 a6 a7 a1 r h => ?_) (fun F_bodyT_l0 H_F_bodyT_l0 a0 a2 a0_n a3 a4 a5 a6 a7 a1 r h => ?_) (fun F_kidT F_bodyT_l0 H_F_kidT H_F_bodyT_l0 t1 o0_1 a0 a1 a2 a3 o0_3 o2 o3_1 r h => ?_) (fun F_restT_l0 H_F_restT_l0 a0 a1 a0_n a2 a3 a4 a5 a6 r h => ?_) (fun F_kidT F_restT_b1 H_F_kidT H_F_restT_b1 t2 o0_1 a0 a1 a2 a3 o0_3 o2 o3_1 r h => ?_) (fun F_restT_l0 H_F_restT_l0 o0_1 a0 a1 a2 a3 o0_3 o2 o3_1 r h => ?_) (fun F_otherT_t22 H_F_otherT_t22 a0 j0 t1 o0_1 a1 a2 a3 a4 o0_3 o2 o3_1 r h => ?_) (fun F_kidT F_otherT_l0 H_F_kidT H_F_otherT_l0 a0 j0 t1 o0_1 a1 a2 a3 a4 o0_3 o2 o3_1 r h => ?_) (fun F_namedT F_kidT F_statementT_t53 H_F_namedT H_F_kidT H_F_statementT_t53 a0 a2 a0_n a3 a4 a5 a6 a7 a1 r h => ?_) (fun F_statementT_l0 H_F_statementT_l0 t1 t4 o0_1 a0 a1 a2 a3 o0_3 o2 o3_1 r h => ?_) (fun F_kidT F_statementT_l0 H_F_kidT H_F_statementT_l0 a0 o0_1 a1 a2 a3 a4 o0_3 o2 o3_1 r h => ?_) (fun F_kidT F_restT H_F_kidT H_F_restT a0 a2 a0_n a3 a4 a5 a6 a7 a1 r h => ?_)
 ·unfold qa at h
  refine ⟨?_, (q9 rfl rfl (q9 rfl rfl (q9 rfl rfl (zf zn rfl zv)))), (qk (qk (qk (qn zn zh)))), (za rfl (za rfl (za rfl (ze zn zx)))), (qk (qk (qk (qn zn zh)))), rfl, rfl, rfl, rfl⟩
  refine zq (T := tt) (N := 41) (rs := [.cell 8 25]) (fun vs w => by simp) Tryz.func16 rfl rfl rfl (by kernel_rfl) (by kernel_rfl) ?_
  refine kr [23, 30] ?_
  obtain ⟨x1, hx, h⟩ := bind_some h
  refine ql (H_F_grammar_Group _ _ hx) ?_
  refine kr [23, 30] ?_
  refine qg (fun hb => ?_) (fun hb => ?_)
  ·replace h := qx hb h
   refine kr [23, 30] ?_
   obtain ⟨x2, hx, h⟩ := bind_some h
   refine qb (ACalls.ghost (e := 9) (ACalls.ghost (e := 25) (ACalls.wkg (AC.go (objs := [(0, .var 42 [(.fn 17 [(.ptr 1 1 0), (.ptr 2 2 0)])]), (1, .var 9 [(.str a0)]), (2, .var 47 [(.optr 2 2 0), (.bs 1 3 3 0 a4.length)]), (3, .row 5 (a4.map c8).flatten), (4, .var 25 (zo a1)), (5, .var 25 [(.int .i64 0), (.str ⟨#[]⟩), (.sl 0 true []), (.sl 0 true [])]), (6, .var 67 [(.ptr 0 0 0), (.int .i64 a1.kind), (.str a1.text), (.sl 1 false (a1.gaps.map sc)), (.sl 4 false (a1.kids.map Node.cells)), (.int .i64 a1.kind), (.str a1.text), (.bs 1 7 7 0 ([] : LB).length), (.bs 4 8 8 0 ([] : LN).length), (.int .i64 a3)]), (7, .row 9 (([] : LB).map sc).flatten), (8, .row 25 (([] : LN).map Node.cells).flatten)]) (xs := [(.ptr 6 6 0), (.str a2)]) (H_F_expressionT _ _ _ _ _ _ _ _ _ _ hx) [6, 0, 1, 2, 3, 7, 8] [6, 0, 1, 2, 3, 7, 8] rfl rfl rfl rfl rfl rfl rfl rfl rfl) (zu (ji _) (zu (ji _) kq)) (zj (zj (zj (zj (zj (zj (kp (qw (q8 _) (qw (q8 _) (qw (q8 _) (qw (q8 _) (qw (q8 _) (qw (q8 _) (qw (q8 _) (qw (j9 rfl) (qw (j9 rfl) (qw (q8 _) wh)))))))))) (ym _))))))))))) ?_
   refine kr [23, 30] ?_
   exact q7 (by kernel_rfl) rfl lQ (H_F_nodeT_t23 _ _ _ _ _ _ _ _ _ h)
  ·replace h := qy hb h
   refine kr [23, 30] ?_
   obtain ⟨x3, hx, h⟩ := bind_some h
   refine ql (H_F_grammar_Group _ _ hx) ?_
   refine kr [23, 30] ?_
   refine qg (fun hb => ?_) (fun hb => ?_)
   ·replace h := qx hb h
    refine kr [23, 30] ?_
    obtain ⟨x4, hx, h⟩ := bind_some h
    refine qb (ACalls.ghost (e := 9) (ACalls.ghost (e := 25) (ACalls.wkg (AC.go (objs := [(0, .var 42 [(.fn 17 [(.ptr 1 1 0), (.ptr 2 2 0)])]), (1, .var 9 [(.str a0)]), (2, .var 47 [(.optr 2 2 0), (.bs 1 3 3 0 a4.length)]), (3, .row 5 (a4.map c8).flatten), (4, .var 25 (zo a1)), (5, .var 25 [(.int .i64 0), (.str ⟨#[]⟩), (.sl 0 true []), (.sl 0 true [])]), (6, .var 67 [(.ptr 0 0 0), (.int .i64 a1.kind), (.str a1.text), (.sl 1 false (a1.gaps.map sc)), (.sl 4 false (a1.kids.map Node.cells)), (.int .i64 a1.kind), (.str a1.text), (.bs 1 7 7 0 ([] : LB).length), (.bs 4 8 8 0 ([] : LN).length), (.int .i64 a3)]), (7, .row 9 (([] : LB).map sc).flatten), (8, .row 25 (([] : LN).map Node.cells).flatten)]) (xs := [(.ptr 6 6 0), (.str a2)]) (H_F_statementT _ _ _ _ _ _ _ _ _ _ hx) [6, 0, 1, 2, 3, 7, 8] [6, 0, 1, 2, 3, 7, 8] rfl rfl rfl rfl rfl rfl rfl rfl rfl) (zu (ji _) (zu (ji _) kq)) (zj (zj (zj (zj (zj (zj (kp (qw (q8 _) (qw (q8 _) (qw (q8 _) (qw (q8 _) (qw (q8 _) (qw (q8 _) (qw (q8 _) (qw (j9 rfl) (qw (j9 rfl) (qw (q8 _) wh)))))))))) (ym _))))))))))) ?_
    refine kr [23, 30] ?_
    exact q7 (by kernel_rfl) rfl lQ (H_F_nodeT_t30 _ _ _ _ _ _ _ _ _ h)
   ·replace h := qy hb h
    refine kr [23, 30] ?_
    obtain ⟨x5, hx, h⟩ := bind_some h
    refine qb (ACalls.ghost (e := 9) (ACalls.ghost (e := 25) (ACalls.wkg (AC.go (objs := [(0, .var 42 [(.fn 17 [(.ptr 1 1 0), (.ptr 2 2 0)])]), (1, .var 9 [(.str a0)]), (2, .var 47 [(.optr 2 2 0), (.bs 1 3 3 0 a4.length)]), (3, .row 5 (a4.map c8).flatten), (4, .var 25 (zo a1)), (5, .var 25 [(.int .i64 0), (.str ⟨#[]⟩), (.sl 0 true []), (.sl 0 true [])]), (6, .var 67 [(.ptr 0 0 0), (.int .i64 a1.kind), (.str a1.text), (.sl 1 false (a1.gaps.map sc)), (.sl 4 false (a1.kids.map Node.cells)), (.int .i64 a1.kind), (.str a1.text), (.bs 1 7 7 0 ([] : LB).length), (.bs 4 8 8 0 ([] : LN).length), (.int .i64 a3)]), (7, .row 9 (([] : LB).map sc).flatten), (8, .row 25 (([] : LN).map Node.cells).flatten)]) (xs := [(.ptr 6 6 0), (.str a2)]) (H_F_otherT _ _ _ _ _ _ _ _ _ _ hx) [6, 0, 1, 2, 3, 7, 8] [6, 0, 1, 2, 3, 7, 8] rfl rfl rfl rfl rfl rfl rfl rfl rfl) (zu (ji _) (zu (ji _) kq)) (zj (zj (zj (zj (zj (zj (kp (qw (q8 _) (qw (q8 _) (qw (q8 _) (qw (q8 _) (qw (q8 _) (qw (q8 _) (qw (q8 _) (qw (j9 rfl) (qw (j9 rfl) (qw (q8 _) wh)))))))))) (ym _))))))))))) ?_
    refine kr [23, 30] ?_
    exact q7 (by kernel_rfl) rfl lQ (H_F_nodeT_t30 _ _ _ _ _ _ _ _ _ h)
 ·unfold qa at h
  refine ⟨?_, (q9 rfl rfl (q9 rfl rfl (q9 rfl rfl (q9 rfl rfl (zf zn rfl (zf qp rfl (zf qj rfl zv))))))), (qk (qk (qk (qk (qn zn (qn qp (qn qj zh))))))), (za rfl (za rfl (za rfl (za rfl (ze zn (ze qp (ze qj zx))))))), (qk (qk (qk (qk (qn zn (qn qp (qn qj zh))))))), rfl, rfl, rfl, rfl⟩
  refine zq (T := tt) (N := 146) (rs := []) (fun vs w => by simp) Tryz.func36 rfl rfl rfl (by kernel_rfl) (by kernel_rfl) ?_
  refine kr [22, 33] ?_
  refine qg (fun hb => ?_) (fun hb => ?_)
  ·replace h := qx hb h
   refine kr [22, 33] ?_
   refine Zv 16 rfl (fun hm => ?_)
   exact jp (by kernel_rfl) lQ (H_F_otherT_l0 _ _ _ _ _ _ _ _ _ _ _ _ h a0_n.kids rfl (Nat.zero_le _) (w7 hm))
  ·replace h := qy hb h
   refine kr [22, 33] ?_
   refine qg (fun hb => ?_) (fun hb => ?_)
   ·replace h := qx hb h
    refine kr [22, 33] ?_
    obtain ⟨x37, hx, h⟩ := bind_some h
    refine qb (AC.g9 (H_F_ownT _ _ _ _ _ _ _ _ _ _ _ hx) [0, 1, 2, 3, 4, 5, 6] [0, 1, 2, 3, 4, 5, 6]) ?_
    refine kr [22, 33] ?_
    obtain ⟨x38, hx, h⟩ := bind_some h
    refine qb (AC.g9 (H_F_ownT _ _ _ _ _ _ _ _ _ _ _ hx) [0, 1, 2, 3, 4, 5, 6] [0, 1, 2, 3, 7, 8, 6]) ?_
    refine kr [22, 33] ?_
    obtain ⟨x39, hx, h⟩ := bind_some h
    refine qb (AC.g9 (H_F_kidT _ _ _ _ _ _ _ _ _ _ hx) [0, 1, 2, 3, 4, 5, 6] [0, 1, 2, 3, 9, 10, 6]) ?_
    refine kr [22, 33] ?_
    obtain ⟨x40, hx, h⟩ := bind_some h
    refine qb (AC.g9 (H_F_kidT _ _ _ _ _ _ _ _ _ _ hx) [0, 1, 2, 3, 4, 5, 6] [0, 1, 2, 3, 11, 10, 12]) ?_
    refine kr [22, 33] ?_
    obtain ⟨x41, hx, h⟩ := bind_some h
    refine qb (AC.g9 (H_F_kidT _ _ _ _ _ _ _ _ _ _ hx) [0, 1, 2, 3, 4, 5, 6] [0, 1, 2, 3, 13, 10, 14]) ?_
    refine kr [22, 33] ?_
    cases h
    exact qv env rfl (tS [some 0, some 1, some 2, some 3, some 4, some 5, some 6] (sV (lS (lS (lS (lS (lS (lS (lS (lS (lS (lS lN)))))))))) (sV (lS lN) (sV (lS lN) (sV (lS (lS lN)) (sR zn (sR qp (sR qj qt))))))) (qz qu))
   ·replace h := qy hb h
    refine kr [22, 33] ?_
    refine qg (fun hb => ?_) (fun hb => ?_)
    ·replace h := qx hb h
     refine kr [22, 33] ?_
     obtain ⟨x42, hx, h⟩ := bind_some h
     refine qb (AC.g9 (H_F_ownT _ _ _ _ _ _ _ _ _ _ _ hx) [0, 1, 2, 3, 4, 5, 6] [0, 1, 2, 3, 4, 5, 6]) ?_
     refine kr [22, 33] ?_
     obtain ⟨x43, hx, h⟩ := bind_some h
     refine qb (AC.g9 (H_F_restT _ _ _ _ _ _ _ _ _ hx) [0, 1, 2, 3, 4, 5, 6] [0, 1, 2, 3, 7, 8, 6]) ?_
     refine kr [22, 33] ?_
     cases h
     exact qv env rfl (tS [some 0, some 1, some 2, some 3, some 4, some 5, some 6] (sV (lS (lS (lS (lS (lS (lS (lS (lS (lS (lS lN)))))))))) (sV (lS lN) (sV (lS lN) (sV (lS (lS lN)) (sR zn (sR qp (sR qj qt))))))) (qz qu))
    ·replace h := qy hb h
     refine kr [22, 33] ?_
     refine qg (fun hb => ?_) (fun hb => ?_)
     ·replace h := qx hb h
      refine kr [22, 33] ?_
      obtain ⟨x44, hx, h⟩ := bind_some h
      refine qb (AC.g9 (H_F_ownT _ _ _ _ _ _ _ _ _ _ _ hx) [0, 1, 2, 3, 4, 5, 6] [0, 1, 2, 3, 4, 5, 6]) ?_
      refine kr [22, 33] ?_
      obtain ⟨x45, hx, h⟩ := bind_some h
      refine qb (AC.g9 (H_F_kidT _ _ _ _ _ _ _ _ _ _ hx) [0, 1, 2, 3, 4, 5, 6] [0, 1, 2, 3, 7, 8, 6]) ?_
      refine kr [22, 33] ?_
      cases h
      exact qv env rfl (tS [some 0, some 1, some 2, some 3, some 4, some 5, some 6] (sV (lS (lS (lS (lS (lS (lS (lS (lS (lS (lS lN)))))))))) (sV (lS lN) (sV (lS lN) (sV (lS (lS lN)) (sR zn (sR qp (sR qj qt))))))) (qz qu))
     ·replace h := qy hb h
      refine kr [22, 33] ?_
      refine qg (fun hb => ?_) (fun hb => ?_)
      ·replace h := qx hb h
       refine kr [22, 33] ?_
       obtain ⟨x46, hx, h⟩ := bind_some h
       refine qb (AC.g9 (H_F_ownT _ _ _ _ _ _ _ _ _ _ _ hx) [0, 1, 2, 3, 4, 5, 6] [0, 1, 2, 3, 4, 5, 6]) ?_
       refine kr [22, 33] ?_
       cases h
       exact qv env rfl (tS [some 0, some 1, some 2, some 3, some 4, some 5, some 6] (sV (lS (lS (lS (lS (lS (lS (lS (lS (lS (lS lN)))))))))) (sV (lS lN) (sV (lS lN) (sV (lS (lS lN)) (sR zn (sR qp (sR qj qt))))))) (qz qu))
      ·replace h := qy hb h
       refine kr [22, 33] ?_
       refine qg (fun hb => ?_) (fun hb => ?_)
       ·replace h := qx hb h
        refine kr [22, 33] ?_
        obtain ⟨x47, hx, h⟩ := bind_some h
        refine qb (AC.g9 (H_F_ownT _ _ _ _ _ _ _ _ _ _ _ hx) [0, 1, 2, 3, 4, 5, 6] [0, 1, 2, 3, 4, 5, 6]) ?_
        refine kr [22, 33] ?_
        obtain ⟨x48, hx, h⟩ := bind_some h
        refine qb (AC.g9 (H_F_bodyT _ _ _ _ _ _ _ _ _ _ hx) [0, 1, 2, 3, 4, 5, 6] [0, 1, 2, 3, 7, 8, 6]) ?_
        refine kr [22, 33] ?_
        cases h
        exact qv env rfl (tS [some 0, some 1, some 2, some 3, some 4, some 5, some 6] (sV (lS (lS (lS (lS (lS (lS (lS (lS (lS (lS lN)))))))))) (sV (lS lN) (sV (lS lN) (sV (lS (lS lN)) (sR zn (sR qp (sR qj qt))))))) (qz qu))
       ·replace h := qy hb h
        refine kr [22, 33] ?_
        refine qg (fun hb => ?_) (fun hb => ?_)
        ·replace h := qx hb h
         refine kr [22, 33] ?_
         obtain ⟨x49, hx, h⟩ := bind_some h
         refine qb (AC.g9 (H_F_ownT _ _ _ _ _ _ _ _ _ _ _ hx) [0, 1, 2, 3, 4, 5, 6] [0, 1, 2, 3, 4, 5, 6]) ?_
         refine kr [22, 33] ?_
         obtain ⟨x50, hx, h⟩ := bind_some h
         refine qb (AC.g9 (H_F_ownT _ _ _ _ _ _ _ _ _ _ _ hx) [0, 1, 2, 3, 4, 5, 6] [0, 1, 2, 3, 7, 8, 6]) ?_
         refine kr [22, 33] ?_
         obtain ⟨x51, hx, h⟩ := bind_some h
         refine qb (AC.g9 (H_F_kidT _ _ _ _ _ _ _ _ _ _ hx) [0, 1, 2, 3, 4, 5, 6] [0, 1, 2, 3, 9, 10, 6]) ?_
         refine kr [22, 33] ?_
         obtain ⟨x52, hx, h⟩ := bind_some h
         refine qb (AC.g9 (H_F_ownT _ _ _ _ _ _ _ _ _ _ _ hx) [0, 1, 2, 3, 4, 5, 6] [0, 1, 2, 3, 11, 10, 12]) ?_
         refine kr [22, 33] ?_
         obtain ⟨x53, hx, h⟩ := bind_some h
         refine qb (AC.g9 (H_F_bodyT _ _ _ _ _ _ _ _ _ _ hx) [0, 1, 2, 3, 4, 5, 6] [0, 1, 2, 3, 13, 14, 12]) ?_
         refine kr [22, 33] ?_
         cases h
         exact qv env rfl (tS [some 0, some 1, some 2, some 3, some 4, some 5, some 6] (sV (lS (lS (lS (lS (lS (lS (lS (lS (lS (lS lN)))))))))) (sV (lS lN) (sV (lS lN) (sV (lS (lS lN)) (sR zn (sR qp (sR qj qt))))))) (qz qu))
        ·replace h := qy hb h
         refine kr [22, 33] ?_
         refine qg (fun hb => ?_) (fun hb => ?_)
         ·replace h := qx hb h
          refine kr [22, 33] ?_
          refine qg (fun hb => ?_) (fun hb => ?_)
          ·replace h := qx hb h
           refine kr [22, 33] ?_
           obtain ⟨x54, hx, h⟩ := bind_some h
           refine qb (AC.g9 (H_F_ownT _ _ _ _ _ _ _ _ _ _ _ hx) [0, 1, 2, 3, 4, 5, 6] [0, 1, 2, 3, 4, 5, 6]) ?_
           refine kr [22, 33] ?_
           obtain ⟨x55, hx, h⟩ := bind_some h
           refine qb (AC.g9 (H_F_ownT _ _ _ _ _ _ _ _ _ _ _ hx) [0, 1, 2, 3, 4, 5, 6] [0, 1, 2, 3, 7, 8, 6]) ?_
           refine kr [22, 33] ?_
           cases h
           exact qv env rfl (tS [some 0, some 1, some 2, some 3, some 4, some 5, some 6] (sV (lS (lS (lS (lS (lS (lS (lS (lS (lS (lS lN)))))))))) (sV (lS lN) (sV (lS lN) (sV (lS (lS lN)) (sR zn (sR qp (sR qj qt))))))) (qz qu))
          ·replace h := qy hb h
           refine kr [22, 33] ?_
           cases h
           exact qv env rfl (tS [some 0, some 1, some 2, some 3, some 4, some 5, some 6] (sV (lS (lS (lS (lS (lS (lS (lS (lS (lS (lS lN)))))))))) (sV (lS lN) (sV (lS lN) (sV (lS (lS lN)) (sR zn (sR qp (sR qj qt))))))) (qz qu))
         ·replace h := qy hb h
          refine kr [22, 33] ?_
          refine qg (fun hb => ?_) (fun hb => ?_)
          ·replace h := qx hb h
           refine kr [22, 33] ?_
           obtain ⟨x56, hx, h⟩ := bind_some h
           refine qb (AC.g9 (H_F_namedT _ _ _ _ _ _ _ _ _ _ _ hx) [0, 1, 2, 3, 4, 5, 6] [0, 1, 2, 3, 4, 5, 6]) ?_
           refine kr [22, 33] ?_
           cases h
           exact qv env rfl (tS [some 0, some 1, some 2, some 3, some 4, some 5, some 6] (sV (lS (lS (lS (lS (lS (lS (lS (lS (lS (lS lN)))))))))) (sV (lS lN) (sV (lS lN) (sV (lS (lS lN)) (sR zn (sR qp (sR qj qt))))))) (qz qu))
          ·replace h := qy hb h
           refine kr [22, 33] ?_
           refine qg (fun hb => ?_) (fun hb => ?_)
           ·replace h := qx hb h
            refine kr [22, 33] ?_
            refine qg (fun hb => ?_) (fun hb => ?_)
            ·replace h := qx hb h
             refine kr [22, 33] ?_
             obtain ⟨x57, hx, h⟩ := bind_some h
             refine qb (AC.g9 (H_F_ownT _ _ _ _ _ _ _ _ _ _ _ hx) [0, 1, 2, 3, 4, 5, 6] [0, 1, 2, 3, 4, 5, 6]) ?_
             refine kr [22, 33] ?_
             obtain ⟨x58, hx, h⟩ := bind_some h
             refine qb (AC.g9 (H_F_kidT _ _ _ _ _ _ _ _ _ _ hx) [0, 1, 2, 3, 4, 5, 6] [0, 1, 2, 3, 7, 8, 6]) ?_
             refine kr [22, 33] ?_
             cases h
             exact qv env rfl (tS [some 0, some 1, some 2, some 3, some 4, some 5, some 6] (sV (lS (lS (lS (lS (lS (lS (lS (lS (lS (lS lN)))))))))) (sV (lS lN) (sV (lS lN) (sV (lS (lS lN)) (sR zn (sR qp (sR qj qt))))))) (qz qu))
            ·replace h := qy hb h
             refine kr [22, 33] ?_
             cases h
             exact qv env rfl (tS [some 0, some 1, some 2, some 3, some 4, some 5, some 6] (sV (lS (lS (lS (lS (lS (lS (lS (lS (lS (lS lN)))))))))) (sV (lS lN) (sV (lS lN) (sV (lS (lS lN)) (sR zn (sR qp (sR qj qt))))))) (qz qu))
           ·replace h := qy hb h
            refine kr [22, 33] ?_
            cases h
            exact qv env rfl (tS [some 0, some 1, some 2, some 3, some 4, some 5, some 6] (sV (lS (lS (lS (lS (lS (lS (lS (lS (lS (lS lN)))))))))) (sV (lS lN) (sV (lS lN) (sV (lS (lS lN)) (sR zn (sR qp (sR qj qt))))))) (qz qu))
 ·unfold qa at h
  refine ⟨?_, (q9 rfl rfl (q9 rfl rfl (q9 rfl rfl (q9 rfl rfl (zf zn rfl (zf qp rfl (zf qj rfl zv))))))), (qk (qk (qk (qk (qn zn (qn qp (qn qj zh))))))), (za rfl (za rfl (za rfl (za rfl (ze zn (ze qp (ze qj zx))))))), (qk (qk (qk (qk (qn zn (qn qp (qn qj zh))))))), rfl, rfl, rfl, rfl⟩
  refine zq (T := tt) (N := 23) (rs := []) (fun vs w => by simp) Tryz.func55 rfl rfl rfl (by kernel_rfl) (by kernel_rfl) ?_
  refine kr [] ?_
  obtain ⟨x62, hx, h⟩ := bind_some h
  refine qb (AC.g9 (H_F_ownT _ _ _ _ _ _ _ _ _ _ _ hx) [0, 1, 2, 3, 4, 5, 6] [0, 1, 2, 3, 4, 5, 6]) ?_
  refine kr [] ?_
  obtain ⟨x63, hx, h⟩ := bind_some h
  refine qb (AC.g9 (H_F_ownT _ _ _ _ _ _ _ _ _ _ _ hx) [0, 1, 2, 3, 4, 5, 6] [0, 1, 2, 3, 7, 8, 6]) ?_
  refine kr [] ?_
  obtain ⟨x64, hx, h⟩ := bind_some h
  refine qb (AC.g9 (H_F_ownT _ _ _ _ _ _ _ _ _ _ _ hx) [0, 1, 2, 3, 4, 5, 6] [0, 1, 2, 3, 9, 10, 6]) ?_
  refine kr [] ?_
  obtain ⟨x65, hx, h⟩ := bind_some h
  refine qb (AC.g9 (H_F_kidT _ _ _ _ _ _ _ _ _ _ hx) [0, 1, 2, 3, 4, 5, 6] [0, 1, 2, 3, 11, 12, 6]) ?_
  refine kr [] ?_
  obtain ⟨x66, hx, h⟩ := bind_some h
  refine qb (AC.g9 (H_F_ownT _ _ _ _ _ _ _ _ _ _ _ hx) [0, 1, 2, 3, 4, 5, 6] [0, 1, 2, 3, 13, 12, 14]) ?_
  refine kr [] ?_
  cases h
  exact qv env rfl (tS [some 0, some 1, some 2, some 3, some 4, some 5, some 6] (sV (lS (lS (lS (lS (lS (lS (lS (lS (lS (lS lN)))))))))) (sV (lS lN) (sV (lS lN) (sV (lS (lS lN)) (sR zn (sR qp (sR qj qt))))))) (qz qu))
 ·unfold qa at h
  refine ⟨?_, (q9 rfl rfl (q9 rfl rfl (q9 rfl rfl (q9 rfl rfl (zf zn rfl (zf qp rfl (zf qj rfl zv))))))), (qk (qk (qk (qk (qn zn (qn qp (qn qj zh))))))), (za rfl (za rfl (za rfl (za rfl (ze zn (ze qp (ze qj zx))))))), (qk (qk (qk (qk (qn zn (qn qp (qn qj zh))))))), rfl, rfl, rfl, rfl⟩
  refine zq (T := tt) (N := 41) (rs := []) (fun vs w => by simp) Tryz.func54 rfl rfl rfl (by kernel_rfl) (by kernel_rfl) ?_
  refine kr [] ?_
  obtain ⟨x59, hx, h⟩ := bind_some h
  refine w9 env hx rfl rfl rfl rfl (Node.cells_eq x59) ?_
  refine kr [] ?_
  obtain ⟨x60, hx, h⟩ := bind_some h
  refine qb (AC.g9 (H_F_nodeT _ _ _ _ _ _ hx) [1, 2, 3, 4] [1, 2, 3, 4]) ?_
  refine kr [] ?_
  obtain ⟨x61, hx, h⟩ := bind_some h
  have hz_x61 := hx
  refine Ok_appOZ (C := Node.cells) env hx rfl rfl Node.cells_len rfl rfl rfl rfl rfl (by decide) rfl rfl rfl ?_
  refine kr [] ?_
  refine Ok_ixB env rfl rfl rfl rfl (Int.natCast_nonneg _) (app_last hz_x61) ?_
  refine kr [] ?_
  refine Ok_storeZ hz_x61 qj rfl rfl (Node.cells_eq x60.1).symm rfl rfl rfl ?_
  refine kr [] ?_
  cases h
  exact qv env rfl (tS [some 0, some 1, some 2, some 3, some 4, some 5, some 6] (sV (lS (lS (lS (lS (lS (lS (lS (lS (lS (lS lN)))))))))) (sV (lS lN) (sV (lS lN) (sV (lS (lS lN)) (sR zn (sR qp (sR qj qt))))))) (qz qu))
 ·unfold qa at h
  refine ⟨?_, (q9 rfl rfl (q9 rfl rfl (q9 rfl rfl (q9 rfl rfl (zf zn rfl (zf qp rfl (zf qj rfl zv))))))), (qk (qk (qk (qk (qn zn (qn qp (qn qj zh))))))), (za rfl (za rfl (za rfl (za rfl (ze zn (ze qp (ze qj zx))))))), (qk (qk (qk (qk (qn zn (qn qp (qn qj zh))))))), rfl, rfl, rfl, rfl⟩
  refine zq (T := tt) (N := 55) (rs := []) (fun vs w => by simp) Tryz.func56 rfl rfl rfl (by kernel_rfl) (by kernel_rfl) ?_
  refine kr [] ?_
  exact jp (by kernel_rfl) lQ (H_F_bodyT_l0 _ _ _ _ _ _ _ _ _ _ h)
 ·unfold qa at h
  refine jz ?_
  refine kr [] ?_
  refine qg (fun hb => ?_) (fun hb => ?_)
  ·replace h := qx hb h
   refine kr [] ?_
   obtain ⟨x72, hx, h⟩ := bind_some h
   refine ql (H_F_print_line _ _ hx) ?_
   refine kr [] ?_
   obtain ⟨x73, hx, h⟩ := bind_some h
   refine qb (AC.g9 (H_F_kidT _ _ _ _ _ _ _ _ _ _ hx) [0, 1, 2, 3, 4, 5, 6] [0, 1, 2, 3, 7, 8, 9]) ?_
   refine kr [] ?_
   exact je (by kernel_rfl) lQ (H_F_bodyT_l0 _ _ _ _ _ _ _ _ _ _ h)
  ·replace h := qy hb h
   refine kr [] ?_
   refine qg (fun hb => ?_) (fun hb => ?_)
   ·replace h := qx hb h
    refine kr [] ?_
    obtain ⟨x74, hx, h⟩ := bind_some h
    refine ql (H_F_print_line _ _ hx) ?_
    refine kr [] ?_
    obtain ⟨x75, hx, h⟩ := bind_some h
    refine qb (AC.g9 (H_F_ownT _ _ _ _ _ _ _ _ _ _ _ hx) [0, 1, 2, 3, 4, 5, 6] [0, 1, 2, 3, 7, 8, 9]) ?_
    refine kr [] ?_
    cases h
    exact qv env rfl (tS [some 0, some 1, some 2, some 3, some 4, some 5, some 6] (sV (lS (lS (lS (lS (lS (lS (lS (lS (lS (lS lN)))))))))) (sV (lS lN) (sV (lS lN) (sV (lS (lS lN)) (sR zn (sR qp (sR qj qt))))))) (qz qu))
   ·replace h := qy hb h
    refine kr [] ?_
    obtain ⟨x76, hx, h⟩ := bind_some h
    refine qb (AC.g9 (H_F_ownT _ _ _ _ _ _ _ _ _ _ _ hx) [0, 1, 2, 3, 4, 5, 6] [0, 1, 2, 3, 7, 8, 9]) ?_
    refine kr [] ?_
    cases h
    exact qv env rfl (tS [some 0, some 1, some 2, some 3, some 4, some 5, some 6] (sV (lS (lS (lS (lS (lS (lS (lS (lS (lS (lS lN)))))))))) (sV (lS lN) (sV (lS lN) (sV (lS (lS lN)) (sR zn (sR qp (sR qj qt))))))) (qz qu))
 ·unfold qa at h
  refine ⟨?_, (q9 rfl rfl (q9 rfl rfl (q9 rfl rfl (q9 rfl rfl (zf zn rfl (zf qp rfl (zf qj rfl zv))))))), (qk (qk (qk (qk (qn zn (qn qp (qn qj zh))))))), (za rfl (za rfl (za rfl (za rfl (ze zn (ze qp (ze qj zx))))))), (qk (qk (qk (qk (qn zn (qn qp (qn qj zh))))))), rfl, rfl, rfl, rfl⟩
  refine zq (T := tt) (N := 25) (rs := []) (fun vs w => by simp) Tryz.func53 rfl rfl rfl (by kernel_rfl) (by kernel_rfl) ?_
  refine kr [1000001] ?_
  exact jp (by kernel_rfl) lQ (H_F_restT_l0 _ _ _ _ _ _ _ _ _ _ h)
 ·unfold qa at h
  refine jz ?_
  refine kr [1000001] ?_
  refine qg (fun hb => ?_) (fun hb => ?_)
  ·replace h := qx hb h
   refine kr [1000001] ?_
   refine qg (fun hb => ?_) (fun hb => ?_)
   ·replace h := qx hb h
    refine kr [1000001] ?_
    obtain ⟨x68, hx, h⟩ := bind_some h
    refine qb (AC.g9 (H_F_kidT _ _ _ _ _ _ _ _ _ _ hx) [0, 1, 2, 3, 4, 5, 6] [0, 1, 2, 3, 7, 8, 9]) ?_
    refine kr [1000001] ?_
    exact q7 (by kernel_rfl) rfl lQ (H_F_restT_b1 _ _ _ _ _ _ _ _ _ h)
   ·replace h := qy hb h
    refine kr [1000001] ?_
    obtain ⟨x69, hx, h⟩ := bind_some h
    refine qb (AC.g9 (H_F_ownT _ _ _ _ _ _ _ _ _ _ _ hx) [0, 1, 2, 3, 4, 5, 6] [0, 1, 2, 3, 7, 8, 9]) ?_
    refine kr [1000001] ?_
    obtain ⟨x70, hx, h⟩ := bind_some h
    refine qb (AC.g9 (H_F_kidT _ _ _ _ _ _ _ _ _ _ hx) [0, 1, 2, 3, 4, 5, 6] [0, 1, 2, 3, 10, 11, 9]) ?_
    refine kr [1000001] ?_
    exact q7 (by kernel_rfl) rfl lQ (H_F_restT_b1 _ _ _ _ _ _ _ _ _ h)
  ·replace h := qy hb h
   refine kr [1000001] ?_
   obtain ⟨x71, hx, h⟩ := bind_some h
   refine qb (AC.g9 (H_F_ownT _ _ _ _ _ _ _ _ _ _ _ hx) [0, 1, 2, 3, 4, 5, 6] [0, 1, 2, 3, 7, 8, 9]) ?_
   refine kr [1000001] ?_
   cases h
   exact qv env rfl (tS [some 0, some 1, some 2, some 3, some 4, some 5, some 6] (sV (lS (lS (lS (lS (lS (lS (lS (lS (lS (lS lN)))))))))) (sV (lS lN) (sV (lS lN) (sV (lS (lS lN)) (sR zn (sR qp (sR qj qt))))))) (qz qu))
 ·unfold qa at h
  refine kr [1000001] ?_
  exact je (by kernel_rfl) lQ (H_F_restT_l0 _ _ _ _ _ _ _ _ _ _ h)
 ·unfold qa at h
  intro l0 hl0 hj0 hm0
  refine jz ?_
  cases a0 with
  | nil =>
    have hb := u1 (C := Node.cells) hl0 hj0
    refine kr [22, 33] ?_
    refine qi hb ?_
    refine kr [22, 33] ?_
    refine qg (fun hb => ?_) (fun hb => ?_)
    ·replace h := qx hb h
     refine kr [22, 33] ?_
     exact q7 (by kernel_rfl) rfl lQ (H_F_otherT_t33 _ _ _ _ _ _ _ _ _ _ h)
    ·replace h := qy hb h
     refine kr [22, 33] ?_
     exact q7 (by kernel_rfl) rfl lQ (H_F_otherT_t33 _ _ _ _ _ _ _ _ _ _ h)
  | cons x_0 a0 =>
    obtain ⟨hb, hx0, hd0, hk0, hw0⟩ := w6 (C := Node.cells) hl0 hm0
    refine kr [22, 33] ?_
    refine qh hb ?_
    refine kr [22, 33] ?_
    refine qg (fun hb => ?_) (fun hb => ?_)
    ·replace h := qx hb h
     refine kr [22, 33] ?_
     exact q7 (by kernel_rfl) rfl lQ (H_F_otherT_t22 _ _ _ _ _ _ _ _ _ _ _ _ h l0 hd0 hk0 hm0)
    ·replace h := qy hb h
     refine kr [22, 33] ?_
     exact q7 (by kernel_rfl) rfl lQ (H_F_otherT_t22 _ _ _ _ _ _ _ _ _ _ _ _ h l0 hd0 hk0 hm0)
 ·unfold qa at h
  intro l0 hd0 hk0 hm0
  have hw0 := range_w hk0 hm0
  refine kr [22, 33] ?_
  obtain ⟨x79, hx, h⟩ := bind_some h
  refine qb (AC.g9 (H_F_kidT _ _ _ _ _ _ _ _ _ _ hx) [0, 1, 2, 3, 4, 5, 6] [0, 1, 2, 3, 10, 11, 12]) ?_
  refine kr [22, 33] ?_
  exact je (by kernel_rfl) (Qb (J1 rfl) (Nat.le_of_ble_eq_true rfl) (by simp only [hw0]; simp <;> (repeat' apply And.intro) <;> first | rfl | exact fun x a _ h => (qj.all a x h).2 | exact fun x a _ h => (zn.all a x h).2 | exact fun x a _ h => (qp.all a x h).2) (by simp <;> (repeat' apply And.intro) <;> first | rfl | exact fun x a _ h => (qj.all a x h).2 | exact fun x a _ h => (zn.all a x h).2 | exact fun x a _ h => (qp.all a x h).2)) (H_F_otherT_l0 _ _ _ _ _ _ _ _ _ _ _ _ h l0 hd0 hk0 hm0)
 ·unfold qa at h
  refine ⟨?_, (q9 rfl rfl (q9 rfl rfl (q9 rfl rfl (q9 rfl rfl (zf zn rfl (zf qp rfl (zf qj rfl zv))))))), (qk (qk (qk (qk (qn zn (qn qp (qn qj zh))))))), (za rfl (za rfl (za rfl (za rfl (ze zn (ze qp (ze qj zx))))))), (qk (qk (qk (qk (qn zn (qn qp (qn qj zh))))))), rfl, rfl, rfl, rfl⟩
  refine zq (T := tt) (N := 69) (rs := []) (fun vs w => by simp) Tryz.func35 rfl rfl rfl (by kernel_rfl) (by kernel_rfl) ?_
  refine kr [53] ?_
  refine qg (fun hb => ?_) (fun hb => ?_)
  ·replace h := qx hb h
   refine kr [53] ?_
   obtain ⟨x27, hx, h⟩ := bind_some h
   refine qb (AC.g9 (H_F_namedT _ _ _ _ _ _ _ _ _ _ _ hx) [0, 1, 2, 3, 4, 5, 6] [0, 1, 2, 3, 4, 5, 6]) ?_
   refine kr [53] ?_
   cases h
   exact qv env rfl (tS [some 0, some 1, some 2, some 3, some 4, some 5, some 6] (sV (lS (lS (lS (lS (lS (lS (lS (lS (lS (lS lN)))))))))) (sV (lS lN) (sV (lS lN) (sV (lS (lS lN)) (sR zn (sR qp (sR qj qt))))))) (qz qu))
  ·replace h := qy hb h
   refine kr [53] ?_
   refine qg (fun hb => ?_) (fun hb => ?_)
   ·replace h := qx hb h
    refine kr [53] ?_
    obtain ⟨x28, hx, h⟩ := bind_some h
    refine qb (AC.g9 (H_F_ownT _ _ _ _ _ _ _ _ _ _ _ hx) [0, 1, 2, 3, 4, 5, 6] [0, 1, 2, 3, 4, 5, 6]) ?_
    refine kr [53] ?_
    obtain ⟨x29, hx, h⟩ := bind_some h
    refine qb (AC.g9 (H_F_ownT _ _ _ _ _ _ _ _ _ _ _ hx) [0, 1, 2, 3, 4, 5, 6] [0, 1, 2, 3, 7, 8, 6]) ?_
    refine kr [53] ?_
    obtain ⟨x30, hx, h⟩ := bind_some h
    refine qb (AC.g9 (H_F_kidT _ _ _ _ _ _ _ _ _ _ hx) [0, 1, 2, 3, 4, 5, 6] [0, 1, 2, 3, 9, 10, 6]) ?_
    refine kr [53] ?_
    obtain ⟨x31, hx, h⟩ := bind_some h
    refine qb (AC.g9 (H_F_ownT _ _ _ _ _ _ _ _ _ _ _ hx) [0, 1, 2, 3, 4, 5, 6] [0, 1, 2, 3, 11, 10, 12]) ?_
    refine kr [53] ?_
    cases h
    exact qv env rfl (tS [some 0, some 1, some 2, some 3, some 4, some 5, some 6] (sV (lS (lS (lS (lS (lS (lS (lS (lS (lS (lS lN)))))))))) (sV (lS lN) (sV (lS lN) (sV (lS (lS lN)) (sR zn (sR qp (sR qj qt))))))) (qz qu))
   ·replace h := qy hb h
    refine kr [53] ?_
    refine qg (fun hb => ?_) (fun hb => ?_)
    ·replace h := qx hb h
     refine kr [53] ?_
     obtain ⟨x32, hx, h⟩ := bind_some h
     refine qb (AC.g9 (H_F_ownT _ _ _ _ _ _ _ _ _ _ _ hx) [0, 1, 2, 3, 4, 5, 6] [0, 1, 2, 3, 4, 5, 6]) ?_
     refine kr [53] ?_
     obtain ⟨x33, hx, h⟩ := bind_some h
     refine qb (AC.g9 (H_F_kidT _ _ _ _ _ _ _ _ _ _ hx) [0, 1, 2, 3, 4, 5, 6] [0, 1, 2, 3, 7, 8, 6]) ?_
     refine kr [53] ?_
     obtain ⟨x34, hx, h⟩ := bind_some h
     refine qb (AC.g9 (H_F_ownT _ _ _ _ _ _ _ _ _ _ _ hx) [0, 1, 2, 3, 4, 5, 6] [0, 1, 2, 3, 9, 8, 10]) ?_
     refine kr [53] ?_
     cases h
     exact qv env rfl (tS [some 0, some 1, some 2, some 3, some 4, some 5, some 6] (sV (lS (lS (lS (lS (lS (lS (lS (lS (lS (lS lN)))))))))) (sV (lS lN) (sV (lS lN) (sV (lS (lS lN)) (sR zn (sR qp (sR qj qt))))))) (qz qu))
    ·replace h := qy hb h
     refine kr [53] ?_
     refine qg (fun hb => ?_) (fun hb => ?_)
     ·replace h := qx hb h
      refine kr [53] ?_
      refine qg (fun hb => ?_) (fun hb => ?_)
      ·replace h := qx hb h
       refine kr [53] ?_
       exact q7 (by kernel_rfl) rfl lQ (H_F_statementT_t53 _ _ _ _ _ _ _ _ _ _ _ h)
      ·replace h := qy hb h
       refine kr [53] ?_
       exact q7 (by kernel_rfl) rfl lQ (H_F_statementT_t53 _ _ _ _ _ _ _ _ _ _ _ h)
     ·replace h := qy hb h
      refine kr [53] ?_
      refine qg (fun hb => ?_) (fun hb => ?_)
      ·replace h := qx hb h
       refine kr [53] ?_
       refine qg (fun hb => ?_) (fun hb => ?_)
       ·replace h := qx hb h
        refine kr [53] ?_
        exact q7 (by kernel_rfl) rfl lQ (H_F_statementT_t53 _ _ _ _ _ _ _ _ _ _ _ h)
       ·replace h := qy hb h
        refine kr [53] ?_
        exact q7 (by kernel_rfl) rfl lQ (H_F_statementT_t53 _ _ _ _ _ _ _ _ _ _ _ h)
      ·replace h := qy hb h
       refine kr [53] ?_
       obtain ⟨x35, hx, h⟩ := bind_some h
       refine qb (AC.g9 (H_F_kidT _ _ _ _ _ _ _ _ _ _ hx) [0, 1, 2, 3, 4, 5, 6] [0, 1, 2, 3, 4, 5, 6]) ?_
       refine kr [53] ?_
       obtain ⟨x36, hx, h⟩ := bind_some h
       refine qb (AC.g9 (H_F_ownT _ _ _ _ _ _ _ _ _ _ _ hx) [0, 1, 2, 3, 4, 5, 6] [0, 1, 2, 3, 7, 5, 8]) ?_
       refine kr [53] ?_
       cases h
       exact qv env rfl (tS [some 0, some 1, some 2, some 3, some 4, some 5, some 6] (sV (lS (lS (lS (lS (lS (lS (lS (lS (lS (lS lN)))))))))) (sV (lS lN) (sV (lS lN) (sV (lS (lS lN)) (sR zn (sR qp (sR qj qt))))))) (qz qu))
 ·unfold qa at h
  refine kr [53] ?_
  obtain ⟨x67, hx, h⟩ := bind_some h
  refine qb (AC.g9 (H_F_ownT _ _ _ _ _ _ _ _ _ _ _ hx) [0, 1, 2, 3, 4, 5, 6] [0, 1, 2, 3, 7, 8, 9]) ?_
  refine kr [53] ?_
  refine Zv 62 rfl (fun hm => ?_)
  exact jp (by kernel_rfl) lQ (H_F_statementT_l0 _ _ _ _ _ _ _ _ _ _ h o0_1.kids 0 rfl (Nat.zero_le _) (w7 hm))
 ·unfold qa at h
  intro l0 j0 hl0 hj0 hm0
  refine jz ?_
  cases a0 with
  | nil =>
    have hb := u1 (C := Node.cells) hl0 hj0
    refine kr [53] ?_
    refine qi hb ?_
    refine kr [53] ?_
    cases h
    exact qv env rfl (tS [some 0, some 1, some 2, some 3, some 4, some 5, some 6] (sV (lS (lS (lS (lS (lS (lS (lS (lS (lS (lS lN)))))))))) (sV (lS lN) (sV (lS lN) (sV (lS (lS lN)) (sR zn (sR qp (sR qj qt))))))) (qz qu))
  | cons x_0 a0 =>
    obtain ⟨hb, hx0, hd0, hk0, hw0⟩ := w6 (C := Node.cells) hl0 hm0
    refine kr [53] ?_
    refine qh hb ?_
    refine kr [53] ?_
    obtain ⟨x77, hx, h⟩ := bind_some h
    refine qb (AC.g9 (H_F_kidT _ _ _ _ _ _ _ _ _ _ hx) [0, 1, 2, 3, 4, 5, 6] [0, 1, 2, 3, 12, 13, 14]) ?_
    refine kr [53] ?_
    exact je (by kernel_rfl) (Qb (J1 rfl) (Nat.le_of_ble_eq_true rfl) (by simp only [hw0]; simp <;> (repeat' apply And.intro) <;> first | rfl | exact fun x a _ h => (qj.all a x h).2 | exact fun x a _ h => (zn.all a x h).2 | exact fun x a _ h => (qp.all a x h).2) (by simp <;> (repeat' apply And.intro) <;> first | rfl | exact fun x a _ h => (qj.all a x h).2 | exact fun x a _ h => (zn.all a x h).2 | exact fun x a _ h => (qp.all a x h).2)) (H_F_statementT_l0 _ _ _ _ _ _ _ _ _ _ h l0 (j0 + 1) hd0 hk0 hm0)
 ·unfold qa at h
  refine ⟨?_, (q9 rfl rfl (q9 rfl rfl (q9 rfl rfl (q9 rfl rfl (zf zn rfl (zf qp rfl (zf qj rfl zv))))))), (qk (qk (qk (qk (qn zn (qn qp (qn qj zh))))))), (za rfl (za rfl (za rfl (za rfl (ze zn (ze qp (ze qj zx))))))), (qk (qk (qk (qk (qn zn (qn qp (qn qj zh))))))), rfl, rfl, rfl, rfl⟩
  refine zq (T := tt) (N := 100) (rs := []) (fun vs w => by simp) Tryz.func34 rfl rfl rfl (by kernel_rfl) (by kernel_rfl) ?_
  refine kr [] ?_
  refine qg (fun hb => ?_) (fun hb => ?_)
  ·replace h := qx hb h
   refine kr [] ?_
   obtain ⟨x6, hx, h⟩ := bind_some h
   refine qb (AC.g9 (H_F_ownT _ _ _ _ _ _ _ _ _ _ _ hx) [0, 1, 2, 3, 4, 5, 6] [0, 1, 2, 3, 4, 5, 6]) ?_
   refine kr [] ?_
   obtain ⟨x7, hx, h⟩ := bind_some h
   refine qb (AC.g9 (H_F_ownT _ _ _ _ _ _ _ _ _ _ _ hx) [0, 1, 2, 3, 4, 5, 6] [0, 1, 2, 3, 7, 8, 6]) ?_
   refine kr [] ?_
   obtain ⟨x8, hx, h⟩ := bind_some h
   refine qb (AC.g9 (H_F_restT _ _ _ _ _ _ _ _ _ hx) [0, 1, 2, 3, 4, 5, 6] [0, 1, 2, 3, 9, 10, 6]) ?_
   refine kr [] ?_
   cases h
   exact qv env rfl (tS [some 0, some 1, some 2, some 3, some 4, some 5, some 6] (sV (lS (lS (lS (lS (lS (lS (lS (lS (lS (lS lN)))))))))) (sV (lS lN) (sV (lS lN) (sV (lS (lS lN)) (sR zn (sR qp (sR qj qt))))))) (qz qu))
  ·replace h := qy hb h
   refine kr [] ?_
   refine qg (fun hb => ?_) (fun hb => ?_)
   ·replace h := qx hb h
    refine kr [] ?_
    obtain ⟨x9, hx, h⟩ := bind_some h
    refine qb (AC.g9 (H_F_kidT _ _ _ _ _ _ _ _ _ _ hx) [0, 1, 2, 3, 4, 5, 6] [0, 1, 2, 3, 4, 5, 6]) ?_
    refine kr [] ?_
    obtain ⟨x10, hx, h⟩ := bind_some h
    refine qb (AC.g9 (H_F_ownT _ _ _ _ _ _ _ _ _ _ _ hx) [0, 1, 2, 3, 4, 5, 6] [0, 1, 2, 3, 7, 5, 8]) ?_
    refine kr [] ?_
    obtain ⟨x11, hx, h⟩ := bind_some h
    refine qb (AC.g9 (H_F_ownT _ _ _ _ _ _ _ _ _ _ _ hx) [0, 1, 2, 3, 4, 5, 6] [0, 1, 2, 3, 9, 10, 8]) ?_
    refine kr [] ?_
    obtain ⟨x12, hx, h⟩ := bind_some h
    refine qb (AC.g9 (H_F_ownT _ _ _ _ _ _ _ _ _ _ _ hx) [0, 1, 2, 3, 4, 5, 6] [0, 1, 2, 3, 11, 12, 8]) ?_
    refine kr [] ?_
    obtain ⟨x13, hx, h⟩ := bind_some h
    refine qb (AC.g9 (H_F_restT _ _ _ _ _ _ _ _ _ hx) [0, 1, 2, 3, 4, 5, 6] [0, 1, 2, 3, 13, 14, 8]) ?_
    refine kr [] ?_
    cases h
    exact qv env rfl (tS [some 0, some 1, some 2, some 3, some 4, some 5, some 6] (sV (lS (lS (lS (lS (lS (lS (lS (lS (lS (lS lN)))))))))) (sV (lS lN) (sV (lS lN) (sV (lS (lS lN)) (sR zn (sR qp (sR qj qt))))))) (qz qu))
   ·replace h := qy hb h
    refine kr [] ?_
    refine qg (fun hb => ?_) (fun hb => ?_)
    ·replace h := qx hb h
     refine kr [] ?_
     obtain ⟨x14, hx, h⟩ := bind_some h
     refine qb (AC.g9 (H_F_ownT _ _ _ _ _ _ _ _ _ _ _ hx) [0, 1, 2, 3, 4, 5, 6] [0, 1, 2, 3, 4, 5, 6]) ?_
     refine kr [] ?_
     obtain ⟨x15, hx, h⟩ := bind_some h
     refine qb (AC.g9 (H_F_ownT _ _ _ _ _ _ _ _ _ _ _ hx) [0, 1, 2, 3, 4, 5, 6] [0, 1, 2, 3, 7, 8, 6]) ?_
     refine kr [] ?_
     obtain ⟨x16, hx, h⟩ := bind_some h
     refine qb (AC.g9 (H_F_ownT _ _ _ _ _ _ _ _ _ _ _ hx) [0, 1, 2, 3, 4, 5, 6] [0, 1, 2, 3, 9, 10, 6]) ?_
     refine kr [] ?_
     obtain ⟨x17, hx, h⟩ := bind_some h
     refine qb (AC.g9 (H_F_ownT _ _ _ _ _ _ _ _ _ _ _ hx) [0, 1, 2, 3, 4, 5, 6] [0, 1, 2, 3, 11, 12, 6]) ?_
     refine kr [] ?_
     cases h
     exact qv env rfl (tS [some 0, some 1, some 2, some 3, some 4, some 5, some 6] (sV (lS (lS (lS (lS (lS (lS (lS (lS (lS (lS lN)))))))))) (sV (lS lN) (sV (lS lN) (sV (lS (lS lN)) (sR zn (sR qp (sR qj qt))))))) (qz qu))
    ·replace h := qy hb h
     refine kr [] ?_
     refine qg (fun hb => ?_) (fun hb => ?_)
     ·replace h := qx hb h
      refine kr [] ?_
      obtain ⟨x18, hx, h⟩ := bind_some h
      refine qb (AC.g9 (H_F_kidT _ _ _ _ _ _ _ _ _ _ hx) [0, 1, 2, 3, 4, 5, 6] [0, 1, 2, 3, 4, 5, 6]) ?_
      refine kr [] ?_
      obtain ⟨x19, hx, h⟩ := bind_some h
      refine qb (AC.g9 (H_F_ownT _ _ _ _ _ _ _ _ _ _ _ hx) [0, 1, 2, 3, 4, 5, 6] [0, 1, 2, 3, 7, 5, 8]) ?_
      refine kr [] ?_
      obtain ⟨x20, hx, h⟩ := bind_some h
      refine qb (AC.g9 (H_F_kidT _ _ _ _ _ _ _ _ _ _ hx) [0, 1, 2, 3, 4, 5, 6] [0, 1, 2, 3, 9, 10, 8]) ?_
      refine kr [] ?_
      cases h
      exact qv env rfl (tS [some 0, some 1, some 2, some 3, some 4, some 5, some 6] (sV (lS (lS (lS (lS (lS (lS (lS (lS (lS (lS lN)))))))))) (sV (lS lN) (sV (lS lN) (sV (lS (lS lN)) (sR zn (sR qp (sR qj qt))))))) (qz qu))
     ·replace h := qy hb h
      refine kr [] ?_
      refine qg (fun hb => ?_) (fun hb => ?_)
      ·replace h := qx hb h
       refine kr [] ?_
       obtain ⟨x21, hx, h⟩ := bind_some h
       refine qb (AC.g9 (H_F_ownT _ _ _ _ _ _ _ _ _ _ _ hx) [0, 1, 2, 3, 4, 5, 6] [0, 1, 2, 3, 4, 5, 6]) ?_
       refine kr [] ?_
       obtain ⟨x22, hx, h⟩ := bind_some h
       refine qb (AC.g9 (H_F_kidT _ _ _ _ _ _ _ _ _ _ hx) [0, 1, 2, 3, 4, 5, 6] [0, 1, 2, 3, 7, 8, 6]) ?_
       refine kr [] ?_
       cases h
       exact qv env rfl (tS [some 0, some 1, some 2, some 3, some 4, some 5, some 6] (sV (lS (lS (lS (lS (lS (lS (lS (lS (lS (lS lN)))))))))) (sV (lS lN) (sV (lS lN) (sV (lS (lS lN)) (sR zn (sR qp (sR qj qt))))))) (qz qu))
      ·replace h := qy hb h
       refine kr [] ?_
       refine qg (fun hb => ?_) (fun hb => ?_)
       ·replace h := qx hb h
        refine kr [] ?_
        obtain ⟨x23, hx, h⟩ := bind_some h
        refine qb (AC.g9 (H_F_ownT _ _ _ _ _ _ _ _ _ _ _ hx) [0, 1, 2, 3, 4, 5, 6] [0, 1, 2, 3, 4, 5, 6]) ?_
        refine kr [] ?_
        obtain ⟨x24, hx, h⟩ := bind_some h
        refine qb (AC.g9 (H_F_kidT _ _ _ _ _ _ _ _ _ _ hx) [0, 1, 2, 3, 4, 5, 6] [0, 1, 2, 3, 7, 8, 6]) ?_
        refine kr [] ?_
        obtain ⟨x25, hx, h⟩ := bind_some h
        refine qb (AC.g9 (H_F_ownT _ _ _ _ _ _ _ _ _ _ _ hx) [0, 1, 2, 3, 4, 5, 6] [0, 1, 2, 3, 9, 8, 10]) ?_
        refine kr [] ?_
        cases h
        exact qv env rfl (tS [some 0, some 1, some 2, some 3, some 4, some 5, some 6] (sV (lS (lS (lS (lS (lS (lS (lS (lS (lS (lS lN)))))))))) (sV (lS lN) (sV (lS lN) (sV (lS (lS lN)) (sR zn (sR qp (sR qj qt))))))) (qz qu))
       ·replace h := qy hb h
        refine kr [] ?_
        obtain ⟨x26, hx, h⟩ := bind_some h
        refine qb (AC.g9 (H_F_ownT _ _ _ _ _ _ _ _ _ _ _ hx) [0, 1, 2, 3, 4, 5, 6] [0, 1, 2, 3, 4, 5, 6]) ?_
        refine kr [] ?_
        cases h
        exact qv env rfl (tS [some 0, some 1, some 2, some 3, some 4, some 5, some 6] (sV (lS (lS (lS (lS (lS (lS (lS (lS (lS (lS lN)))))))))) (sV (lS lN) (sV (lS lN) (sV (lS (lS lN)) (sR zn (sR qp (sR qj qt))))))) (qz qu))
theorem H_F_nodeT : PC5 M_F_nodeT F_nodeT := ALL_F_nodeT.1
theorem H_F_otherT : PC9 M_F_otherT F_otherT := ALL_F_nodeT.2.1
theorem H_F_namedT : PC10 M_F_namedT F_namedT := ALL_F_nodeT.2.2.1
theorem H_F_kidT : PC9 M_F_kidT F_kidT := ALL_F_nodeT.2.2.2.1
theorem H_F_bodyT : PC9 M_F_bodyT F_bodyT := ALL_F_nodeT.2.2.2.2.1
theorem H_F_bodyT_l0 : PC9 M_F_bodyT_l0 F_bodyT_l0 := ALL_F_nodeT.2.2.2.2.2.1
theorem H_F_restT : PC8 M_F_restT F_restT := ALL_F_nodeT.2.2.2.2.2.2.1
theorem H_F_restT_l0 : PC9 M_F_restT_l0 F_restT_l0 := ALL_F_nodeT.2.2.2.2.2.2.2.1
theorem H_F_restT_b1 : PC8 M_F_restT_b1 F_restT_b1 := ALL_F_nodeT.2.2.2.2.2.2.2.2.1
theorem H_F_otherT_l0 : PC11 M_F_otherT_l0 F_otherT_l0 := ALL_F_nodeT.2.2.2.2.2.2.2.2.2.1
theorem H_F_otherT_t22 : PC11 M_F_otherT_t22 F_otherT_t22 := ALL_F_nodeT.2.2.2.2.2.2.2.2.2.2.1
theorem H_F_statementT : PC9 M_F_statementT F_statementT := ALL_F_nodeT.2.2.2.2.2.2.2.2.2.2.2.1
theorem H_F_statementT_t53 : PC10 M_F_statementT_t53 F_statementT_t53 := ALL_F_nodeT.2.2.2.2.2.2.2.2.2.2.2.2.1
theorem H_F_statementT_l0 : PC9 M_F_statementT_l0 F_statementT_l0 := ALL_F_nodeT.2.2.2.2.2.2.2.2.2.2.2.2.2.1
theorem H_F_expressionT : PC9 M_F_expressionT F_expressionT := ALL_F_nodeT.2.2.2.2.2.2.2.2.2.2.2.2.2.2
def F_strings_Builder_Lens1 (l : LU) : Option Int := some ((l.length : Int))
theorem H_F_strings_Builder_Lens1 (l : LU) (r : Int) (h : F_strings_Builder_Lens1 l = some r) : AC Tryz.prog G 22 [.ptr 0 0 0] 2 [(0, .var 47 [.optr 0 0 0, .bs 1 1 1 0 l.length]), (1, .row 5 (l.map c8).flatten)] (.int .i64 r) 2 [(0, .var 47 [.optr 0 0 0, .bs 1 1 1 0 l.length]), (1, .row 5 (l.map c8).flatten)] := by
 cases h; exact AC_Len l
def F_strings_Builder_Strings1 (l : LU) : Option BA := some ((⟨l.toArray⟩ : BA))
theorem H_F_strings_Builder_Strings1 (l : LU) (r : BA) (h : F_strings_Builder_Strings1 l = some r) : AC Tryz.prog G 23 [.ptr 0 0 0] 2 [(0, .var 47 [.optr 0 0 0, .bs 1 1 1 0 l.length]), (1, .row 5 (l.map c8).flatten)] (.str r) 2 [(0, .dead), (1, .dead)] := by
 cases h; exact AC_String l
def F_print_Text (a0 : Node) : Option (BA × Int) :=
 F_grammar_Check a0 >>= fun x1 =>
 if (!decide (x1 = (0 : Int))) = true then
  some ((⟨#[]⟩ : BA), x1)
 else
  F_nodeT (⟨#[]⟩ : BA) ([] : LU) a0 (⟨#[]⟩ : BA) (0 : Int) >>= fun x2 =>
  F_strings_Builder_Lens1 x2.2.2 >>= fun x3 =>
  if (decide ((65536 : Int) < x3)) = true then
   some ((⟨#[]⟩ : BA), (3 : Int))
  else
   F_strings_Builder_Strings1 x2.2.2 >>= fun x4 =>
   some (x4, (0 : Int))
@[reducible] def M_F_print_Text (a0 : Node) (r : BA × Int) : Prop :=
  Fn Tryz.prog G 7 [(.agg (zo a0))] (.tup [(.str r.1), (.int .i64 r.2)])
theorem H_F_print_Text : PC1 M_F_print_Text F_print_Text := fun a0 r h => by
 rw [F_print_Text.eq_def] at h
 refine zg (T := tt) (N := 22) (rs := [.tmp 2, .tmp 3]) (fun vs w => by simp) Tryz.func7 rfl rfl rfl rfl (by kernel_rfl) (jb rfl) (zp _ rfl) ?_
 refine kr [] ?_
 obtain ⟨x1, hx, h⟩ := bind_some h
 refine ql (H_F_grammar_Check _ _ hx) ?_
 refine kr [] ?_
 refine qg (fun hb => ?_) (fun hb => ?_)
 ·replace h := qx hb h
  refine kr [] ?_
  cases h
  exact kf
 ·replace h := qy hb h
  refine kr [] ?_
  obtain ⟨x2, hx, h⟩ := bind_some h
  refine qb (ACalls.ghost (e := 5) (ACalls.wkg (AC.go (objs := [(0, .var 25 (zo a0)), (1, .var 47 [(.optr 1 1 0), (.bs 1 4 4 0 ([] : LU).length)]), (2, .var 9 [(.str (⟨#[]⟩ : BA))]), (3, .var 42 [(.fn 17 [(.ptr 2 2 0), (.ptr 1 1 0)])]), (4, .row 5 (([] : LU).map c8).flatten)]) (xs := [(.ptr 3 3 0), (.agg (zo a0)), (.str (⟨#[]⟩ : BA)), (.int .i64 (0 : Int))]) (H_F_nodeT _ _ _ _ _ _ hx) [3, 2, 1, 4] [3, 2, 1, 4] rfl rfl rfl rfl rfl rfl rfl rfl rfl) (zu (ji _) (zu (ji _) (zu (ji _) (zu (ji _) kq)))) (zj (kp (qw (wkg1_onil rfl) (qw (j9 rfl) wh)) (ym _))))) ?_
  refine kr [] ?_
  obtain ⟨x3, hx, h⟩ := bind_some h
  refine qb (AC.g9 (H_F_strings_Builder_Lens1 _ _ hx) [1, 4] [1, 5]) ?_
  refine kr [] ?_
  refine qg (fun hb => ?_) (fun hb => ?_)
  ·replace h := qx hb h
   refine kr [] ?_
   cases h
   exact kf
  ·replace h := qy hb h
   refine kr [] ?_
   obtain ⟨x4, hx, h⟩ := bind_some h
   refine qb (AC.g9 (H_F_strings_Builder_Strings1 _ _ hx) [1, 4] [1, 5]) ?_
   refine kr [] ?_
   cases h
   exact kf
mutual
def F_tree_Bare (a0 : Node) : Option Node :=
 F_tree_Bare_l0 a0.kids a0.kind a0.text ([] : LB) ([] : LN)
 partial_fixpoint
def F_tree_Bare_l0 (a0 : LN) (o2_0 : Int) (o2_1 : BA) (o2_2 : LB) (o2_3 : LN) : Option Node :=
 match a0 with
 | [] =>
   some (Node.mk o2_0 o2_1 o2_2 o2_3)
 | x_0 :: a0 =>
   F_tree_Bare (qa x_0) >>= fun x1 =>
   app 72 o2_3 ([x1]) >>= fun x2 =>
   F_tree_Bare_l0 (qa a0) (qa o2_0) (qa o2_1) (qa o2_2) (qa x2)
 partial_fixpoint
end
@[reducible] def M_F_tree_Bare (a0 : Node) (r : Node) : Prop :=
  Fn Tryz.prog G 24 [(.agg (zo a0))] (.agg (zo r))
@[reducible] def M_F_tree_Bare_l0 (a0 : LN) (o2_0 : Int) (o2_1 : BA) (o2_2 : LB) (o2_3 : LN) (r : Node) : Prop :=
  ∀ (l0 : LN) (j0 : Nat), l0.drop j0 = a0 → j0 ≤ l0.length → l0.length ≤ 9223372036854775807 → Ok Tryz.prog G tt 27 0 (Ret Tryz.prog [.cell 2 25] (fun y H => Told Tryz.prog G H y (.agg (zo r)))) (.again (jq [] Tryz.f24 0).1 (jq [] Tryz.f24 0).2 (.n .undef (.n .undef (.n (.ptr 2 2 0) .z .z) (.n .undef .z (.n (.int .i64 ((l0.map Node.cells).length : Int)) .z .z))) (.n (.ptr 1 1 0) (.n .undef .z (.n (.sl 4 false (l0.map Node.cells)) .z .z)) (.n .undef .z (.n (.int .i64 ((j0 : Nat) : Int)) .z .z)))) 4 [(0, .dead), (1, .var 25 [(.int .i64 0), (.str ⟨#[]⟩), (.sl 1 false (([] : LB).map sc)), (.sl 4 false (([] : LN).map Node.cells))]), (2, .var 25 [(.int .i64 o2_0), (.str o2_1), (.sl 1 false (o2_2.map sc)), (.bs 4 3 3 0 o2_3.length)]), (3, .row 25 (o2_3.map Node.cells).flatten)])
theorem ALL_F_tree_Bare : PC1 M_F_tree_Bare F_tree_Bare ∧ PC5 M_F_tree_Bare_l0 F_tree_Bare_l0 := by
 refine F_tree_Bare.mutual_partial_correctness M_F_tree_Bare M_F_tree_Bare_l0 (fun F_tree_Bare_l0 H_F_tree_Bare_l0 a0 r h => ?_) (fun F_tree_Bare F_tree_Bare_l0 H_F_tree_Bare H_F_tree_Bare_l0 a0 o2_0 o2_1 o2_2 o2_3 r h => ?_)
 ·unfold qa at h
  refine zg (T := tt) (N := 27) (rs := [.cell 2 25]) (fun vs w => by simp) Tryz.func24 rfl rfl rfl rfl (by kernel_rfl) (jb rfl) (zp _ rfl) ?_
  refine kr [] ?_
  refine Ok_ownF 2 3 4 25 rfl rfl rfl ?_
  refine Zv 12 rfl (fun hm => ?_)
  exact jp (by kernel_rfl) lA (H_F_tree_Bare_l0 _ _ _ _ _ _ h a0.kids 0 rfl (Nat.zero_le _) (w7 hm))
 ·unfold qa at h
  intro l0 j0 hl0 hj0 hm0
  refine jz ?_
  cases a0 with
  | nil =>
    have hb := u1 (C := Node.cells) hl0 hj0
    refine kr [] ?_
    refine qi hb ?_
    refine kr [] ?_
    cases h
    exact zi env rfl rfl (ua (viewT_one (view_agg (yn (j5 rfl) (yn (vo rfl) (yn (vv (.inl rfl)) (yn (ue qj rfl) viewL_nil))))) (by simp)))
  | cons x_0 a0 =>
    obtain ⟨hb, hx0, hd0, hk0, hw0⟩ := w6 (C := Node.cells) hl0 hm0
    refine kr [] ?_
    refine qh hb ?_
    refine kr [] ?_
    refine uw env rfl rfl rfl rfl (m := j0) rfl (range_at hx0 (Node.cells_eq x_0)) ?_
    refine kr [] ?_
    obtain ⟨x1, hx, h⟩ := bind_some h
    refine ql (H_F_tree_Bare _ _ hx) ?_
    refine kr [] ?_
    obtain ⟨x2, hx, h⟩ := bind_some h
    have hp_x2 := Zt hx (by simp)
    refine Qk (C := Node.cells) env hx rfl (show _ = AV.sl _ _ (List.map Node.cells [x1]) from (by simp only [List.map_cons, List.map_nil, Node.cells_eq]; rfl)) (by simp) Node.cells_len rfl rfl rfl rfl rfl (by decide) rfl rfl rfl ?_
    refine kr [] ?_
    exact je (by kernel_rfl) (less_at (by simp only [hw0]; simp <;> (repeat' apply And.intro) <;> first | rfl | exact fun x a _ h => (qj.all a x h).2) (by simp <;> (repeat' apply And.intro) <;> first | rfl | exact fun x a _ h => (qj.all a x h).2)) (H_F_tree_Bare_l0 _ _ _ _ _ _ h l0 (j0 + 1) hd0 hk0 hm0)
theorem H_F_tree_Bare : PC1 M_F_tree_Bare F_tree_Bare := ALL_F_tree_Bare.1
theorem H_F_tree_Bare_l0 : PC5 M_F_tree_Bare_l0 F_tree_Bare_l0 := ALL_F_tree_Bare.2
def F_print_Plain (a0 : Node) : Option (BA × Int) :=
 F_grammar_Check a0 >>= fun x1 =>
 if (!decide (x1 = (0 : Int))) = true then
  some ((⟨#[]⟩ : BA), x1)
 else
  F_tree_Bare a0 >>= fun x2 =>
  F_print_Text x2 >>= fun x3 =>
  some (x3.1, x3.2)
@[reducible] def M_F_print_Plain (a0 : Node) (r : BA × Int) : Prop :=
  Fn Tryz.prog G 8 [(.agg (zo a0))] (.tup [(.str r.1), (.int .i64 r.2)])
theorem H_F_print_Plain : PC1 M_F_print_Plain F_print_Plain := fun a0 r h => by
 rw [F_print_Plain.eq_def] at h
 refine zg (T := tt) (N := 15) (rs := [.tmp 2, .tmp 3]) (fun vs w => by simp) Tryz.func8 rfl rfl rfl rfl (by kernel_rfl) (jb rfl) (zp _ rfl) ?_
 refine kr [] ?_
 obtain ⟨x1, hx, h⟩ := bind_some h
 refine ql (H_F_grammar_Check _ _ hx) ?_
 refine kr [] ?_
 refine qg (fun hb => ?_) (fun hb => ?_)
 ·replace h := qx hb h
  refine kr [] ?_
  cases h
  exact kf
 ·replace h := qy hb h
  refine kr [] ?_
  obtain ⟨x2, hx, h⟩ := bind_some h
  refine ql (H_F_tree_Bare _ _ hx) ?_
  refine kr [] ?_
  obtain ⟨x3, hx, h⟩ := bind_some h
  refine ql (H_F_print_Text _ _ hx) ?_
  refine kr [] ?_
  cases h
  exact kf
def F_L8_sum (a0 : BA) : Option Node :=
 some (Node.mk (24 : Int) a0 ([] : LB) ([(Node.mk (17 : Int) (⟨#[49]⟩ : BA) ([] : LB) ([] : LN)), (Node.mk (17 : Int) (⟨#[50]⟩ : BA) ([] : LB) ([] : LN))]))
@[reducible] def M_F_L8_sum (a0 : BA) (r : Node) : Prop :=
  Fn Tryz.prog G 12 [(.str a0)] (.agg (zo r))
theorem H_F_L8_sum : PC1 M_F_L8_sum F_L8_sum := fun a0 r h => by
 rw [F_L8_sum.eq_def] at h
 refine zg (T := tt) (N := 8) (rs := [.cell 2 25]) (fun vs w => by simp) Tryz.func12 rfl rfl rfl rfl (by kernel_rfl) (jb rfl) (zp _ rfl) ?_
 refine kr [] ?_
 cases h
 exact zi env rfl rfl (ua (viewT_one (view_agg (yn (j5 rfl) (yn (vo rfl) (yn (vv (.inr rfl)) (yn (view1_slL (.inl rfl) (show Je _ (List.map Node.cells [(Node.mk (17 : Int) (⟨#[49]⟩ : BA) ([] : LB) ([] : LN)), (Node.mk (17 : Int) (⟨#[50]⟩ : BA) ([] : LB) ([] : LN))]) from (by simp only [List.map_cons, List.map_nil, Node.cells_eq]; exact (Y6 (y4 (Qu _) (y4 (Qu _) (y4 (wk0_sl (.inr rfl)) (y4 (wk0_sl (.inr rfl)) wk0L_nil)))) (Y6 (y4 (Qu _) (y4 (Qu _) (y4 (wk0_sl (.inr rfl)) (y4 (wk0_sl (.inr rfl)) wk0L_nil)))) wk0LL_nil))))) viewL_nil))))) (by simp)))
def F_print_Layout_1 (a0 : BA) (a1 : BA) : Option Unit :=
 some ()
@[reducible] def M_F_print_Layout_1 (a0 : BA) (a1 : BA) (r : Unit) : Prop :=
  Fn Tryz.prog G 30 [(.str a0), (.str a1)] (.tup [])
theorem H_F_print_Layout_1 : PC2 M_F_print_Layout_1 F_print_Layout_1 := fun a0 a1 r h => by
 rw [F_print_Layout_1.eq_def] at h
 refine zg (T := tt) (N := 4) (rs := []) (fun vs w => by simp) Tryz.func30 rfl rfl rfl rfl (by kernel_rfl) (jb rfl) (zp _ rfl) ?_
 refine kr [] ?_
 cases h
 exact zb env rfl (qq rfl)
def F_ownL_t22 (t1 : BA) (t2 : BA) (t6 : BA) (o0_1 : Node) (a0 : Int) (a1 : BA) (a2 : LB) (a3 : LN) (o0_3 : Int) : Option LB :=
 app 16 a2 ([t1]) >>= fun x2 =>
 F_print_Layout_1 t6 t2 >>= fun x3 =>
 some x2
@[reducible] def M_F_ownL_t22 (t1 : BA) (t2 : BA) (t6 : BA) (o0_1 : Node) (a0 : Int) (a1 : BA) (a2 : LB) (a3 : LN) (o0_3 : Int) (r : LB) : Prop :=
  Ok Tryz.prog G tt 53 4 (Ret Tryz.prog [] (fun y H => yb Tryz.prog G 4 H y (.tup []) ⟨5, [(0, .var 67 [(.ptr 1 1 0), (.int .i64 o0_1.kind), (.str o0_1.text), (.sl 1 false (o0_1.gaps.map sc)), (.sl 4 false (o0_1.kids.map Node.cells)), (.int .i64 a0), (.str a1), (.bs 1 2 4 0 r.length), (.bs 4 3 3 0 a3.length), (.int .i64 o0_3)]), (1, .var 42 [(.fn 30 [])]), (4, .row 9 (r.map sc).flatten), (3, .row 25 (a3.map Node.cells).flatten)]⟩)) (.go [] (yo [22] Tryz.f52 22) [] (.n (.ptr 0 0 0) (.n (.str t1) .z .z) (.n (.str t2) .z (.n (.str t6) .z .z))) 5 [(0, .var 67 [(.ptr 1 1 0), (.int .i64 o0_1.kind), (.str o0_1.text), (.sl 1 false (o0_1.gaps.map sc)), (.sl 4 false (o0_1.kids.map Node.cells)), (.int .i64 a0), (.str a1), (.bs 1 2 4 0 a2.length), (.bs 4 3 3 0 a3.length), (.int .i64 o0_3)]), (1, .var 42 [(.fn 30 [])]), (4, .row 9 (a2.map sc).flatten), (3, .row 25 (a3.map Node.cells).flatten)])
theorem H_F_ownL_t22 : PC9 M_F_ownL_t22 F_ownL_t22 := fun t1 t2 t6 o0_1 a0 a1 a2 a3 o0_3 r h => by
 rw [F_ownL_t22.eq_def] at h
 refine kr [22] ?_
 obtain ⟨x2, hx, h⟩ := bind_some h
 have hp_x2 := Zt hx (by simp)
 refine Qk (C := sc) env hx rfl rfl (by simp) (fun _ => rfl) rfl rfl rfl rfl rfl (by decide) rfl rfl rfl ?_
 refine kr [22] ?_
 obtain ⟨x3, hx, h⟩ := bind_some h
 refine ql (H_F_print_Layout_1 _ _ _ hx) ?_
 refine kr [22] ?_
 cases h
 exact qv env rfl (tS [some 0, some 1, some 2, some 3] (sV (lS (lS (lS (lS (lS (lS (lS (lS (lS (lS lN)))))))))) (sV (lS lN) (sR qp (sR qj qt)))) (qz qu))
def F_ownL (a0_n : Node) (a0 : Int) (a3 : BA) (a4 : LB) (a5 : LN) (a6 : Int) (a1 : BA) (a2 : BA) : Option LB :=
 if (decide ((a4.length : Int) < ((a0_n.gaps.map sc).length : Int))) = true then
  ix a0_n.gaps (a4.length : Int) >>= fun x1 =>
  F_ownL_t22 a1 a2 x1 a0_n a0 a3 a4 a5 a6
 else
  F_ownL_t22 a1 a2 a1 a0_n a0 a3 a4 a5 a6
@[reducible] def M_F_ownL (a0_n : Node) (a0 : Int) (a3 : BA) (a4 : LB) (a5 : LN) (a6 : Int) (a1 : BA) (a2 : BA) (r : LB) : Prop :=
  AC Tryz.prog G 52 [(.ptr 0 0 0), (.str a1), (.str a2)] 4 [(0, .var 67 [(.ptr 1 1 0), (.int .i64 a0_n.kind), (.str a0_n.text), (.sl 1 false (a0_n.gaps.map sc)), (.sl 4 false (a0_n.kids.map Node.cells)), (.int .i64 a0), (.str a3), (.bs 1 2 2 0 a4.length), (.bs 4 3 3 0 a5.length), (.int .i64 a6)]), (1, .var 42 [(.fn 30 [])]), (2, .row 9 (a4.map sc).flatten), (3, .row 25 (a5.map Node.cells).flatten)] (.tup []) 5 [(0, .var 67 [(.ptr 1 1 0), (.int .i64 a0_n.kind), (.str a0_n.text), (.sl 1 false (a0_n.gaps.map sc)), (.sl 4 false (a0_n.kids.map Node.cells)), (.int .i64 a0), (.str a3), (.bs 1 2 4 0 r.length), (.bs 4 3 3 0 a5.length), (.int .i64 a6)]), (1, .var 42 [(.fn 30 [])]), (4, .row 9 (r.map sc).flatten), (3, .row 25 (a5.map Node.cells).flatten)]
theorem H_F_ownL : PC8 M_F_ownL F_ownL := fun a0_n a0 a3 a4 a5 a6 a1 a2 r h => by
 rw [F_ownL.eq_def] at h
 refine ⟨?_, (q9 rfl rfl (q9 rfl rfl (zf qp rfl (zf qj rfl zv)))), (qk (qk (qn qp (qn qj zh)))), (za rfl (za rfl (ze qp (ze qj zx)))), (qk (qk (qn qp (qn qj zh)))), rfl, rfl, rfl, rfl⟩
 refine zq (T := tt) (N := 53) (rs := []) (fun vs w => by simp) Tryz.func52 rfl rfl rfl (by kernel_rfl) (by kernel_rfl) ?_
 refine kr [22] ?_
 refine qg (fun hb => ?_) (fun hb => ?_)
 ·replace h := qx hb h
  refine kr [22] ?_
  obtain ⟨x1, hx, h⟩ := bind_some h
  refine w9 env hx rfl rfl rfl rfl rfl ?_
  refine kr [22] ?_
  exact q7 (by kernel_rfl) rfl lQ (H_F_ownL_t22 _ _ _ _ _ _ _ _ _ _ h)
 ·replace h := qy hb h
  refine kr [22] ?_
  exact q7 (by kernel_rfl) rfl lQ (H_F_ownL_t22 _ _ _ _ _ _ _ _ _ _ h)
def F_otherL_t33 (t1 : BA) (o0_1 : Node) (a0 : Int) (a1 : BA) (a2 : LB) (a3 : LN) (o0_3 : Int) : Option (LB × LN × Int) :=
 F_ownL o0_1 a0 a1 a2 a3 o0_3 t1 (⟨#[]⟩ : BA) >>= fun x78 =>
 some (x78, a3, o0_3)
@[reducible] def M_F_otherL_t33 (t1 : BA) (o0_1 : Node) (a0 : Int) (a1 : BA) (a2 : LB) (a3 : LN) (o0_3 : Int) (r : LB × LN × Int) : Prop :=
  Ok Tryz.prog G tt 146 4 (Ret Tryz.prog [] (fun y H => yb Tryz.prog G 4 H y (.tup []) ⟨6, [(0, .var 67 [(.ptr 1 1 0), (.int .i64 o0_1.kind), (.str o0_1.text), (.sl 1 false (o0_1.gaps.map sc)), (.sl 4 false (o0_1.kids.map Node.cells)), (.int .i64 a0), (.str a1), (.bs 1 2 4 0 r.1.length), (.bs 4 3 5 0 r.2.1.length), (.int .i64 r.2.2)]), (1, .var 42 [(.fn 30 [])]), (4, .row 9 (r.1.map sc).flatten), (5, .row 25 (r.2.1.map Node.cells).flatten)]⟩)) (.go [] (yo [22, 33] Tryz.f36 33) [] (.n (.ptr 0 0 0) (.n (.str t1) .z .z) .z) 8 [(0, .var 67 [(.ptr 1 1 0), (.int .i64 o0_1.kind), (.str o0_1.text), (.sl 1 false (o0_1.gaps.map sc)), (.sl 4 false (o0_1.kids.map Node.cells)), (.int .i64 a0), (.str a1), (.bs 1 2 6 0 a2.length), (.bs 4 3 7 0 a3.length), (.int .i64 o0_3)]), (1, .var 42 [(.fn 30 [])]), (6, .row 9 (a2.map sc).flatten), (7, .row 25 (a3.map Node.cells).flatten)])
theorem H_F_otherL_t33 : PC7 M_F_otherL_t33 F_otherL_t33 := fun t1 o0_1 a0 a1 a2 a3 o0_3 r h => by
 rw [F_otherL_t33.eq_def] at h
 refine kr [22, 33] ?_
 obtain ⟨x78, hx, h⟩ := bind_some h
 refine qb (AC.g9 (H_F_ownL _ _ _ _ _ _ _ _ _ hx) [0, 1, 2, 3] [0, 1, 6, 7]) ?_
 refine kr [22, 33] ?_
 cases h
 exact qv env rfl (tS [some 0, some 1, some 2, some 3] (sV (lS (lS (lS (lS (lS (lS (lS (lS (lS (lS lN)))))))))) (sV (lS lN) (sR qp (sR qj qt)))) (qz qu))
def F_nodeL_t23 (o3_1 : Node) (a0 : Int) (a1 : BA) (a2 : LB) (a3 : LN) (o3_3 : Int) : Option Node :=
 some (Node.mk a0 a1 a2 a3)
@[reducible] def M_F_nodeL_t23 (o3_1 : Node) (a0 : Int) (a1 : BA) (a2 : LB) (a3 : LN) (o3_3 : Int) (r : Node) : Prop :=
  Ok Tryz.prog G tt 41 1 (Ret Tryz.prog [.cell 8 25] (fun y H => yb Tryz.prog G 1 H y (.agg (zo r)) ⟨1, [(0, .var 42 [(.fn 30 [])])]⟩)) (.go [] (yo [23, 30] Tryz.f16 23) [] (.n .undef (.n .undef .z (.n .undef (.n (.ptr 3 3 0) .z .z) .z)) (.n .undef (.n .undef (.n (.ptr 2 2 0) .z .z) .z) .z)) 8 [(0, .var 42 [(.fn 30 [])]), (1, .dead), (2, .var 25 [(.int .i64 0), (.str ⟨#[]⟩), (.sl 1 false (([] : LB).map sc)), (.sl 4 false (([] : LN).map Node.cells))]), (3, .var 67 [(.ptr 0 0 0), (.int .i64 o3_1.kind), (.str o3_1.text), (.sl 1 false (o3_1.gaps.map sc)), (.sl 4 false (o3_1.kids.map Node.cells)), (.int .i64 a0), (.str a1), (.bs 1 4 6 0 a2.length), (.bs 4 5 7 0 a3.length), (.int .i64 o3_3)]), (6, .row 9 (a2.map sc).flatten), (7, .row 25 (a3.map Node.cells).flatten)])
theorem H_F_nodeL_t23 : PC6 M_F_nodeL_t23 F_nodeL_t23 := fun o3_1 a0 a1 a2 a3 o3_3 r h => by
 rw [F_nodeL_t23.eq_def] at h
 refine kr [23, 30] ?_
 cases h
 exact Zy env rfl rfl (tS [some 0] (sV (lS lN) qt) (Jn (resA_agg (y7 (j6 (j5 rfl) rfl) (y7 (j6 (vo rfl) rfl) (y7 (j6 (ue qp rfl) rfl) (y7 (j6 (ue qj rfl) rfl) resL_nil))))) (by simp)))
def F_nodeL_t30 (o3_1 : Node) (a0 : Int) (a1 : BA) (a2 : LB) (a3 : LN) (o3_3 : Int) : Option Node :=
 F_nodeL_t23 o3_1 a0 a1 a2 a3 o3_3
@[reducible] def M_F_nodeL_t30 (o3_1 : Node) (a0 : Int) (a1 : BA) (a2 : LB) (a3 : LN) (o3_3 : Int) (r : Node) : Prop :=
  Ok Tryz.prog G tt 41 1 (Ret Tryz.prog [.cell 8 25] (fun y H => yb Tryz.prog G 1 H y (.agg (zo r)) ⟨1, [(0, .var 42 [(.fn 30 [])])]⟩)) (.go [] (yo [23, 30] Tryz.f16 30) [] (.n .undef (.n .undef .z (.n .undef (.n (.ptr 3 3 0) .z .z) .z)) (.n .undef (.n .undef (.n (.ptr 2 2 0) .z .z) .z) .z)) 8 [(0, .var 42 [(.fn 30 [])]), (1, .dead), (2, .var 25 [(.int .i64 0), (.str ⟨#[]⟩), (.sl 1 false (([] : LB).map sc)), (.sl 4 false (([] : LN).map Node.cells))]), (3, .var 67 [(.ptr 0 0 0), (.int .i64 o3_1.kind), (.str o3_1.text), (.sl 1 false (o3_1.gaps.map sc)), (.sl 4 false (o3_1.kids.map Node.cells)), (.int .i64 a0), (.str a1), (.bs 1 4 6 0 a2.length), (.bs 4 5 7 0 a3.length), (.int .i64 o3_3)]), (6, .row 9 (a2.map sc).flatten), (7, .row 25 (a3.map Node.cells).flatten)])
theorem H_F_nodeL_t30 : PC6 M_F_nodeL_t30 F_nodeL_t30 := fun o3_1 a0 a1 a2 a3 o3_3 r h => by
 rw [F_nodeL_t30.eq_def] at h
 refine kr [23, 30] ?_
 exact q7 (by kernel_rfl) rfl lQ (H_F_nodeL_t23 _ _ _ _ _ _ _ h)
mutual
def F_nodeL (a1 : Node) (a2 : BA) (a3 : Int) : Option Node :=
 F_grammar_Group a1.kind >>= fun x1 =>
 if (decide (x1 = (3 : Int))) = true then
  F_expressionL (qa a1) a1.kind a1.text ([] : LB) ([] : LN) (qa a3) (qa a2) >>= fun x2 =>
  F_nodeL_t23 (qa a1) a1.kind a1.text x2.1 x2.2 (qa a3)
 else
  F_grammar_Group a1.kind >>= fun x3 =>
  if (decide (x3 = (2 : Int))) = true then
   F_statementL (qa a1) a1.kind a1.text ([] : LB) ([] : LN) (qa a3) (qa a2) >>= fun x4 =>
   F_nodeL_t30 (qa a1) a1.kind a1.text x4.1 x4.2 (qa a3)
  else
   F_otherL (qa a1) a1.kind a1.text ([] : LB) ([] : LN) (qa a3) (qa a2) >>= fun x5 =>
   F_nodeL_t30 (qa a1) a1.kind a1.text x5.1 x5.2.1 x5.2.2
 partial_fixpoint
def F_expressionL (a0_n : Node) (a0 : Int) (a2 : BA) (a3 : LB) (a4 : LN) (a5 : Int) (a1 : BA) : Option (LB × LN) :=
 if (decide (a0_n.kind = (20 : Int))) = true then
  F_ownL (qa a0_n) (qa a0) (qa a2) (qa a3) (qa a4) (qa a5) (qa a1) a0_n.text >>= fun x6 =>
  F_ownL (qa a0_n) (qa a0) (qa a2) (qa x6) (qa a4) (qa a5) (⟨#[]⟩ : BA) (⟨#[40]⟩ : BA) >>= fun x7 =>
  F_restL (qa a0_n) (qa a0) (qa a2) (qa x7) (qa a4) (qa a5) >>= fun x8 =>
  some (x8.1, x8.2)
 else
  if (decide (a0_n.kind = (21 : Int))) = true then
   F_kidL (qa a0_n) (qa a0) (qa a2) (qa a3) (qa a4) (qa a5) (qa a1) >>= fun x9 =>
   F_ownL (qa a0_n) (qa a0) (qa a2) (qa a3) (qa x9) (qa a5) (⟨#[]⟩ : BA) (⟨#[46]⟩ : BA) >>= fun x10 =>
   F_ownL (qa a0_n) (qa a0) (qa a2) (qa x10) (qa x9) (qa a5) (⟨#[]⟩ : BA) a0_n.text >>= fun x11 =>
   F_ownL (qa a0_n) (qa a0) (qa a2) (qa x11) (qa x9) (qa a5) (⟨#[]⟩ : BA) (⟨#[40]⟩ : BA) >>= fun x12 =>
   F_restL (qa a0_n) (qa a0) (qa a2) (qa x12) (qa x9) (qa a5) >>= fun x13 =>
   some (x13.1, x13.2)
  else
   if (decide (a0_n.kind = (22 : Int))) = true then
    F_ownL (qa a0_n) (qa a0) (qa a2) (qa a3) (qa a4) (qa a5) (qa a1) (⟨#[110, 101, 119]⟩ : BA) >>= fun x14 =>
    F_ownL (qa a0_n) (qa a0) (qa a2) (qa x14) (qa a4) (qa a5) (⟨#[32]⟩ : BA) a0_n.text >>= fun x15 =>
    F_ownL (qa a0_n) (qa a0) (qa a2) (qa x15) (qa a4) (qa a5) (⟨#[]⟩ : BA) (⟨#[40]⟩ : BA) >>= fun x16 =>
    F_ownL (qa a0_n) (qa a0) (qa a2) (qa x16) (qa a4) (qa a5) (⟨#[]⟩ : BA) (⟨#[41]⟩ : BA) >>= fun x17 =>
    some (x17, a4)
   else
    if (decide (a0_n.kind = (24 : Int))) = true then
     F_kidL (qa a0_n) (qa a0) (qa a2) (qa a3) (qa a4) (qa a5) (qa a1) >>= fun x18 =>
     F_ownL (qa a0_n) (qa a0) (qa a2) (qa a3) (qa x18) (qa a5) (⟨#[32]⟩ : BA) a0_n.text >>= fun x19 =>
     F_kidL (qa a0_n) (qa a0) (qa a2) (qa x19) (qa x18) (qa a5) (⟨#[32]⟩ : BA) >>= fun x20 =>
     some (x19, x20)
    else
     if (decide (a0_n.kind = (25 : Int))) = true then
      F_ownL (qa a0_n) (qa a0) (qa a2) (qa a3) (qa a4) (qa a5) (qa a1) a0_n.text >>= fun x21 =>
      F_kidL (qa a0_n) (qa a0) (qa a2) (qa x21) (qa a4) (qa a5) (⟨#[]⟩ : BA) >>= fun x22 =>
      some (x21, x22)
     else
      if (decide (a0_n.kind = (26 : Int))) = true then
       F_ownL (qa a0_n) (qa a0) (qa a2) (qa a3) (qa a4) (qa a5) (qa a1) (⟨#[40]⟩ : BA) >>= fun x23 =>
       F_kidL (qa a0_n) (qa a0) (qa a2) (qa x23) (qa a4) (qa a5) (⟨#[]⟩ : BA) >>= fun x24 =>
       F_ownL (qa a0_n) (qa a0) (qa a2) (qa x23) (qa x24) (qa a5) (⟨#[]⟩ : BA) (⟨#[41]⟩ : BA) >>= fun x25 =>
       some (x25, x24)
      else
       F_ownL (qa a0_n) (qa a0) (qa a2) (qa a3) (qa a4) (qa a5) (qa a1) a0_n.text >>= fun x26 =>
       some (x26, a4)
 partial_fixpoint
def F_statementL (a0_n : Node) (a0 : Int) (a2 : BA) (a3 : LB) (a4 : LN) (a5 : Int) (a1 : BA) : Option (LB × LN) :=
 if (decide (a0_n.kind = (10 : Int))) = true then
  F_namedL (qa a0_n) (qa a0) (qa a2) (qa a3) (qa a4) (qa a5) (qa a1) (⟨#[108, 101, 116]⟩ : BA) >>= fun x27 =>
  some (x27.1, x27.2)
 else
  if (decide (a0_n.kind = (11 : Int))) = true then
   F_ownL (qa a0_n) (qa a0) (qa a2) (qa a3) (qa a4) (qa a5) (qa a1) a0_n.text >>= fun x28 =>
   F_ownL (qa a0_n) (qa a0) (qa a2) (qa x28) (qa a4) (qa a5) (⟨#[32]⟩ : BA) (⟨#[61]⟩ : BA) >>= fun x29 =>
   F_kidL (qa a0_n) (qa a0) (qa a2) (qa x29) (qa a4) (qa a5) (⟨#[32]⟩ : BA) >>= fun x30 =>
   F_ownL (qa a0_n) (qa a0) (qa a2) (qa x29) (qa x30) (qa a5) (⟨#[]⟩ : BA) (⟨#[59]⟩ : BA) >>= fun x31 =>
   some (x31, x30)
  else
   if (decide (a0_n.kind = (12 : Int))) = true then
    F_ownL (qa a0_n) (qa a0) (qa a2) (qa a3) (qa a4) (qa a5) (qa a1) (⟨#[114, 101, 116, 117, 114, 110]⟩ : BA) >>= fun x32 =>
    F_kidL (qa a0_n) (qa a0) (qa a2) (qa x32) (qa a4) (qa a5) (⟨#[32]⟩ : BA) >>= fun x33 =>
    F_ownL (qa a0_n) (qa a0) (qa a2) (qa x32) (qa x33) (qa a5) (⟨#[]⟩ : BA) (⟨#[59]⟩ : BA) >>= fun x34 =>
    some (x34, x33)
   else
    if (decide (a0_n.kind = (13 : Int))) = true then
     if (decide (a0_n.kind = (15 : Int))) = true then
      F_statementL_t53 (qa a1) (⟨#[119, 104, 105, 108, 101]⟩ : BA) (qa a0_n) (qa a0) (qa a2) (qa a3) (qa a4) (qa a5)
     else
      F_statementL_t53 (qa a1) (⟨#[105, 102]⟩ : BA) (qa a0_n) (qa a0) (qa a2) (qa a3) (qa a4) (qa a5)
    else
     if (decide (a0_n.kind = (15 : Int))) = true then
      if (decide (a0_n.kind = (15 : Int))) = true then
       F_statementL_t53 (qa a1) (⟨#[119, 104, 105, 108, 101]⟩ : BA) (qa a0_n) (qa a0) (qa a2) (qa a3) (qa a4) (qa a5)
      else
       F_statementL_t53 (qa a1) (⟨#[105, 102]⟩ : BA) (qa a0_n) (qa a0) (qa a2) (qa a3) (qa a4) (qa a5)
     else
      F_kidL (qa a0_n) (qa a0) (qa a2) (qa a3) (qa a4) (qa a5) (qa a1) >>= fun x35 =>
      F_ownL (qa a0_n) (qa a0) (qa a2) (qa a3) (qa x35) (qa a5) (⟨#[]⟩ : BA) (⟨#[59]⟩ : BA) >>= fun x36 =>
      some (x36, x35)
 partial_fixpoint
def F_otherL (a0_n : Node) (a0 : Int) (a2 : BA) (a3 : LB) (a4 : LN) (a5 : Int) (a1 : BA) : Option (LB × LN × Int) :=
 if (decide (a0_n.kind = (1 : Int))) = true then
  F_otherL_l0 a0_n.kids 0 (qa a1) (qa a0_n) (qa a0) (qa a2) (qa a3) (qa a4) (qa a5)
 else
  if (decide (a0_n.kind = (2 : Int))) = true then
   F_ownL (qa a0_n) (qa a0) (qa a2) (qa a3) (qa a4) (qa a5) (qa a1) (⟨#[102, 110]⟩ : BA) >>= fun x37 =>
   F_ownL (qa a0_n) (qa a0) (qa a2) (qa x37) (qa a4) (qa a5) (⟨#[32]⟩ : BA) a0_n.text >>= fun x38 =>
   F_kidL (qa a0_n) (qa a0) (qa a2) (qa x38) (qa a4) (qa a5) (⟨#[]⟩ : BA) >>= fun x39 =>
   F_kidL (qa a0_n) (qa a0) (qa a2) (qa x38) (qa x39) (qa a5) (⟨#[32]⟩ : BA) >>= fun x40 =>
   F_kidL (qa a0_n) (qa a0) (qa a2) (qa x38) (qa x40) (qa a5) (⟨#[32]⟩ : BA) >>= fun x41 =>
   some (x38, x41, a5)
  else
   if (decide (a0_n.kind = (3 : Int))) = true then
    F_ownL (qa a0_n) (qa a0) (qa a2) (qa a3) (qa a4) (qa a5) (qa a1) (⟨#[40]⟩ : BA) >>= fun x42 =>
    F_restL (qa a0_n) (qa a0) (qa a2) (qa x42) (qa a4) (qa a5) >>= fun x43 =>
    some (x43.1, x43.2, a5)
   else
    if (decide (a0_n.kind = (4 : Int))) = true then
     F_ownL (qa a0_n) (qa a0) (qa a2) (qa a3) (qa a4) (qa a5) (qa a1) a0_n.text >>= fun x44 =>
     F_kidL (qa a0_n) (qa a0) (qa a2) (qa x44) (qa a4) (qa a5) (⟨#[32]⟩ : BA) >>= fun x45 =>
     some (x44, x45, a5)
    else
     if (decide (a0_n.kind = (5 : Int))) = true then
      F_ownL (qa a0_n) (qa a0) (qa a2) (qa a3) (qa a4) (qa a5) (qa a1) a0_n.text >>= fun x46 =>
      some (x46, a4, a5)
     else
      if (decide (a0_n.kind = (6 : Int))) = true then
       F_ownL (qa a0_n) (qa a0) (qa a2) (qa a3) (qa a4) (qa a5) (qa a1) (⟨#[123]⟩ : BA) >>= fun x47 =>
       F_bodyL (qa a0_n) (qa a0) (qa a2) (qa x47) (qa a4) (qa a5) (0 : Int) >>= fun x48 =>
       some (x48.1, x48.2.1, x48.2.2)
      else
       if (decide (a0_n.kind = (7 : Int))) = true then
        F_ownL (qa a0_n) (qa a0) (qa a2) (qa a3) (qa a4) (qa a5) (qa a1) (⟨#[99, 108, 97, 115, 115]⟩ : BA) >>= fun x49 =>
        F_ownL (qa a0_n) (qa a0) (qa a2) (qa x49) (qa a4) (qa a5) (⟨#[32]⟩ : BA) a0_n.text >>= fun x50 =>
        F_kidL (qa a0_n) (qa a0) (qa a2) (qa x50) (qa a4) (qa a5) (⟨#[32]⟩ : BA) >>= fun x51 =>
        F_ownL (qa a0_n) (qa a0) (qa a2) (qa x50) (qa x51) (qa a5) (⟨#[32]⟩ : BA) (⟨#[123]⟩ : BA) >>= fun x52 =>
        F_bodyL (qa a0_n) (qa a0) (qa a2) (qa x52) (qa x51) (qa a5) (1 : Int) >>= fun x53 =>
        some (x53.1, x53.2.1, x53.2.2)
       else
        if (decide (a0_n.kind = (8 : Int))) = true then
         if (!decide (a0_n.text = (⟨#[]⟩ : BA))) = true then
          F_ownL (qa a0_n) (qa a0) (qa a2) (qa a3) (qa a4) (qa a5) (qa a1) (⟨#[58]⟩ : BA) >>= fun x54 =>
          F_ownL (qa a0_n) (qa a0) (qa a2) (qa x54) (qa a4) (qa a5) (⟨#[32]⟩ : BA) a0_n.text >>= fun x55 =>
          some (x55, a4, a5)
         else
          some (a3, a4, a5)
        else
         if (decide (a0_n.kind = (9 : Int))) = true then
          F_namedL (qa a0_n) (qa a0) (qa a2) (qa a3) (qa a4) (qa a5) (qa a1) (⟨#[99, 111, 110, 115, 116]⟩ : BA) >>= fun x56 =>
          some (x56.1, x56.2, a5)
         else
          if (decide (a0_n.kind = (14 : Int))) = true then
           if (decide ((0 : Int) < ((a0_n.kids.map Node.cells).length : Int))) = true then
            F_ownL (qa a0_n) (qa a0) (qa a2) (qa a3) (qa a4) (qa a5) (qa a1) (⟨#[101, 108, 115, 101]⟩ : BA) >>= fun x57 =>
            F_kidL (qa a0_n) (qa a0) (qa a2) (qa x57) (qa a4) (qa a5) (⟨#[32]⟩ : BA) >>= fun x58 =>
            some (x57, x58, a5)
           else
            some (a3, a4, a5)
          else
           some (a3, a4, a5)
 partial_fixpoint
def F_restL (a0_n : Node) (a0 : Int) (a1 : BA) (a2 : LB) (a3 : LN) (a4 : Int) : Option (LB × LN) :=
 F_restL_l0 (qa true) (qa a0_n) (qa a0) (qa a1) (qa a2) (qa a3) (qa a4)
 partial_fixpoint
def F_kidL (a0_n : Node) (a0 : Int) (a2 : BA) (a3 : LB) (a4 : LN) (a5 : Int) (a1 : BA) : Option LN :=
 ix a0_n.kids (a4.length : Int) >>= fun x59 =>
 F_nodeL (qa x59) (qa a1) (qa a5) >>= fun x60 =>
 app 72 a4 [x60] >>= fun x61 =>
 some x61
 partial_fixpoint
def F_namedL (a0_n : Node) (a0 : Int) (a3 : BA) (a4 : LB) (a5 : LN) (a6 : Int) (a1 : BA) (a2 : BA) : Option (LB × LN) :=
 F_ownL (qa a0_n) (qa a0) (qa a3) (qa a4) (qa a5) (qa a6) (qa a1) (qa a2) >>= fun x62 =>
 F_ownL (qa a0_n) (qa a0) (qa a3) (qa x62) (qa a5) (qa a6) (⟨#[32]⟩ : BA) a0_n.text >>= fun x63 =>
 F_ownL (qa a0_n) (qa a0) (qa a3) (qa x63) (qa a5) (qa a6) (⟨#[32]⟩ : BA) (⟨#[61]⟩ : BA) >>= fun x64 =>
 F_kidL (qa a0_n) (qa a0) (qa a3) (qa x64) (qa a5) (qa a6) (⟨#[32]⟩ : BA) >>= fun x65 =>
 F_ownL (qa a0_n) (qa a0) (qa a3) (qa x64) (qa x65) (qa a6) (⟨#[]⟩ : BA) (⟨#[59]⟩ : BA) >>= fun x66 =>
 some (x66, x65)
 partial_fixpoint
def F_bodyL (a0_n : Node) (a0 : Int) (a2 : BA) (a3 : LB) (a4 : LN) (a5 : Int) (a1 : Int) : Option (LB × LN × Int) :=
 F_bodyL_l0 (qa a1) (qa a0_n) (qa a0) (qa a2) (qa a3) (qa a4) (IntKind.i64.wrap (a5 + (1 : Int)))
 partial_fixpoint
def F_statementL_t53 (t1 : BA) (t4 : BA) (o0_1 : Node) (a0 : Int) (a1 : BA) (a2 : LB) (a3 : LN) (o0_3 : Int) : Option (LB × LN) :=
 F_ownL (qa o0_1) (qa a0) (qa a1) (qa a2) (qa a3) (qa o0_3) (qa t1) (qa t4) >>= fun x67 =>
 F_statementL_l0 o0_1.kids (qa o0_1) (qa a0) (qa a1) (qa x67) (qa a3) (qa o0_3)
 partial_fixpoint
def F_otherL_l0 (a0 : LN) (j0 : Nat) (t1 : BA) (o0_1 : Node) (a1 : Int) (a2 : BA) (a3 : LB) (a4 : LN) (o0_3 : Int) : Option (LB × LN × Int) :=
 match a0 with
 | [] =>
   if (decide ((0 : Int) < ((o0_1.kids.map Node.cells).length : Int))) = true then
    F_otherL_t33 (⟨#[10]⟩ : BA) (qa o0_1) (qa a1) (qa a2) (qa a3) (qa a4) (qa o0_3)
   else
    F_otherL_t33 (qa t1) (qa o0_1) (qa a1) (qa a2) (qa a3) (qa a4) (qa o0_3)
 | x_0 :: a0 =>
   if (decide ((0 : Int) < ((j0 : Nat) : Int))) = true then
    F_otherL_t22 (qa a0) (qa j0) (⟨#[10, 10]⟩ : BA) (qa o0_1) (qa a1) (qa a2) (qa a3) (qa a4) (qa o0_3)
   else
    F_otherL_t22 (qa a0) (qa j0) (qa t1) (qa o0_1) (qa a1) (qa a2) (qa a3) (qa a4) (qa o0_3)
 partial_fixpoint
def F_restL_l0 (t2 : Bool) (o0_1 : Node) (a0 : Int) (a1 : BA) (a2 : LB) (a3 : LN) (o0_3 : Int) : Option (LB × LN) :=
 if (decide ((a3.length : Int) < ((o0_1.kids.map Node.cells).length : Int))) = true then
  if t2 = true then
   F_kidL (qa o0_1) (qa a0) (qa a1) (qa a2) (qa a3) (qa o0_3) (⟨#[]⟩ : BA) >>= fun x68 =>
   F_restL_b1 (qa o0_1) (qa a0) (qa a1) (qa a2) (qa x68) (qa o0_3)
  else
   F_ownL (qa o0_1) (qa a0) (qa a1) (qa a2) (qa a3) (qa o0_3) (⟨#[]⟩ : BA) (⟨#[44]⟩ : BA) >>= fun x69 =>
   F_kidL (qa o0_1) (qa a0) (qa a1) (qa x69) (qa a3) (qa o0_3) (⟨#[32]⟩ : BA) >>= fun x70 =>
   F_restL_b1 (qa o0_1) (qa a0) (qa a1) (qa x69) (qa x70) (qa o0_3)
 else
  F_ownL (qa o0_1) (qa a0) (qa a1) (qa a2) (qa a3) (qa o0_3) (⟨#[]⟩ : BA) (⟨#[41]⟩ : BA) >>= fun x71 =>
  some (x71, a3)
 partial_fixpoint
def F_bodyL_l0 (t1 : Int) (o0_1 : Node) (a0 : Int) (a1 : BA) (a2 : LB) (a3 : LN) (o0_3 : Int) : Option (LB × LN × Int) :=
 if (decide ((a3.length : Int) < ((o0_1.kids.map Node.cells).length : Int))) = true then
  F_print_line (qa o0_3) >>= fun x72 =>
  F_kidL (qa o0_1) (qa a0) (qa a1) (qa a2) (qa a3) (qa o0_3) (qa x72) >>= fun x73 =>
  F_bodyL_l0 (qa t1) (qa o0_1) (qa a0) (qa a1) (qa a2) (qa x73) (qa o0_3)
 else
  if (decide (t1 < ((o0_1.kids.map Node.cells).length : Int))) = true then
   F_print_line (IntKind.i64.wrap (o0_3 - (1 : Int))) >>= fun x74 =>
   F_ownL (qa o0_1) (qa a0) (qa a1) (qa a2) (qa a3) (IntKind.i64.wrap (o0_3 - (1 : Int))) (qa x74) (⟨#[125]⟩ : BA) >>= fun x75 =>
   some (x75, a3, (IntKind.i64.wrap (o0_3 - (1 : Int))))
  else
   F_ownL (qa o0_1) (qa a0) (qa a1) (qa a2) (qa a3) (IntKind.i64.wrap (o0_3 - (1 : Int))) (⟨#[]⟩ : BA) (⟨#[125]⟩ : BA) >>= fun x76 =>
   some (x76, a3, (IntKind.i64.wrap (o0_3 - (1 : Int))))
 partial_fixpoint
def F_statementL_l0 (a0 : LN) (o0_1 : Node) (a1 : Int) (a2 : BA) (a3 : LB) (a4 : LN) (o0_3 : Int) : Option (LB × LN) :=
 match a0 with
 | [] =>
   some (a3, a4)
 | x_0 :: a0 =>
   F_kidL (qa o0_1) (qa a1) (qa a2) (qa a3) (qa a4) (qa o0_3) (⟨#[32]⟩ : BA) >>= fun x77 =>
   F_statementL_l0 (qa a0) (qa o0_1) (qa a1) (qa a2) (qa a3) (qa x77) (qa o0_3)
 partial_fixpoint
def F_otherL_t22 (a0 : LN) (j0 : Nat) (t1 : BA) (o0_1 : Node) (a1 : Int) (a2 : BA) (a3 : LB) (a4 : LN) (o0_3 : Int) : Option (LB × LN × Int) :=
 F_kidL (qa o0_1) (qa a1) (qa a2) (qa a3) (qa a4) (qa o0_3) (qa t1) >>= fun x79 =>
 F_otherL_l0 (qa a0) (j0 + 1) (qa t1) (qa o0_1) (qa a1) (qa a2) (qa a3) (qa x79) (qa o0_3)
 partial_fixpoint
def F_restL_b1 (o0_1 : Node) (a0 : Int) (a1 : BA) (a2 : LB) (a3 : LN) (o0_3 : Int) : Option (LB × LN) :=
 F_restL_l0 (qa false) (qa o0_1) (qa a0) (qa a1) (qa a2) (qa a3) (qa o0_3)
 partial_fixpoint
end
@[reducible] def M_F_nodeL (a1 : Node) (a2 : BA) (a3 : Int) (r : Node) : Prop :=
  AC Tryz.prog G 16 [(.ptr 0 0 0), (.agg (zo a1)), (.str a2), (.int .i64 a3)] 1 [(0, .var 42 [(.fn 30 [])])] (.agg (zo r)) 1 [(0, .var 42 [(.fn 30 [])])]
@[reducible] def M_F_expressionL (a0_n : Node) (a0 : Int) (a2 : BA) (a3 : LB) (a4 : LN) (a5 : Int) (a1 : BA) (r : LB × LN) : Prop :=
  AC Tryz.prog G 34 [(.ptr 0 0 0), (.str a1)] 4 [(0, .var 67 [(.ptr 1 1 0), (.int .i64 a0_n.kind), (.str a0_n.text), (.sl 1 false (a0_n.gaps.map sc)), (.sl 4 false (a0_n.kids.map Node.cells)), (.int .i64 a0), (.str a2), (.bs 1 2 2 0 a3.length), (.bs 4 3 3 0 a4.length), (.int .i64 a5)]), (1, .var 42 [(.fn 30 [])]), (2, .row 9 (a3.map sc).flatten), (3, .row 25 (a4.map Node.cells).flatten)] (.tup []) 6 [(0, .var 67 [(.ptr 1 1 0), (.int .i64 a0_n.kind), (.str a0_n.text), (.sl 1 false (a0_n.gaps.map sc)), (.sl 4 false (a0_n.kids.map Node.cells)), (.int .i64 a0), (.str a2), (.bs 1 2 4 0 r.1.length), (.bs 4 3 5 0 r.2.length), (.int .i64 a5)]), (1, .var 42 [(.fn 30 [])]), (4, .row 9 (r.1.map sc).flatten), (5, .row 25 (r.2.map Node.cells).flatten)]
@[reducible] def M_F_statementL (a0_n : Node) (a0 : Int) (a2 : BA) (a3 : LB) (a4 : LN) (a5 : Int) (a1 : BA) (r : LB × LN) : Prop :=
  AC Tryz.prog G 35 [(.ptr 0 0 0), (.str a1)] 4 [(0, .var 67 [(.ptr 1 1 0), (.int .i64 a0_n.kind), (.str a0_n.text), (.sl 1 false (a0_n.gaps.map sc)), (.sl 4 false (a0_n.kids.map Node.cells)), (.int .i64 a0), (.str a2), (.bs 1 2 2 0 a3.length), (.bs 4 3 3 0 a4.length), (.int .i64 a5)]), (1, .var 42 [(.fn 30 [])]), (2, .row 9 (a3.map sc).flatten), (3, .row 25 (a4.map Node.cells).flatten)] (.tup []) 6 [(0, .var 67 [(.ptr 1 1 0), (.int .i64 a0_n.kind), (.str a0_n.text), (.sl 1 false (a0_n.gaps.map sc)), (.sl 4 false (a0_n.kids.map Node.cells)), (.int .i64 a0), (.str a2), (.bs 1 2 4 0 r.1.length), (.bs 4 3 5 0 r.2.length), (.int .i64 a5)]), (1, .var 42 [(.fn 30 [])]), (4, .row 9 (r.1.map sc).flatten), (5, .row 25 (r.2.map Node.cells).flatten)]
@[reducible] def M_F_otherL (a0_n : Node) (a0 : Int) (a2 : BA) (a3 : LB) (a4 : LN) (a5 : Int) (a1 : BA) (r : LB × LN × Int) : Prop :=
  AC Tryz.prog G 36 [(.ptr 0 0 0), (.str a1)] 4 [(0, .var 67 [(.ptr 1 1 0), (.int .i64 a0_n.kind), (.str a0_n.text), (.sl 1 false (a0_n.gaps.map sc)), (.sl 4 false (a0_n.kids.map Node.cells)), (.int .i64 a0), (.str a2), (.bs 1 2 2 0 a3.length), (.bs 4 3 3 0 a4.length), (.int .i64 a5)]), (1, .var 42 [(.fn 30 [])]), (2, .row 9 (a3.map sc).flatten), (3, .row 25 (a4.map Node.cells).flatten)] (.tup []) 6 [(0, .var 67 [(.ptr 1 1 0), (.int .i64 a0_n.kind), (.str a0_n.text), (.sl 1 false (a0_n.gaps.map sc)), (.sl 4 false (a0_n.kids.map Node.cells)), (.int .i64 a0), (.str a2), (.bs 1 2 4 0 r.1.length), (.bs 4 3 5 0 r.2.1.length), (.int .i64 r.2.2)]), (1, .var 42 [(.fn 30 [])]), (4, .row 9 (r.1.map sc).flatten), (5, .row 25 (r.2.1.map Node.cells).flatten)]
@[reducible] def M_F_restL (a0_n : Node) (a0 : Int) (a1 : BA) (a2 : LB) (a3 : LN) (a4 : Int) (r : LB × LN) : Prop :=
  AC Tryz.prog G 53 [(.ptr 0 0 0)] 4 [(0, .var 67 [(.ptr 1 1 0), (.int .i64 a0_n.kind), (.str a0_n.text), (.sl 1 false (a0_n.gaps.map sc)), (.sl 4 false (a0_n.kids.map Node.cells)), (.int .i64 a0), (.str a1), (.bs 1 2 2 0 a2.length), (.bs 4 3 3 0 a3.length), (.int .i64 a4)]), (1, .var 42 [(.fn 30 [])]), (2, .row 9 (a2.map sc).flatten), (3, .row 25 (a3.map Node.cells).flatten)] (.tup []) 6 [(0, .var 67 [(.ptr 1 1 0), (.int .i64 a0_n.kind), (.str a0_n.text), (.sl 1 false (a0_n.gaps.map sc)), (.sl 4 false (a0_n.kids.map Node.cells)), (.int .i64 a0), (.str a1), (.bs 1 2 4 0 r.1.length), (.bs 4 3 5 0 r.2.length), (.int .i64 a4)]), (1, .var 42 [(.fn 30 [])]), (4, .row 9 (r.1.map sc).flatten), (5, .row 25 (r.2.map Node.cells).flatten)]
@[reducible] def M_F_kidL (a0_n : Node) (a0 : Int) (a2 : BA) (a3 : LB) (a4 : LN) (a5 : Int) (a1 : BA) (r : LN) : Prop :=
  AC Tryz.prog G 54 [(.ptr 0 0 0), (.str a1)] 4 [(0, .var 67 [(.ptr 1 1 0), (.int .i64 a0_n.kind), (.str a0_n.text), (.sl 1 false (a0_n.gaps.map sc)), (.sl 4 false (a0_n.kids.map Node.cells)), (.int .i64 a0), (.str a2), (.bs 1 2 2 0 a3.length), (.bs 4 3 3 0 a4.length), (.int .i64 a5)]), (1, .var 42 [(.fn 30 [])]), (2, .row 9 (a3.map sc).flatten), (3, .row 25 (a4.map Node.cells).flatten)] (.tup []) 5 [(0, .var 67 [(.ptr 1 1 0), (.int .i64 a0_n.kind), (.str a0_n.text), (.sl 1 false (a0_n.gaps.map sc)), (.sl 4 false (a0_n.kids.map Node.cells)), (.int .i64 a0), (.str a2), (.bs 1 2 2 0 a3.length), (.bs 4 3 4 0 r.length), (.int .i64 a5)]), (1, .var 42 [(.fn 30 [])]), (2, .row 9 (a3.map sc).flatten), (4, .row 25 (r.map Node.cells).flatten)]
@[reducible] def M_F_namedL (a0_n : Node) (a0 : Int) (a3 : BA) (a4 : LB) (a5 : LN) (a6 : Int) (a1 : BA) (a2 : BA) (r : LB × LN) : Prop :=
  AC Tryz.prog G 55 [(.ptr 0 0 0), (.str a1), (.str a2)] 4 [(0, .var 67 [(.ptr 1 1 0), (.int .i64 a0_n.kind), (.str a0_n.text), (.sl 1 false (a0_n.gaps.map sc)), (.sl 4 false (a0_n.kids.map Node.cells)), (.int .i64 a0), (.str a3), (.bs 1 2 2 0 a4.length), (.bs 4 3 3 0 a5.length), (.int .i64 a6)]), (1, .var 42 [(.fn 30 [])]), (2, .row 9 (a4.map sc).flatten), (3, .row 25 (a5.map Node.cells).flatten)] (.tup []) 6 [(0, .var 67 [(.ptr 1 1 0), (.int .i64 a0_n.kind), (.str a0_n.text), (.sl 1 false (a0_n.gaps.map sc)), (.sl 4 false (a0_n.kids.map Node.cells)), (.int .i64 a0), (.str a3), (.bs 1 2 4 0 r.1.length), (.bs 4 3 5 0 r.2.length), (.int .i64 a6)]), (1, .var 42 [(.fn 30 [])]), (4, .row 9 (r.1.map sc).flatten), (5, .row 25 (r.2.map Node.cells).flatten)]
@[reducible] def M_F_bodyL (a0_n : Node) (a0 : Int) (a2 : BA) (a3 : LB) (a4 : LN) (a5 : Int) (a1 : Int) (r : LB × LN × Int) : Prop :=
  AC Tryz.prog G 56 [(.ptr 0 0 0), (.int .i64 a1)] 4 [(0, .var 67 [(.ptr 1 1 0), (.int .i64 a0_n.kind), (.str a0_n.text), (.sl 1 false (a0_n.gaps.map sc)), (.sl 4 false (a0_n.kids.map Node.cells)), (.int .i64 a0), (.str a2), (.bs 1 2 2 0 a3.length), (.bs 4 3 3 0 a4.length), (.int .i64 a5)]), (1, .var 42 [(.fn 30 [])]), (2, .row 9 (a3.map sc).flatten), (3, .row 25 (a4.map Node.cells).flatten)] (.tup []) 6 [(0, .var 67 [(.ptr 1 1 0), (.int .i64 a0_n.kind), (.str a0_n.text), (.sl 1 false (a0_n.gaps.map sc)), (.sl 4 false (a0_n.kids.map Node.cells)), (.int .i64 a0), (.str a2), (.bs 1 2 4 0 r.1.length), (.bs 4 3 5 0 r.2.1.length), (.int .i64 r.2.2)]), (1, .var 42 [(.fn 30 [])]), (4, .row 9 (r.1.map sc).flatten), (5, .row 25 (r.2.1.map Node.cells).flatten)]
@[reducible] def M_F_statementL_t53 (t1 : BA) (t4 : BA) (o0_1 : Node) (a0 : Int) (a1 : BA) (a2 : LB) (a3 : LN) (o0_3 : Int) (r : LB × LN) : Prop :=
  Ok Tryz.prog G tt 69 4 (Ret Tryz.prog [] (fun y H => yb Tryz.prog G 4 H y (.tup []) ⟨6, [(0, .var 67 [(.ptr 1 1 0), (.int .i64 o0_1.kind), (.str o0_1.text), (.sl 1 false (o0_1.gaps.map sc)), (.sl 4 false (o0_1.kids.map Node.cells)), (.int .i64 a0), (.str a1), (.bs 1 2 4 0 r.1.length), (.bs 4 3 5 0 r.2.length), (.int .i64 o0_3)]), (1, .var 42 [(.fn 30 [])]), (4, .row 9 (r.1.map sc).flatten), (5, .row 25 (r.2.map Node.cells).flatten)]⟩)) (.go [] (yo [53] Tryz.f35 53) [] (.n (.ptr 0 0 0) (.n (.str t1) .z .z) (.n .undef (.n (.str t4) .z .z) .z)) 6 [(0, .var 67 [(.ptr 1 1 0), (.int .i64 o0_1.kind), (.str o0_1.text), (.sl 1 false (o0_1.gaps.map sc)), (.sl 4 false (o0_1.kids.map Node.cells)), (.int .i64 a0), (.str a1), (.bs 1 2 4 0 a2.length), (.bs 4 3 5 0 a3.length), (.int .i64 o0_3)]), (1, .var 42 [(.fn 30 [])]), (4, .row 9 (a2.map sc).flatten), (5, .row 25 (a3.map Node.cells).flatten)])
@[reducible] def M_F_otherL_l0 (a0 : LN) (j0 : Nat) (t1 : BA) (o0_1 : Node) (a1 : Int) (a2 : BA) (a3 : LB) (a4 : LN) (o0_3 : Int) (r : LB × LN × Int) : Prop :=
  ∀ (l0 : LN), l0.drop j0 = a0 → j0 ≤ l0.length → l0.length ≤ 9223372036854775807 → Ok Tryz.prog G tt 146 4 (Ret Tryz.prog [] (fun y H => yb Tryz.prog G 4 H y (.tup []) ⟨6, [(0, .var 67 [(.ptr 1 1 0), (.int .i64 o0_1.kind), (.str o0_1.text), (.sl 1 false (o0_1.gaps.map sc)), (.sl 4 false (o0_1.kids.map Node.cells)), (.int .i64 a1), (.str a2), (.bs 1 2 4 0 r.1.length), (.bs 4 3 5 0 r.2.1.length), (.int .i64 r.2.2)]), (1, .var 42 [(.fn 30 [])]), (4, .row 9 (r.1.map sc).flatten), (5, .row 25 (r.2.1.map Node.cells).flatten)]⟩)) (.again (jq [22, 33] Tryz.f36 0).1 (jq [22, 33] Tryz.f36 0).2 (.n (.ptr 0 0 0) (.n (.str t1) .z (.n .undef (.n .undef (.n (.int .i64 ((l0.map Node.cells).length : Int)) .z .z) .z) .z)) (.n .undef (.n .undef (.n .undef (.n (.sl 4 false (l0.map Node.cells)) .z .z) .z) .z) (.n .undef (.n .undef (.n (.int .i64 ((j0 : Nat) : Int)) .z .z) .z) .z))) 6 [(0, .var 67 [(.ptr 1 1 0), (.int .i64 o0_1.kind), (.str o0_1.text), (.sl 1 false (o0_1.gaps.map sc)), (.sl 4 false (o0_1.kids.map Node.cells)), (.int .i64 a1), (.str a2), (.bs 1 2 4 0 a3.length), (.bs 4 3 5 0 a4.length), (.int .i64 o0_3)]), (1, .var 42 [(.fn 30 [])]), (4, .row 9 (a3.map sc).flatten), (5, .row 25 (a4.map Node.cells).flatten)])
@[reducible] def M_F_restL_l0 (t2 : Bool) (o0_1 : Node) (a0 : Int) (a1 : BA) (a2 : LB) (a3 : LN) (o0_3 : Int) (r : LB × LN) : Prop :=
  Ok Tryz.prog G tt 25 4 (Ret Tryz.prog [] (fun y H => yb Tryz.prog G 4 H y (.tup []) ⟨6, [(0, .var 67 [(.ptr 1 1 0), (.int .i64 o0_1.kind), (.str o0_1.text), (.sl 1 false (o0_1.gaps.map sc)), (.sl 4 false (o0_1.kids.map Node.cells)), (.int .i64 a0), (.str a1), (.bs 1 2 4 0 r.1.length), (.bs 4 3 5 0 r.2.length), (.int .i64 o0_3)]), (1, .var 42 [(.fn 30 [])]), (4, .row 9 (r.1.map sc).flatten), (5, .row 25 (r.2.map Node.cells).flatten)]⟩)) (.again (jq [1000001] Tryz.f53 0).1 (jq [1000001] Tryz.f53 0).2 (.n (.ptr 0 0 0) .z (.n (.bool t2) .z .z)) 6 [(0, .var 67 [(.ptr 1 1 0), (.int .i64 o0_1.kind), (.str o0_1.text), (.sl 1 false (o0_1.gaps.map sc)), (.sl 4 false (o0_1.kids.map Node.cells)), (.int .i64 a0), (.str a1), (.bs 1 2 4 0 a2.length), (.bs 4 3 5 0 a3.length), (.int .i64 o0_3)]), (1, .var 42 [(.fn 30 [])]), (4, .row 9 (a2.map sc).flatten), (5, .row 25 (a3.map Node.cells).flatten)])
@[reducible] def M_F_bodyL_l0 (t1 : Int) (o0_1 : Node) (a0 : Int) (a1 : BA) (a2 : LB) (a3 : LN) (o0_3 : Int) (r : LB × LN × Int) : Prop :=
  Ok Tryz.prog G tt 55 4 (Ret Tryz.prog [] (fun y H => yb Tryz.prog G 4 H y (.tup []) ⟨6, [(0, .var 67 [(.ptr 1 1 0), (.int .i64 o0_1.kind), (.str o0_1.text), (.sl 1 false (o0_1.gaps.map sc)), (.sl 4 false (o0_1.kids.map Node.cells)), (.int .i64 a0), (.str a1), (.bs 1 2 4 0 r.1.length), (.bs 4 3 5 0 r.2.1.length), (.int .i64 r.2.2)]), (1, .var 42 [(.fn 30 [])]), (4, .row 9 (r.1.map sc).flatten), (5, .row 25 (r.2.1.map Node.cells).flatten)]⟩)) (.again (jq [] Tryz.f56 0).1 (jq [] Tryz.f56 0).2 (.n (.ptr 0 0 0) (.n (.int .i64 t1) .z .z) .z) 6 [(0, .var 67 [(.ptr 1 1 0), (.int .i64 o0_1.kind), (.str o0_1.text), (.sl 1 false (o0_1.gaps.map sc)), (.sl 4 false (o0_1.kids.map Node.cells)), (.int .i64 a0), (.str a1), (.bs 1 2 4 0 a2.length), (.bs 4 3 5 0 a3.length), (.int .i64 o0_3)]), (1, .var 42 [(.fn 30 [])]), (4, .row 9 (a2.map sc).flatten), (5, .row 25 (a3.map Node.cells).flatten)])
@[reducible] def M_F_statementL_l0 (a0 : LN) (o0_1 : Node) (a1 : Int) (a2 : BA) (a3 : LB) (a4 : LN) (o0_3 : Int) (r : LB × LN) : Prop :=
  ∀ (l0 : LN) (j0 : Nat), l0.drop j0 = a0 → j0 ≤ l0.length → l0.length ≤ 9223372036854775807 → Ok Tryz.prog G tt 69 4 (Ret Tryz.prog [] (fun y H => yb Tryz.prog G 4 H y (.tup []) ⟨6, [(0, .var 67 [(.ptr 1 1 0), (.int .i64 o0_1.kind), (.str o0_1.text), (.sl 1 false (o0_1.gaps.map sc)), (.sl 4 false (o0_1.kids.map Node.cells)), (.int .i64 a1), (.str a2), (.bs 1 2 4 0 r.1.length), (.bs 4 3 5 0 r.2.length), (.int .i64 o0_3)]), (1, .var 42 [(.fn 30 [])]), (4, .row 9 (r.1.map sc).flatten), (5, .row 25 (r.2.map Node.cells).flatten)]⟩)) (.again (jq [53] Tryz.f35 0).1 (jq [53] Tryz.f35 0).2 (.n (.ptr 0 0 0) (.n .undef (.n .undef (.n .undef (.n .undef (.n .undef (.n (.int .i64 ((l0.map Node.cells).length : Int)) .z .z) .z) .z) .z) .z) .z) (.n .undef (.n .undef (.n .undef (.n .undef (.n .undef (.n (.int .i64 ((j0 : Nat) : Int)) .z .z) .z) .z) .z) .z) (.n .undef .z (.n .undef .z (.n .undef .z (.n (.sl 4 false (l0.map Node.cells)) .z .z)))))) 9 [(0, .var 67 [(.ptr 1 1 0), (.int .i64 o0_1.kind), (.str o0_1.text), (.sl 1 false (o0_1.gaps.map sc)), (.sl 4 false (o0_1.kids.map Node.cells)), (.int .i64 a1), (.str a2), (.bs 1 2 7 0 a3.length), (.bs 4 3 8 0 a4.length), (.int .i64 o0_3)]), (1, .var 42 [(.fn 30 [])]), (7, .row 9 (a3.map sc).flatten), (8, .row 25 (a4.map Node.cells).flatten)])
@[reducible] def M_F_otherL_t22 (a0 : LN) (j0 : Nat) (t1 : BA) (o0_1 : Node) (a1 : Int) (a2 : BA) (a3 : LB) (a4 : LN) (o0_3 : Int) (r : LB × LN × Int) : Prop :=
  ∀ (l0 : LN), l0.drop (j0 + 1) = a0 → j0 + 1 ≤ l0.length → l0.length ≤ 9223372036854775807 → Ok Tryz.prog G tt 146 4 (Ret Tryz.prog [] (fun y H => yb Tryz.prog G 4 H y (.tup []) ⟨6, [(0, .var 67 [(.ptr 1 1 0), (.int .i64 o0_1.kind), (.str o0_1.text), (.sl 1 false (o0_1.gaps.map sc)), (.sl 4 false (o0_1.kids.map Node.cells)), (.int .i64 a1), (.str a2), (.bs 1 2 4 0 r.1.length), (.bs 4 3 5 0 r.2.1.length), (.int .i64 r.2.2)]), (1, .var 42 [(.fn 30 [])]), (4, .row 9 (r.1.map sc).flatten), (5, .row 25 (r.2.1.map Node.cells).flatten)]⟩)) (.go [] (yo [22, 33] Tryz.f36 22) [] (.n (.ptr 0 0 0) (.n (.str t1) .z (.n .undef (.n .undef (.n (.int .i64 ((l0.map Node.cells).length : Int)) .z .z) .z) .z)) (.n .undef (.n .undef (.n .undef (.n (.sl 4 false (l0.map Node.cells)) .z .z) .z) .z) (.n .undef (.n .undef (.n (.int .i64 ((j0 : Nat) : Int)) .z .z) .z) .z))) 8 [(0, .var 67 [(.ptr 1 1 0), (.int .i64 o0_1.kind), (.str o0_1.text), (.sl 1 false (o0_1.gaps.map sc)), (.sl 4 false (o0_1.kids.map Node.cells)), (.int .i64 a1), (.str a2), (.bs 1 2 6 0 a3.length), (.bs 4 3 7 0 a4.length), (.int .i64 o0_3)]), (1, .var 42 [(.fn 30 [])]), (6, .row 9 (a3.map sc).flatten), (7, .row 25 (a4.map Node.cells).flatten)])
@[reducible] def M_F_restL_b1 (o0_1 : Node) (a0 : Int) (a1 : BA) (a2 : LB) (a3 : LN) (o0_3 : Int) (r : LB × LN) : Prop :=
  Ok Tryz.prog G tt 25 4 (Ret Tryz.prog [] (fun y H => yb Tryz.prog G 4 H y (.tup []) ⟨6, [(0, .var 67 [(.ptr 1 1 0), (.int .i64 o0_1.kind), (.str o0_1.text), (.sl 1 false (o0_1.gaps.map sc)), (.sl 4 false (o0_1.kids.map Node.cells)), (.int .i64 a0), (.str a1), (.bs 1 2 4 0 r.1.length), (.bs 4 3 5 0 r.2.length), (.int .i64 o0_3)]), (1, .var 42 [(.fn 30 [])]), (4, .row 9 (r.1.map sc).flatten), (5, .row 25 (r.2.map Node.cells).flatten)]⟩)) (.go [] (blockOf [1000001] Tryz.f53 1) [] (.n (.ptr 0 0 0) .z .z) 9 [(0, .var 67 [(.ptr 1 1 0), (.int .i64 o0_1.kind), (.str o0_1.text), (.sl 1 false (o0_1.gaps.map sc)), (.sl 4 false (o0_1.kids.map Node.cells)), (.int .i64 a0), (.str a1), (.bs 1 2 7 0 a2.length), (.bs 4 3 8 0 a3.length), (.int .i64 o0_3)]), (1, .var 42 [(.fn 30 [])]), (7, .row 9 (a2.map sc).flatten), (8, .row 25 (a3.map Node.cells).flatten)])
theorem ALL_F_nodeL : PC3 M_F_nodeL F_nodeL ∧ PC7 M_F_otherL F_otherL ∧ PC8 M_F_namedL F_namedL ∧ PC7 M_F_kidL F_kidL ∧ PC7 M_F_bodyL F_bodyL ∧ PC7 M_F_bodyL_l0 F_bodyL_l0 ∧ PC6 M_F_restL F_restL ∧ PC7 M_F_restL_l0 F_restL_l0 ∧ PC6 M_F_restL_b1 F_restL_b1 ∧ PC9 M_F_otherL_l0 F_otherL_l0 ∧ PC9 M_F_otherL_t22 F_otherL_t22 ∧ PC7 M_F_statementL F_statementL ∧ PC8 M_F_statementL_t53 F_statementL_t53 ∧ PC7 M_F_statementL_l0 F_statementL_l0 ∧ PC7 M_F_expressionL F_expressionL := by
 refine F_nodeL.mutual_partial_correctness M_F_nodeL M_F_otherL M_F_namedL M_F_kidL M_F_bodyL M_F_bodyL_l0 M_F_restL M_F_restL_l0 M_F_restL_b1 M_F_otherL_l0 M_F_otherL_t22 M_F_statementL M_F_statementL_t53 M_F_statementL_l0 M_F_expressionL (fun F_otherL F_statementL F_expressionL H_F_otherL H_F_statementL H_F_expressionL a1 a2 a3 r h => ?_) (fun F_namedL F_kidL F_bodyL F_restL F_otherL_l0 H_F_namedL H_F_kidL H_F_bodyL H_F_restL H_F_otherL_l0 a0_n a0 a2 a3 a4 a5 a1 r h => ?_) (fun F_kidL H_F_kidL a0_n a0 a3 a4 a5 a6 a1 a2 r h => ?_) (fun F_nodeL H_F_nodeL a0_n a0 a2 a3 a4 a5 a1 r h => ?_) (fun F_bodyL_l0 H_F_bodyL_l0 a0_n a0 a2 a3 a4 a5 a1 r h => ?_) (fun F_kidL F_bodyL_l0 H_F_kidL H_F_bodyL_l0 t1 o0_1 a0 a1 a2 a3 o0_3 r h => ?_) (fun F_restL_l0 H_F_restL_l0 a0_n a0 a1 a2 a3 a4 r h => ?_) (fun F_kidL F_restL_b1 H_F_kidL H_F_restL_b1 t2 o0_1 a0 a1 a2 a3 o0_3 r h => ?_) (fun F_restL_l0 H_F_restL_l0 o0_1 a0 a1 a2 a3 o0_3 r h => ?_) (fun F_otherL_t22 H_F_otherL_t22 a0 j0 t1 o0_1 a1 a2 a3 a4 o0_3 r h => ?_) (fun F_kidL F_otherL_l0 H_F_kidL H_F_otherL_l0 a0 j0 t1 o0_1 a1 a2 a3 a4 o0_3 r h => ?_) (fun F_namedL F_kidL F_statementL_t53 H_F_namedL H_F_kidL H_F_statementL_t53 a0_n a0 a2 a3 a4 a5 a1 r h => ?_) (fun F_statementL_l0 H_F_statementL_l0 t1 t4 o0_1 a0 a1 a2 a3 o0_3 r h => ?_) (fun F_kidL F_statementL_l0 H_F_kidL H_F_statementL_l0 a0 o0_1 a1 a2 a3 a4 o0_3 r h => ?_) (fun F_kidL F_restL H_F_kidL H_F_restL a0_n a0 a2 a3 a4 a5 a1 r h => ?_)
 ·unfold qa at h
  refine ⟨?_, (q9 rfl rfl zv), (qk zh), (za rfl zx), (qk zh), rfl, rfl, rfl, rfl⟩
  refine zq (T := tt) (N := 41) (rs := [.cell 8 25]) (fun vs w => by simp) Tryz.func16 rfl rfl rfl (by kernel_rfl) (by kernel_rfl) ?_
  refine kr [23, 30] ?_
  obtain ⟨x1, hx, h⟩ := bind_some h
  refine ql (H_F_grammar_Group _ _ hx) ?_
  refine kr [23, 30] ?_
  refine qg (fun hb => ?_) (fun hb => ?_)
  ·replace h := qx hb h
   refine kr [23, 30] ?_
   obtain ⟨x2, hx, h⟩ := bind_some h
   refine qb (ACalls.ghost (e := 9) (ACalls.ghost (e := 25) (ACalls.wkg (AC.go (objs := [(0, .var 42 [(.fn 30 [])]), (1, .var 25 (zo a1)), (2, .var 25 [(.int .i64 0), (.str ⟨#[]⟩), (.sl 0 true []), (.sl 0 true [])]), (3, .var 67 [(.ptr 0 0 0), (.int .i64 a1.kind), (.str a1.text), (.sl 1 false (a1.gaps.map sc)), (.sl 4 false (a1.kids.map Node.cells)), (.int .i64 a1.kind), (.str a1.text), (.bs 1 4 4 0 ([] : LB).length), (.bs 4 5 5 0 ([] : LN).length), (.int .i64 a3)]), (4, .row 9 (([] : LB).map sc).flatten), (5, .row 25 (([] : LN).map Node.cells).flatten)]) (xs := [(.ptr 3 3 0), (.str a2)]) (H_F_expressionL _ _ _ _ _ _ _ _ hx) [3, 0, 4, 5] [3, 0, 4, 5] rfl rfl rfl rfl rfl rfl rfl rfl rfl) (zu (ji _) (zu (ji _) kq)) (zj (zj (zj (kp (qw (q8 _) (qw (q8 _) (qw (q8 _) (qw (q8 _) (qw (q8 _) (qw (q8 _) (qw (q8 _) (qw (j9 rfl) (qw (j9 rfl) (qw (q8 _) wh)))))))))) (ym _)))))))) ?_
   refine kr [23, 30] ?_
   exact q7 (by kernel_rfl) rfl lQ (H_F_nodeL_t23 _ _ _ _ _ _ _ h)
  ·replace h := qy hb h
   refine kr [23, 30] ?_
   obtain ⟨x3, hx, h⟩ := bind_some h
   refine ql (H_F_grammar_Group _ _ hx) ?_
   refine kr [23, 30] ?_
   refine qg (fun hb => ?_) (fun hb => ?_)
   ·replace h := qx hb h
    refine kr [23, 30] ?_
    obtain ⟨x4, hx, h⟩ := bind_some h
    refine qb (ACalls.ghost (e := 9) (ACalls.ghost (e := 25) (ACalls.wkg (AC.go (objs := [(0, .var 42 [(.fn 30 [])]), (1, .var 25 (zo a1)), (2, .var 25 [(.int .i64 0), (.str ⟨#[]⟩), (.sl 0 true []), (.sl 0 true [])]), (3, .var 67 [(.ptr 0 0 0), (.int .i64 a1.kind), (.str a1.text), (.sl 1 false (a1.gaps.map sc)), (.sl 4 false (a1.kids.map Node.cells)), (.int .i64 a1.kind), (.str a1.text), (.bs 1 4 4 0 ([] : LB).length), (.bs 4 5 5 0 ([] : LN).length), (.int .i64 a3)]), (4, .row 9 (([] : LB).map sc).flatten), (5, .row 25 (([] : LN).map Node.cells).flatten)]) (xs := [(.ptr 3 3 0), (.str a2)]) (H_F_statementL _ _ _ _ _ _ _ _ hx) [3, 0, 4, 5] [3, 0, 4, 5] rfl rfl rfl rfl rfl rfl rfl rfl rfl) (zu (ji _) (zu (ji _) kq)) (zj (zj (zj (kp (qw (q8 _) (qw (q8 _) (qw (q8 _) (qw (q8 _) (qw (q8 _) (qw (q8 _) (qw (q8 _) (qw (j9 rfl) (qw (j9 rfl) (qw (q8 _) wh)))))))))) (ym _)))))))) ?_
    refine kr [23, 30] ?_
    exact q7 (by kernel_rfl) rfl lQ (H_F_nodeL_t30 _ _ _ _ _ _ _ h)
   ·replace h := qy hb h
    refine kr [23, 30] ?_
    obtain ⟨x5, hx, h⟩ := bind_some h
    refine qb (ACalls.ghost (e := 9) (ACalls.ghost (e := 25) (ACalls.wkg (AC.go (objs := [(0, .var 42 [(.fn 30 [])]), (1, .var 25 (zo a1)), (2, .var 25 [(.int .i64 0), (.str ⟨#[]⟩), (.sl 0 true []), (.sl 0 true [])]), (3, .var 67 [(.ptr 0 0 0), (.int .i64 a1.kind), (.str a1.text), (.sl 1 false (a1.gaps.map sc)), (.sl 4 false (a1.kids.map Node.cells)), (.int .i64 a1.kind), (.str a1.text), (.bs 1 4 4 0 ([] : LB).length), (.bs 4 5 5 0 ([] : LN).length), (.int .i64 a3)]), (4, .row 9 (([] : LB).map sc).flatten), (5, .row 25 (([] : LN).map Node.cells).flatten)]) (xs := [(.ptr 3 3 0), (.str a2)]) (H_F_otherL _ _ _ _ _ _ _ _ hx) [3, 0, 4, 5] [3, 0, 4, 5] rfl rfl rfl rfl rfl rfl rfl rfl rfl) (zu (ji _) (zu (ji _) kq)) (zj (zj (zj (kp (qw (q8 _) (qw (q8 _) (qw (q8 _) (qw (q8 _) (qw (q8 _) (qw (q8 _) (qw (q8 _) (qw (j9 rfl) (qw (j9 rfl) (qw (q8 _) wh)))))))))) (ym _)))))))) ?_
    refine kr [23, 30] ?_
    exact q7 (by kernel_rfl) rfl lQ (H_F_nodeL_t30 _ _ _ _ _ _ _ h)
 ·unfold qa at h
  refine ⟨?_, (q9 rfl rfl (q9 rfl rfl (zf qp rfl (zf qj rfl zv)))), (qk (qk (qn qp (qn qj zh)))), (za rfl (za rfl (ze qp (ze qj zx)))), (qk (qk (qn qp (qn qj zh)))), rfl, rfl, rfl, rfl⟩
  refine zq (T := tt) (N := 146) (rs := []) (fun vs w => by simp) Tryz.func36 rfl rfl rfl (by kernel_rfl) (by kernel_rfl) ?_
  refine kr [22, 33] ?_
  refine qg (fun hb => ?_) (fun hb => ?_)
  ·replace h := qx hb h
   refine kr [22, 33] ?_
   refine Zv 16 rfl (fun hm => ?_)
   exact jp (by kernel_rfl) lQ (H_F_otherL_l0 _ _ _ _ _ _ _ _ _ _ h a0_n.kids rfl (Nat.zero_le _) (w7 hm))
  ·replace h := qy hb h
   refine kr [22, 33] ?_
   refine qg (fun hb => ?_) (fun hb => ?_)
   ·replace h := qx hb h
    refine kr [22, 33] ?_
    obtain ⟨x37, hx, h⟩ := bind_some h
    refine qb (AC.g9 (H_F_ownL _ _ _ _ _ _ _ _ _ hx) [0, 1, 2, 3] [0, 1, 2, 3]) ?_
    refine kr [22, 33] ?_
    obtain ⟨x38, hx, h⟩ := bind_some h
    refine qb (AC.g9 (H_F_ownL _ _ _ _ _ _ _ _ _ hx) [0, 1, 2, 3] [0, 1, 4, 3]) ?_
    refine kr [22, 33] ?_
    obtain ⟨x39, hx, h⟩ := bind_some h
    refine qb (AC.g9 (H_F_kidL _ _ _ _ _ _ _ _ hx) [0, 1, 2, 3] [0, 1, 5, 3]) ?_
    refine kr [22, 33] ?_
    obtain ⟨x40, hx, h⟩ := bind_some h
    refine qb (AC.g9 (H_F_kidL _ _ _ _ _ _ _ _ hx) [0, 1, 2, 3] [0, 1, 5, 6]) ?_
    refine kr [22, 33] ?_
    obtain ⟨x41, hx, h⟩ := bind_some h
    refine qb (AC.g9 (H_F_kidL _ _ _ _ _ _ _ _ hx) [0, 1, 2, 3] [0, 1, 5, 7]) ?_
    refine kr [22, 33] ?_
    cases h
    exact qv env rfl (tS [some 0, some 1, some 2, some 3] (sV (lS (lS (lS (lS (lS (lS (lS (lS (lS (lS lN)))))))))) (sV (lS lN) (sR qp (sR qj qt)))) (qz qu))
   ·replace h := qy hb h
    refine kr [22, 33] ?_
    refine qg (fun hb => ?_) (fun hb => ?_)
    ·replace h := qx hb h
     refine kr [22, 33] ?_
     obtain ⟨x42, hx, h⟩ := bind_some h
     refine qb (AC.g9 (H_F_ownL _ _ _ _ _ _ _ _ _ hx) [0, 1, 2, 3] [0, 1, 2, 3]) ?_
     refine kr [22, 33] ?_
     obtain ⟨x43, hx, h⟩ := bind_some h
     refine qb (AC.g9 (H_F_restL _ _ _ _ _ _ _ hx) [0, 1, 2, 3] [0, 1, 4, 3]) ?_
     refine kr [22, 33] ?_
     cases h
     exact qv env rfl (tS [some 0, some 1, some 2, some 3] (sV (lS (lS (lS (lS (lS (lS (lS (lS (lS (lS lN)))))))))) (sV (lS lN) (sR qp (sR qj qt)))) (qz qu))
    ·replace h := qy hb h
     refine kr [22, 33] ?_
     refine qg (fun hb => ?_) (fun hb => ?_)
     ·replace h := qx hb h
      refine kr [22, 33] ?_
      obtain ⟨x44, hx, h⟩ := bind_some h
      refine qb (AC.g9 (H_F_ownL _ _ _ _ _ _ _ _ _ hx) [0, 1, 2, 3] [0, 1, 2, 3]) ?_
      refine kr [22, 33] ?_
      obtain ⟨x45, hx, h⟩ := bind_some h
      refine qb (AC.g9 (H_F_kidL _ _ _ _ _ _ _ _ hx) [0, 1, 2, 3] [0, 1, 4, 3]) ?_
      refine kr [22, 33] ?_
      cases h
      exact qv env rfl (tS [some 0, some 1, some 2, some 3] (sV (lS (lS (lS (lS (lS (lS (lS (lS (lS (lS lN)))))))))) (sV (lS lN) (sR qp (sR qj qt)))) (qz qu))
     ·replace h := qy hb h
      refine kr [22, 33] ?_
      refine qg (fun hb => ?_) (fun hb => ?_)
      ·replace h := qx hb h
       refine kr [22, 33] ?_
       obtain ⟨x46, hx, h⟩ := bind_some h
       refine qb (AC.g9 (H_F_ownL _ _ _ _ _ _ _ _ _ hx) [0, 1, 2, 3] [0, 1, 2, 3]) ?_
       refine kr [22, 33] ?_
       cases h
       exact qv env rfl (tS [some 0, some 1, some 2, some 3] (sV (lS (lS (lS (lS (lS (lS (lS (lS (lS (lS lN)))))))))) (sV (lS lN) (sR qp (sR qj qt)))) (qz qu))
      ·replace h := qy hb h
       refine kr [22, 33] ?_
       refine qg (fun hb => ?_) (fun hb => ?_)
       ·replace h := qx hb h
        refine kr [22, 33] ?_
        obtain ⟨x47, hx, h⟩ := bind_some h
        refine qb (AC.g9 (H_F_ownL _ _ _ _ _ _ _ _ _ hx) [0, 1, 2, 3] [0, 1, 2, 3]) ?_
        refine kr [22, 33] ?_
        obtain ⟨x48, hx, h⟩ := bind_some h
        refine qb (AC.g9 (H_F_bodyL _ _ _ _ _ _ _ _ hx) [0, 1, 2, 3] [0, 1, 4, 3]) ?_
        refine kr [22, 33] ?_
        cases h
        exact qv env rfl (tS [some 0, some 1, some 2, some 3] (sV (lS (lS (lS (lS (lS (lS (lS (lS (lS (lS lN)))))))))) (sV (lS lN) (sR qp (sR qj qt)))) (qz qu))
       ·replace h := qy hb h
        refine kr [22, 33] ?_
        refine qg (fun hb => ?_) (fun hb => ?_)
        ·replace h := qx hb h
         refine kr [22, 33] ?_
         obtain ⟨x49, hx, h⟩ := bind_some h
         refine qb (AC.g9 (H_F_ownL _ _ _ _ _ _ _ _ _ hx) [0, 1, 2, 3] [0, 1, 2, 3]) ?_
         refine kr [22, 33] ?_
         obtain ⟨x50, hx, h⟩ := bind_some h
         refine qb (AC.g9 (H_F_ownL _ _ _ _ _ _ _ _ _ hx) [0, 1, 2, 3] [0, 1, 4, 3]) ?_
         refine kr [22, 33] ?_
         obtain ⟨x51, hx, h⟩ := bind_some h
         refine qb (AC.g9 (H_F_kidL _ _ _ _ _ _ _ _ hx) [0, 1, 2, 3] [0, 1, 5, 3]) ?_
         refine kr [22, 33] ?_
         obtain ⟨x52, hx, h⟩ := bind_some h
         refine qb (AC.g9 (H_F_ownL _ _ _ _ _ _ _ _ _ hx) [0, 1, 2, 3] [0, 1, 5, 6]) ?_
         refine kr [22, 33] ?_
         obtain ⟨x53, hx, h⟩ := bind_some h
         refine qb (AC.g9 (H_F_bodyL _ _ _ _ _ _ _ _ hx) [0, 1, 2, 3] [0, 1, 7, 6]) ?_
         refine kr [22, 33] ?_
         cases h
         exact qv env rfl (tS [some 0, some 1, some 2, some 3] (sV (lS (lS (lS (lS (lS (lS (lS (lS (lS (lS lN)))))))))) (sV (lS lN) (sR qp (sR qj qt)))) (qz qu))
        ·replace h := qy hb h
         refine kr [22, 33] ?_
         refine qg (fun hb => ?_) (fun hb => ?_)
         ·replace h := qx hb h
          refine kr [22, 33] ?_
          refine qg (fun hb => ?_) (fun hb => ?_)
          ·replace h := qx hb h
           refine kr [22, 33] ?_
           obtain ⟨x54, hx, h⟩ := bind_some h
           refine qb (AC.g9 (H_F_ownL _ _ _ _ _ _ _ _ _ hx) [0, 1, 2, 3] [0, 1, 2, 3]) ?_
           refine kr [22, 33] ?_
           obtain ⟨x55, hx, h⟩ := bind_some h
           refine qb (AC.g9 (H_F_ownL _ _ _ _ _ _ _ _ _ hx) [0, 1, 2, 3] [0, 1, 4, 3]) ?_
           refine kr [22, 33] ?_
           cases h
           exact qv env rfl (tS [some 0, some 1, some 2, some 3] (sV (lS (lS (lS (lS (lS (lS (lS (lS (lS (lS lN)))))))))) (sV (lS lN) (sR qp (sR qj qt)))) (qz qu))
          ·replace h := qy hb h
           refine kr [22, 33] ?_
           cases h
           exact qv env rfl (tS [some 0, some 1, some 2, some 3] (sV (lS (lS (lS (lS (lS (lS (lS (lS (lS (lS lN)))))))))) (sV (lS lN) (sR qp (sR qj qt)))) (qz qu))
         ·replace h := qy hb h
          refine kr [22, 33] ?_
          refine qg (fun hb => ?_) (fun hb => ?_)
          ·replace h := qx hb h
           refine kr [22, 33] ?_
           obtain ⟨x56, hx, h⟩ := bind_some h
           refine qb (AC.g9 (H_F_namedL _ _ _ _ _ _ _ _ _ hx) [0, 1, 2, 3] [0, 1, 2, 3]) ?_
           refine kr [22, 33] ?_
           cases h
           exact qv env rfl (tS [some 0, some 1, some 2, some 3] (sV (lS (lS (lS (lS (lS (lS (lS (lS (lS (lS lN)))))))))) (sV (lS lN) (sR qp (sR qj qt)))) (qz qu))
          ·replace h := qy hb h
           refine kr [22, 33] ?_
           refine qg (fun hb => ?_) (fun hb => ?_)
           ·replace h := qx hb h
            refine kr [22, 33] ?_
            refine qg (fun hb => ?_) (fun hb => ?_)
            ·replace h := qx hb h
             refine kr [22, 33] ?_
             obtain ⟨x57, hx, h⟩ := bind_some h
             refine qb (AC.g9 (H_F_ownL _ _ _ _ _ _ _ _ _ hx) [0, 1, 2, 3] [0, 1, 2, 3]) ?_
             refine kr [22, 33] ?_
             obtain ⟨x58, hx, h⟩ := bind_some h
             refine qb (AC.g9 (H_F_kidL _ _ _ _ _ _ _ _ hx) [0, 1, 2, 3] [0, 1, 4, 3]) ?_
             refine kr [22, 33] ?_
             cases h
             exact qv env rfl (tS [some 0, some 1, some 2, some 3] (sV (lS (lS (lS (lS (lS (lS (lS (lS (lS (lS lN)))))))))) (sV (lS lN) (sR qp (sR qj qt)))) (qz qu))
            ·replace h := qy hb h
             refine kr [22, 33] ?_
             cases h
             exact qv env rfl (tS [some 0, some 1, some 2, some 3] (sV (lS (lS (lS (lS (lS (lS (lS (lS (lS (lS lN)))))))))) (sV (lS lN) (sR qp (sR qj qt)))) (qz qu))
           ·replace h := qy hb h
            refine kr [22, 33] ?_
            cases h
            exact qv env rfl (tS [some 0, some 1, some 2, some 3] (sV (lS (lS (lS (lS (lS (lS (lS (lS (lS (lS lN)))))))))) (sV (lS lN) (sR qp (sR qj qt)))) (qz qu))
 ·unfold qa at h
  refine ⟨?_, (q9 rfl rfl (q9 rfl rfl (zf qp rfl (zf qj rfl zv)))), (qk (qk (qn qp (qn qj zh)))), (za rfl (za rfl (ze qp (ze qj zx)))), (qk (qk (qn qp (qn qj zh)))), rfl, rfl, rfl, rfl⟩
  refine zq (T := tt) (N := 23) (rs := []) (fun vs w => by simp) Tryz.func55 rfl rfl rfl (by kernel_rfl) (by kernel_rfl) ?_
  refine kr [] ?_
  obtain ⟨x62, hx, h⟩ := bind_some h
  refine qb (AC.g9 (H_F_ownL _ _ _ _ _ _ _ _ _ hx) [0, 1, 2, 3] [0, 1, 2, 3]) ?_
  refine kr [] ?_
  obtain ⟨x63, hx, h⟩ := bind_some h
  refine qb (AC.g9 (H_F_ownL _ _ _ _ _ _ _ _ _ hx) [0, 1, 2, 3] [0, 1, 4, 3]) ?_
  refine kr [] ?_
  obtain ⟨x64, hx, h⟩ := bind_some h
  refine qb (AC.g9 (H_F_ownL _ _ _ _ _ _ _ _ _ hx) [0, 1, 2, 3] [0, 1, 5, 3]) ?_
  refine kr [] ?_
  obtain ⟨x65, hx, h⟩ := bind_some h
  refine qb (AC.g9 (H_F_kidL _ _ _ _ _ _ _ _ hx) [0, 1, 2, 3] [0, 1, 6, 3]) ?_
  refine kr [] ?_
  obtain ⟨x66, hx, h⟩ := bind_some h
  refine qb (AC.g9 (H_F_ownL _ _ _ _ _ _ _ _ _ hx) [0, 1, 2, 3] [0, 1, 6, 7]) ?_
  refine kr [] ?_
  cases h
  exact qv env rfl (tS [some 0, some 1, some 2, some 3] (sV (lS (lS (lS (lS (lS (lS (lS (lS (lS (lS lN)))))))))) (sV (lS lN) (sR qp (sR qj qt)))) (qz qu))
 ·unfold qa at h
  refine ⟨?_, (q9 rfl rfl (q9 rfl rfl (zf qp rfl (zf qj rfl zv)))), (qk (qk (qn qp (qn qj zh)))), (za rfl (za rfl (ze qp (ze qj zx)))), (qk (qk (qn qp (qn qj zh)))), rfl, rfl, rfl, rfl⟩
  refine zq (T := tt) (N := 41) (rs := []) (fun vs w => by simp) Tryz.func54 rfl rfl rfl (by kernel_rfl) (by kernel_rfl) ?_
  refine kr [] ?_
  obtain ⟨x59, hx, h⟩ := bind_some h
  refine w9 env hx rfl rfl rfl rfl (Node.cells_eq x59) ?_
  refine kr [] ?_
  obtain ⟨x60, hx, h⟩ := bind_some h
  refine qb (AC.g9 (H_F_nodeL _ _ _ _ hx) [1] [1]) ?_
  refine kr [] ?_
  obtain ⟨x61, hx, h⟩ := bind_some h
  have hz_x61 := hx
  refine Ok_appOZ (C := Node.cells) env hx rfl rfl Node.cells_len rfl rfl rfl rfl rfl (by decide) rfl rfl rfl ?_
  refine kr [] ?_
  refine Ok_ixB env rfl rfl rfl rfl (Int.natCast_nonneg _) (app_last hz_x61) ?_
  refine kr [] ?_
  refine Ok_storeZ hz_x61 qj rfl rfl (Node.cells_eq x60).symm rfl rfl rfl ?_
  refine kr [] ?_
  cases h
  exact qv env rfl (tS [some 0, some 1, some 2, some 3] (sV (lS (lS (lS (lS (lS (lS (lS (lS (lS (lS lN)))))))))) (sV (lS lN) (sR qp (sR qj qt)))) (qz qu))
 ·unfold qa at h
  refine ⟨?_, (q9 rfl rfl (q9 rfl rfl (zf qp rfl (zf qj rfl zv)))), (qk (qk (qn qp (qn qj zh)))), (za rfl (za rfl (ze qp (ze qj zx)))), (qk (qk (qn qp (qn qj zh)))), rfl, rfl, rfl, rfl⟩
  refine zq (T := tt) (N := 55) (rs := []) (fun vs w => by simp) Tryz.func56 rfl rfl rfl (by kernel_rfl) (by kernel_rfl) ?_
  refine kr [] ?_
  exact jp (by kernel_rfl) lQ (H_F_bodyL_l0 _ _ _ _ _ _ _ _ h)
 ·unfold qa at h
  refine jz ?_
  refine kr [] ?_
  refine qg (fun hb => ?_) (fun hb => ?_)
  ·replace h := qx hb h
   refine kr [] ?_
   obtain ⟨x72, hx, h⟩ := bind_some h
   refine ql (H_F_print_line _ _ hx) ?_
   refine kr [] ?_
   obtain ⟨x73, hx, h⟩ := bind_some h
   refine qb (AC.g9 (H_F_kidL _ _ _ _ _ _ _ _ hx) [0, 1, 2, 3] [0, 1, 4, 5]) ?_
   refine kr [] ?_
   exact je (by kernel_rfl) lQ (H_F_bodyL_l0 _ _ _ _ _ _ _ _ h)
  ·replace h := qy hb h
   refine kr [] ?_
   refine qg (fun hb => ?_) (fun hb => ?_)
   ·replace h := qx hb h
    refine kr [] ?_
    obtain ⟨x74, hx, h⟩ := bind_some h
    refine ql (H_F_print_line _ _ hx) ?_
    refine kr [] ?_
    obtain ⟨x75, hx, h⟩ := bind_some h
    refine qb (AC.g9 (H_F_ownL _ _ _ _ _ _ _ _ _ hx) [0, 1, 2, 3] [0, 1, 4, 5]) ?_
    refine kr [] ?_
    cases h
    exact qv env rfl (tS [some 0, some 1, some 2, some 3] (sV (lS (lS (lS (lS (lS (lS (lS (lS (lS (lS lN)))))))))) (sV (lS lN) (sR qp (sR qj qt)))) (qz qu))
   ·replace h := qy hb h
    refine kr [] ?_
    obtain ⟨x76, hx, h⟩ := bind_some h
    refine qb (AC.g9 (H_F_ownL _ _ _ _ _ _ _ _ _ hx) [0, 1, 2, 3] [0, 1, 4, 5]) ?_
    refine kr [] ?_
    cases h
    exact qv env rfl (tS [some 0, some 1, some 2, some 3] (sV (lS (lS (lS (lS (lS (lS (lS (lS (lS (lS lN)))))))))) (sV (lS lN) (sR qp (sR qj qt)))) (qz qu))
 ·unfold qa at h
  refine ⟨?_, (q9 rfl rfl (q9 rfl rfl (zf qp rfl (zf qj rfl zv)))), (qk (qk (qn qp (qn qj zh)))), (za rfl (za rfl (ze qp (ze qj zx)))), (qk (qk (qn qp (qn qj zh)))), rfl, rfl, rfl, rfl⟩
  refine zq (T := tt) (N := 25) (rs := []) (fun vs w => by simp) Tryz.func53 rfl rfl rfl (by kernel_rfl) (by kernel_rfl) ?_
  refine kr [1000001] ?_
  exact jp (by kernel_rfl) lQ (H_F_restL_l0 _ _ _ _ _ _ _ _ h)
 ·unfold qa at h
  refine jz ?_
  refine kr [1000001] ?_
  refine qg (fun hb => ?_) (fun hb => ?_)
  ·replace h := qx hb h
   refine kr [1000001] ?_
   refine qg (fun hb => ?_) (fun hb => ?_)
   ·replace h := qx hb h
    refine kr [1000001] ?_
    obtain ⟨x68, hx, h⟩ := bind_some h
    refine qb (AC.g9 (H_F_kidL _ _ _ _ _ _ _ _ hx) [0, 1, 2, 3] [0, 1, 4, 5]) ?_
    refine kr [1000001] ?_
    exact q7 (by kernel_rfl) rfl lQ (H_F_restL_b1 _ _ _ _ _ _ _ h)
   ·replace h := qy hb h
    refine kr [1000001] ?_
    obtain ⟨x69, hx, h⟩ := bind_some h
    refine qb (AC.g9 (H_F_ownL _ _ _ _ _ _ _ _ _ hx) [0, 1, 2, 3] [0, 1, 4, 5]) ?_
    refine kr [1000001] ?_
    obtain ⟨x70, hx, h⟩ := bind_some h
    refine qb (AC.g9 (H_F_kidL _ _ _ _ _ _ _ _ hx) [0, 1, 2, 3] [0, 1, 6, 5]) ?_
    refine kr [1000001] ?_
    exact q7 (by kernel_rfl) rfl lQ (H_F_restL_b1 _ _ _ _ _ _ _ h)
  ·replace h := qy hb h
   refine kr [1000001] ?_
   obtain ⟨x71, hx, h⟩ := bind_some h
   refine qb (AC.g9 (H_F_ownL _ _ _ _ _ _ _ _ _ hx) [0, 1, 2, 3] [0, 1, 4, 5]) ?_
   refine kr [1000001] ?_
   cases h
   exact qv env rfl (tS [some 0, some 1, some 2, some 3] (sV (lS (lS (lS (lS (lS (lS (lS (lS (lS (lS lN)))))))))) (sV (lS lN) (sR qp (sR qj qt)))) (qz qu))
 ·unfold qa at h
  refine kr [1000001] ?_
  exact je (by kernel_rfl) lQ (H_F_restL_l0 _ _ _ _ _ _ _ _ h)
 ·unfold qa at h
  intro l0 hl0 hj0 hm0
  refine jz ?_
  cases a0 with
  | nil =>
    have hb := u1 (C := Node.cells) hl0 hj0
    refine kr [22, 33] ?_
    refine qi hb ?_
    refine kr [22, 33] ?_
    refine qg (fun hb => ?_) (fun hb => ?_)
    ·replace h := qx hb h
     refine kr [22, 33] ?_
     exact q7 (by kernel_rfl) rfl lQ (H_F_otherL_t33 _ _ _ _ _ _ _ _ h)
    ·replace h := qy hb h
     refine kr [22, 33] ?_
     exact q7 (by kernel_rfl) rfl lQ (H_F_otherL_t33 _ _ _ _ _ _ _ _ h)
  | cons x_0 a0 =>
    obtain ⟨hb, hx0, hd0, hk0, hw0⟩ := w6 (C := Node.cells) hl0 hm0
    refine kr [22, 33] ?_
    refine qh hb ?_
    refine kr [22, 33] ?_
    refine qg (fun hb => ?_) (fun hb => ?_)
    ·replace h := qx hb h
     refine kr [22, 33] ?_
     exact q7 (by kernel_rfl) rfl lQ (H_F_otherL_t22 _ _ _ _ _ _ _ _ _ _ h l0 hd0 hk0 hm0)
    ·replace h := qy hb h
     refine kr [22, 33] ?_
     exact q7 (by kernel_rfl) rfl lQ (H_F_otherL_t22 _ _ _ _ _ _ _ _ _ _ h l0 hd0 hk0 hm0)
 ·unfold qa at h
  intro l0 hd0 hk0 hm0
  have hw0 := range_w hk0 hm0
  refine kr [22, 33] ?_
  obtain ⟨x79, hx, h⟩ := bind_some h
  refine qb (AC.g9 (H_F_kidL _ _ _ _ _ _ _ _ hx) [0, 1, 2, 3] [0, 1, 6, 7]) ?_
  refine kr [22, 33] ?_
  exact je (by kernel_rfl) (Qb (J1 rfl) (Nat.le_of_ble_eq_true rfl) (by simp only [hw0]; simp <;> (repeat' apply And.intro) <;> first | rfl | exact fun x a _ h => (qj.all a x h).2 | exact fun x a _ h => (qp.all a x h).2) (by simp <;> (repeat' apply And.intro) <;> first | rfl | exact fun x a _ h => (qj.all a x h).2 | exact fun x a _ h => (qp.all a x h).2)) (H_F_otherL_l0 _ _ _ _ _ _ _ _ _ _ h l0 hd0 hk0 hm0)
 ·unfold qa at h
  refine ⟨?_, (q9 rfl rfl (q9 rfl rfl (zf qp rfl (zf qj rfl zv)))), (qk (qk (qn qp (qn qj zh)))), (za rfl (za rfl (ze qp (ze qj zx)))), (qk (qk (qn qp (qn qj zh)))), rfl, rfl, rfl, rfl⟩
  refine zq (T := tt) (N := 69) (rs := []) (fun vs w => by simp) Tryz.func35 rfl rfl rfl (by kernel_rfl) (by kernel_rfl) ?_
  refine kr [53] ?_
  refine qg (fun hb => ?_) (fun hb => ?_)
  ·replace h := qx hb h
   refine kr [53] ?_
   obtain ⟨x27, hx, h⟩ := bind_some h
   refine qb (AC.g9 (H_F_namedL _ _ _ _ _ _ _ _ _ hx) [0, 1, 2, 3] [0, 1, 2, 3]) ?_
   refine kr [53] ?_
   cases h
   exact qv env rfl (tS [some 0, some 1, some 2, some 3] (sV (lS (lS (lS (lS (lS (lS (lS (lS (lS (lS lN)))))))))) (sV (lS lN) (sR qp (sR qj qt)))) (qz qu))
  ·replace h := qy hb h
   refine kr [53] ?_
   refine qg (fun hb => ?_) (fun hb => ?_)
   ·replace h := qx hb h
    refine kr [53] ?_
    obtain ⟨x28, hx, h⟩ := bind_some h
    refine qb (AC.g9 (H_F_ownL _ _ _ _ _ _ _ _ _ hx) [0, 1, 2, 3] [0, 1, 2, 3]) ?_
    refine kr [53] ?_
    obtain ⟨x29, hx, h⟩ := bind_some h
    refine qb (AC.g9 (H_F_ownL _ _ _ _ _ _ _ _ _ hx) [0, 1, 2, 3] [0, 1, 4, 3]) ?_
    refine kr [53] ?_
    obtain ⟨x30, hx, h⟩ := bind_some h
    refine qb (AC.g9 (H_F_kidL _ _ _ _ _ _ _ _ hx) [0, 1, 2, 3] [0, 1, 5, 3]) ?_
    refine kr [53] ?_
    obtain ⟨x31, hx, h⟩ := bind_some h
    refine qb (AC.g9 (H_F_ownL _ _ _ _ _ _ _ _ _ hx) [0, 1, 2, 3] [0, 1, 5, 6]) ?_
    refine kr [53] ?_
    cases h
    exact qv env rfl (tS [some 0, some 1, some 2, some 3] (sV (lS (lS (lS (lS (lS (lS (lS (lS (lS (lS lN)))))))))) (sV (lS lN) (sR qp (sR qj qt)))) (qz qu))
   ·replace h := qy hb h
    refine kr [53] ?_
    refine qg (fun hb => ?_) (fun hb => ?_)
    ·replace h := qx hb h
     refine kr [53] ?_
     obtain ⟨x32, hx, h⟩ := bind_some h
     refine qb (AC.g9 (H_F_ownL _ _ _ _ _ _ _ _ _ hx) [0, 1, 2, 3] [0, 1, 2, 3]) ?_
     refine kr [53] ?_
     obtain ⟨x33, hx, h⟩ := bind_some h
     refine qb (AC.g9 (H_F_kidL _ _ _ _ _ _ _ _ hx) [0, 1, 2, 3] [0, 1, 4, 3]) ?_
     refine kr [53] ?_
     obtain ⟨x34, hx, h⟩ := bind_some h
     refine qb (AC.g9 (H_F_ownL _ _ _ _ _ _ _ _ _ hx) [0, 1, 2, 3] [0, 1, 4, 5]) ?_
     refine kr [53] ?_
     cases h
     exact qv env rfl (tS [some 0, some 1, some 2, some 3] (sV (lS (lS (lS (lS (lS (lS (lS (lS (lS (lS lN)))))))))) (sV (lS lN) (sR qp (sR qj qt)))) (qz qu))
    ·replace h := qy hb h
     refine kr [53] ?_
     refine qg (fun hb => ?_) (fun hb => ?_)
     ·replace h := qx hb h
      refine kr [53] ?_
      refine qg (fun hb => ?_) (fun hb => ?_)
      ·replace h := qx hb h
       refine kr [53] ?_
       exact q7 (by kernel_rfl) rfl lQ (H_F_statementL_t53 _ _ _ _ _ _ _ _ _ h)
      ·replace h := qy hb h
       refine kr [53] ?_
       exact q7 (by kernel_rfl) rfl lQ (H_F_statementL_t53 _ _ _ _ _ _ _ _ _ h)
     ·replace h := qy hb h
      refine kr [53] ?_
      refine qg (fun hb => ?_) (fun hb => ?_)
      ·replace h := qx hb h
       refine kr [53] ?_
       refine qg (fun hb => ?_) (fun hb => ?_)
       ·replace h := qx hb h
        refine kr [53] ?_
        exact q7 (by kernel_rfl) rfl lQ (H_F_statementL_t53 _ _ _ _ _ _ _ _ _ h)
       ·replace h := qy hb h
        refine kr [53] ?_
        exact q7 (by kernel_rfl) rfl lQ (H_F_statementL_t53 _ _ _ _ _ _ _ _ _ h)
      ·replace h := qy hb h
       refine kr [53] ?_
       obtain ⟨x35, hx, h⟩ := bind_some h
       refine qb (AC.g9 (H_F_kidL _ _ _ _ _ _ _ _ hx) [0, 1, 2, 3] [0, 1, 2, 3]) ?_
       refine kr [53] ?_
       obtain ⟨x36, hx, h⟩ := bind_some h
       refine qb (AC.g9 (H_F_ownL _ _ _ _ _ _ _ _ _ hx) [0, 1, 2, 3] [0, 1, 2, 4]) ?_
       refine kr [53] ?_
       cases h
       exact qv env rfl (tS [some 0, some 1, some 2, some 3] (sV (lS (lS (lS (lS (lS (lS (lS (lS (lS (lS lN)))))))))) (sV (lS lN) (sR qp (sR qj qt)))) (qz qu))
 ·unfold qa at h
  refine kr [53] ?_
  obtain ⟨x67, hx, h⟩ := bind_some h
  refine qb (AC.g9 (H_F_ownL _ _ _ _ _ _ _ _ _ hx) [0, 1, 2, 3] [0, 1, 4, 5]) ?_
  refine kr [53] ?_
  refine Zv 62 rfl (fun hm => ?_)
  exact jp (by kernel_rfl) lQ (H_F_statementL_l0 _ _ _ _ _ _ _ _ h o0_1.kids 0 rfl (Nat.zero_le _) (w7 hm))
 ·unfold qa at h
  intro l0 j0 hl0 hj0 hm0
  refine jz ?_
  cases a0 with
  | nil =>
    have hb := u1 (C := Node.cells) hl0 hj0
    refine kr [53] ?_
    refine qi hb ?_
    refine kr [53] ?_
    cases h
    exact qv env rfl (tS [some 0, some 1, some 2, some 3] (sV (lS (lS (lS (lS (lS (lS (lS (lS (lS (lS lN)))))))))) (sV (lS lN) (sR qp (sR qj qt)))) (qz qu))
  | cons x_0 a0 =>
    obtain ⟨hb, hx0, hd0, hk0, hw0⟩ := w6 (C := Node.cells) hl0 hm0
    refine kr [53] ?_
    refine qh hb ?_
    refine kr [53] ?_
    obtain ⟨x77, hx, h⟩ := bind_some h
    refine qb (AC.g9 (H_F_kidL _ _ _ _ _ _ _ _ hx) [0, 1, 2, 3] [0, 1, 7, 8]) ?_
    refine kr [53] ?_
    exact je (by kernel_rfl) (Qb (J1 rfl) (Nat.le_of_ble_eq_true rfl) (by simp only [hw0]; simp <;> (repeat' apply And.intro) <;> first | rfl | exact fun x a _ h => (qj.all a x h).2 | exact fun x a _ h => (qp.all a x h).2) (by simp <;> (repeat' apply And.intro) <;> first | rfl | exact fun x a _ h => (qj.all a x h).2 | exact fun x a _ h => (qp.all a x h).2)) (H_F_statementL_l0 _ _ _ _ _ _ _ _ h l0 (j0 + 1) hd0 hk0 hm0)
 ·unfold qa at h
  refine ⟨?_, (q9 rfl rfl (q9 rfl rfl (zf qp rfl (zf qj rfl zv)))), (qk (qk (qn qp (qn qj zh)))), (za rfl (za rfl (ze qp (ze qj zx)))), (qk (qk (qn qp (qn qj zh)))), rfl, rfl, rfl, rfl⟩
  refine zq (T := tt) (N := 100) (rs := []) (fun vs w => by simp) Tryz.func34 rfl rfl rfl (by kernel_rfl) (by kernel_rfl) ?_
  refine kr [] ?_
  refine qg (fun hb => ?_) (fun hb => ?_)
  ·replace h := qx hb h
   refine kr [] ?_
   obtain ⟨x6, hx, h⟩ := bind_some h
   refine qb (AC.g9 (H_F_ownL _ _ _ _ _ _ _ _ _ hx) [0, 1, 2, 3] [0, 1, 2, 3]) ?_
   refine kr [] ?_
   obtain ⟨x7, hx, h⟩ := bind_some h
   refine qb (AC.g9 (H_F_ownL _ _ _ _ _ _ _ _ _ hx) [0, 1, 2, 3] [0, 1, 4, 3]) ?_
   refine kr [] ?_
   obtain ⟨x8, hx, h⟩ := bind_some h
   refine qb (AC.g9 (H_F_restL _ _ _ _ _ _ _ hx) [0, 1, 2, 3] [0, 1, 5, 3]) ?_
   refine kr [] ?_
   cases h
   exact qv env rfl (tS [some 0, some 1, some 2, some 3] (sV (lS (lS (lS (lS (lS (lS (lS (lS (lS (lS lN)))))))))) (sV (lS lN) (sR qp (sR qj qt)))) (qz qu))
  ·replace h := qy hb h
   refine kr [] ?_
   refine qg (fun hb => ?_) (fun hb => ?_)
   ·replace h := qx hb h
    refine kr [] ?_
    obtain ⟨x9, hx, h⟩ := bind_some h
    refine qb (AC.g9 (H_F_kidL _ _ _ _ _ _ _ _ hx) [0, 1, 2, 3] [0, 1, 2, 3]) ?_
    refine kr [] ?_
    obtain ⟨x10, hx, h⟩ := bind_some h
    refine qb (AC.g9 (H_F_ownL _ _ _ _ _ _ _ _ _ hx) [0, 1, 2, 3] [0, 1, 2, 4]) ?_
    refine kr [] ?_
    obtain ⟨x11, hx, h⟩ := bind_some h
    refine qb (AC.g9 (H_F_ownL _ _ _ _ _ _ _ _ _ hx) [0, 1, 2, 3] [0, 1, 5, 4]) ?_
    refine kr [] ?_
    obtain ⟨x12, hx, h⟩ := bind_some h
    refine qb (AC.g9 (H_F_ownL _ _ _ _ _ _ _ _ _ hx) [0, 1, 2, 3] [0, 1, 6, 4]) ?_
    refine kr [] ?_
    obtain ⟨x13, hx, h⟩ := bind_some h
    refine qb (AC.g9 (H_F_restL _ _ _ _ _ _ _ hx) [0, 1, 2, 3] [0, 1, 7, 4]) ?_
    refine kr [] ?_
    cases h
    exact qv env rfl (tS [some 0, some 1, some 2, some 3] (sV (lS (lS (lS (lS (lS (lS (lS (lS (lS (lS lN)))))))))) (sV (lS lN) (sR qp (sR qj qt)))) (qz qu))
   ·replace h := qy hb h
    refine kr [] ?_
    refine qg (fun hb => ?_) (fun hb => ?_)
    ·replace h := qx hb h
     refine kr [] ?_
     obtain ⟨x14, hx, h⟩ := bind_some h
     refine qb (AC.g9 (H_F_ownL _ _ _ _ _ _ _ _ _ hx) [0, 1, 2, 3] [0, 1, 2, 3]) ?_
     refine kr [] ?_
     obtain ⟨x15, hx, h⟩ := bind_some h
     refine qb (AC.g9 (H_F_ownL _ _ _ _ _ _ _ _ _ hx) [0, 1, 2, 3] [0, 1, 4, 3]) ?_
     refine kr [] ?_
     obtain ⟨x16, hx, h⟩ := bind_some h
     refine qb (AC.g9 (H_F_ownL _ _ _ _ _ _ _ _ _ hx) [0, 1, 2, 3] [0, 1, 5, 3]) ?_
     refine kr [] ?_
     obtain ⟨x17, hx, h⟩ := bind_some h
     refine qb (AC.g9 (H_F_ownL _ _ _ _ _ _ _ _ _ hx) [0, 1, 2, 3] [0, 1, 6, 3]) ?_
     refine kr [] ?_
     cases h
     exact qv env rfl (tS [some 0, some 1, some 2, some 3] (sV (lS (lS (lS (lS (lS (lS (lS (lS (lS (lS lN)))))))))) (sV (lS lN) (sR qp (sR qj qt)))) (qz qu))
    ·replace h := qy hb h
     refine kr [] ?_
     refine qg (fun hb => ?_) (fun hb => ?_)
     ·replace h := qx hb h
      refine kr [] ?_
      obtain ⟨x18, hx, h⟩ := bind_some h
      refine qb (AC.g9 (H_F_kidL _ _ _ _ _ _ _ _ hx) [0, 1, 2, 3] [0, 1, 2, 3]) ?_
      refine kr [] ?_
      obtain ⟨x19, hx, h⟩ := bind_some h
      refine qb (AC.g9 (H_F_ownL _ _ _ _ _ _ _ _ _ hx) [0, 1, 2, 3] [0, 1, 2, 4]) ?_
      refine kr [] ?_
      obtain ⟨x20, hx, h⟩ := bind_some h
      refine qb (AC.g9 (H_F_kidL _ _ _ _ _ _ _ _ hx) [0, 1, 2, 3] [0, 1, 5, 4]) ?_
      refine kr [] ?_
      cases h
      exact qv env rfl (tS [some 0, some 1, some 2, some 3] (sV (lS (lS (lS (lS (lS (lS (lS (lS (lS (lS lN)))))))))) (sV (lS lN) (sR qp (sR qj qt)))) (qz qu))
     ·replace h := qy hb h
      refine kr [] ?_
      refine qg (fun hb => ?_) (fun hb => ?_)
      ·replace h := qx hb h
       refine kr [] ?_
       obtain ⟨x21, hx, h⟩ := bind_some h
       refine qb (AC.g9 (H_F_ownL _ _ _ _ _ _ _ _ _ hx) [0, 1, 2, 3] [0, 1, 2, 3]) ?_
       refine kr [] ?_
       obtain ⟨x22, hx, h⟩ := bind_some h
       refine qb (AC.g9 (H_F_kidL _ _ _ _ _ _ _ _ hx) [0, 1, 2, 3] [0, 1, 4, 3]) ?_
       refine kr [] ?_
       cases h
       exact qv env rfl (tS [some 0, some 1, some 2, some 3] (sV (lS (lS (lS (lS (lS (lS (lS (lS (lS (lS lN)))))))))) (sV (lS lN) (sR qp (sR qj qt)))) (qz qu))
      ·replace h := qy hb h
       refine kr [] ?_
       refine qg (fun hb => ?_) (fun hb => ?_)
       ·replace h := qx hb h
        refine kr [] ?_
        obtain ⟨x23, hx, h⟩ := bind_some h
        refine qb (AC.g9 (H_F_ownL _ _ _ _ _ _ _ _ _ hx) [0, 1, 2, 3] [0, 1, 2, 3]) ?_
        refine kr [] ?_
        obtain ⟨x24, hx, h⟩ := bind_some h
        refine qb (AC.g9 (H_F_kidL _ _ _ _ _ _ _ _ hx) [0, 1, 2, 3] [0, 1, 4, 3]) ?_
        refine kr [] ?_
        obtain ⟨x25, hx, h⟩ := bind_some h
        refine qb (AC.g9 (H_F_ownL _ _ _ _ _ _ _ _ _ hx) [0, 1, 2, 3] [0, 1, 4, 5]) ?_
        refine kr [] ?_
        cases h
        exact qv env rfl (tS [some 0, some 1, some 2, some 3] (sV (lS (lS (lS (lS (lS (lS (lS (lS (lS (lS lN)))))))))) (sV (lS lN) (sR qp (sR qj qt)))) (qz qu))
       ·replace h := qy hb h
        refine kr [] ?_
        obtain ⟨x26, hx, h⟩ := bind_some h
        refine qb (AC.g9 (H_F_ownL _ _ _ _ _ _ _ _ _ hx) [0, 1, 2, 3] [0, 1, 2, 3]) ?_
        refine kr [] ?_
        cases h
        exact qv env rfl (tS [some 0, some 1, some 2, some 3] (sV (lS (lS (lS (lS (lS (lS (lS (lS (lS (lS lN)))))))))) (sV (lS lN) (sR qp (sR qj qt)))) (qz qu))
theorem H_F_nodeL : PC3 M_F_nodeL F_nodeL := ALL_F_nodeL.1
theorem H_F_otherL : PC7 M_F_otherL F_otherL := ALL_F_nodeL.2.1
theorem H_F_namedL : PC8 M_F_namedL F_namedL := ALL_F_nodeL.2.2.1
theorem H_F_kidL : PC7 M_F_kidL F_kidL := ALL_F_nodeL.2.2.2.1
theorem H_F_bodyL : PC7 M_F_bodyL F_bodyL := ALL_F_nodeL.2.2.2.2.1
theorem H_F_bodyL_l0 : PC7 M_F_bodyL_l0 F_bodyL_l0 := ALL_F_nodeL.2.2.2.2.2.1
theorem H_F_restL : PC6 M_F_restL F_restL := ALL_F_nodeL.2.2.2.2.2.2.1
theorem H_F_restL_l0 : PC7 M_F_restL_l0 F_restL_l0 := ALL_F_nodeL.2.2.2.2.2.2.2.1
theorem H_F_restL_b1 : PC6 M_F_restL_b1 F_restL_b1 := ALL_F_nodeL.2.2.2.2.2.2.2.2.1
theorem H_F_otherL_l0 : PC9 M_F_otherL_l0 F_otherL_l0 := ALL_F_nodeL.2.2.2.2.2.2.2.2.2.1
theorem H_F_otherL_t22 : PC9 M_F_otherL_t22 F_otherL_t22 := ALL_F_nodeL.2.2.2.2.2.2.2.2.2.2.1
theorem H_F_statementL : PC7 M_F_statementL F_statementL := ALL_F_nodeL.2.2.2.2.2.2.2.2.2.2.2.1
theorem H_F_statementL_t53 : PC8 M_F_statementL_t53 F_statementL_t53 := ALL_F_nodeL.2.2.2.2.2.2.2.2.2.2.2.2.1
theorem H_F_statementL_l0 : PC7 M_F_statementL_l0 F_statementL_l0 := ALL_F_nodeL.2.2.2.2.2.2.2.2.2.2.2.2.2.1
theorem H_F_expressionL : PC7 M_F_expressionL F_expressionL := ALL_F_nodeL.2.2.2.2.2.2.2.2.2.2.2.2.2.2
def F_print_Layout (a0 : Node) : Option (Node × Int) :=
 F_grammar_Check a0 >>= fun x1 =>
 if (!decide (x1 = (0 : Int))) = true then
  some ((Node.mk 0 (⟨#[]⟩) ([] : LB) ([] : LN)), x1)
 else
  F_nodeL a0 (⟨#[]⟩ : BA) (0 : Int) >>= fun x2 =>
  some (x2, (0 : Int))
@[reducible] def M_F_print_Layout (a0 : Node) (r : Node × Int) : Prop :=
  Fn Tryz.prog G 13 [(.agg (zo a0))] (.tup [(.agg (zo r.1)), (.int .i64 r.2)])
theorem H_F_print_Layout : PC1 M_F_print_Layout F_print_Layout := fun a0 r h => by
 rw [F_print_Layout.eq_def] at h
 refine zg (T := tt) (N := 17) (rs := [.cell 2 25, .tmp 3]) (fun vs w => by simp) Tryz.func13 rfl rfl rfl rfl (by kernel_rfl) (jb rfl) (zp _ rfl) ?_
 refine kr [] ?_
 obtain ⟨x1, hx, h⟩ := bind_some h
 refine ql (H_F_grammar_Check _ _ hx) ?_
 refine kr [] ?_
 refine qg (fun hb => ?_) (fun hb => ?_)
 ·replace h := qx hb h
  refine kr [] ?_
  cases h
  exact zi env rfl rfl (ua (vn (jv (view_agg (yn (j5 rfl) (yn (vo rfl) (yn (vv (.inr rfl)) (yn (vv (.inr rfl)) viewL_nil))))) (jv (ka (j5 rfl) (by simp)) uz))))
 ·replace h := qy hb h
  refine kr [] ?_
  obtain ⟨x2, hx, h⟩ := bind_some h
  refine qb (AC.g9 (H_F_nodeL _ _ _ _ hx) [2] [2]) ?_
  refine kr [] ?_
  cases h
  exact kf
def F_L8_sums1 (s : BA) : Option Node := some (sumN s)
theorem H_F_L8_sums1 (s : BA) (r : Node) (h : F_L8_sums1 s = some r) : AC Tryz.prog G 12 [.str s] 1 [(0, .row 25 [])] (.agg [.int .i64 r.kind, .str r.text, .sl 1 false (r.gaps.map sc), .bs 4 0 1 0 r.kids.length]) 2 [(1, .row 25 (r.kids.map Node.cells).flatten)] := by
 cases h; exact AC_sum s
def F_L8_awake  : Option Bool :=
 F_L8_sum (⟨#[43]⟩ : BA) >>= fun x1 =>
 F_print_Words (Node.mk x1.kind x1.text ([(⟨#[]⟩ : BA)]) x1.kids) >>= fun x2 =>
 F_print_Text (Node.mk x1.kind x1.text ([(⟨#[]⟩ : BA)]) x1.kids) >>= fun x3 =>
 F_print_Plain (Node.mk x1.kind x1.text ([(⟨#[]⟩ : BA)]) x1.kids) >>= fun x4 =>
 F_print_Text (Node.mk (12 : Int) (⟨#[]⟩) ([] : LB) ([(Node.mk (17 : Int) (⟨#[49]⟩ : BA) ([(⟨#[]⟩ : BA)]) ([] : LN))])) >>= fun x5 =>
 F_L8_sum (⟨#[63]⟩ : BA) >>= fun x6 =>
 F_print_Text x6 >>= fun x7 =>
 F_print_Layout (Node.mk x1.kind x1.text ([(⟨#[]⟩ : BA)]) x1.kids) >>= fun x8 =>
 F_L8_sums1 (⟨#[47]⟩ : BA) >>= fun x9 =>
 ix x9.kids (1 : Int) >>= fun x10 =>
 F_print_Text (Node.mk x9.kind x9.text x9.gaps (x9.kids.set (1 : Int).toNat (Node.mk x10.kind x10.text ([(⟨#[47, 47, 32, 99, 10]⟩ : BA)]) x10.kids))) >>= fun x11 =>
 if (decide (x2.2 = (0 : Int))) = true then
  if (decide (((x2.1.map sc).length : Int) = (3 : Int))) = true then
   ix x2.1 (1 : Int) >>= fun x12 =>
   if (decide (x12 = (⟨#[43]⟩ : BA))) = true then
    if (decide (x3.2 = (0 : Int))) = true then
     if (decide (x3.1 = (⟨#[49, 43, 32, 50]⟩ : BA))) = true then
      if (decide (x4.2 = (0 : Int))) = true then
       if (decide (x4.1 = (⟨#[49, 32, 43, 32, 50]⟩ : BA))) = true then
        if (decide (x5.2 = (0 : Int))) = true then
         if (decide (x5.1 = (⟨#[114, 101, 116, 117, 114, 110, 32, 49, 59]⟩ : BA))) = true then
          if (decide (x7.2 = (7 : Int))) = true then
           if (decide (x8.2 = (0 : Int))) = true then
            if (decide (((x8.1.gaps.map sc).length : Int) = (1 : Int))) = true then
             ix x8.1.gaps (0 : Int) >>= fun x13 =>
             if (decide (x13 = (⟨#[32]⟩ : BA))) = true then
              if (decide (x11.2 = (0 : Int))) = true then
               some (decide (x11.1 = (⟨#[49, 32, 47, 32, 47, 47, 32, 99, 10, 50]⟩ : BA)))
              else
               some false
             else
              some false
            else
             some false
           else
            some false
          else
           some false
         else
          some false
        else
         some false
       else
        some false
      else
       some false
     else
      some false
    else
     some false
   else
    some false
  else
   some false
 else
  some false
@[reducible] def M_F_L8_awake  (r : Bool) : Prop :=
  Fn Tryz.prog G 5 [] (.bool r)
theorem H_F_L8_awake : PC0 M_F_L8_awake F_L8_awake := fun  r h => by
 rw [F_L8_awake.eq_def] at h
 refine zg (T := tt) (N := 130) (rs := [.tmp 0]) (fun vs w => by simp) Tryz.func5 rfl rfl rfl rfl (by kernel_rfl) (jb rfl) (zp _ rfl) ?_
 refine kr [2000010] ?_
 obtain ⟨x1, hx, h⟩ := bind_some h
 refine ql (H_F_L8_sum _ _ hx) ?_
 refine kr [2000010] ?_
 obtain ⟨x2, hx, h⟩ := bind_some h
 refine ql (Fn.wk (H_F_print_Words _ _ hx) (Qt (wk_agg (jr (js _) (jr (js _) (jr (Y5 (.inl rfl)) (jr (js _) Yj))))) Jc)) ?_
 refine kr [2000010] ?_
 obtain ⟨x3, hx, h⟩ := bind_some h
 refine ql (Fn.wk (H_F_print_Text _ _ hx) (Qt (wk_agg (jr (js _) (jr (js _) (jr (Y5 (.inl rfl)) (jr (js _) Yj))))) Jc)) ?_
 refine kr [2000010] ?_
 obtain ⟨x4, hx, h⟩ := bind_some h
 refine ql (Fn.wk (H_F_print_Plain _ _ hx) (Qt (wk_agg (jr (js _) (jr (js _) (jr (Y5 (.inl rfl)) (jr (js _) Yj))))) Jc)) ?_
 refine kr [2000010] ?_
 obtain ⟨x5, hx, h⟩ := bind_some h
 refine ql (Fn.wk (H_F_print_Text _ _ hx) (Qt (wk_agg (jr (js _) (jr (js _) (jr (Y5 (.inr rfl)) (jr (wk_slL (.inl rfl) (show Je _ (List.map Node.cells [(Node.mk (17 : Int) (⟨#[49]⟩ : BA) ([(⟨#[]⟩ : BA)]) ([] : LN))]) from (by simp only [List.map_cons, List.map_nil, Node.cells_eq]; exact (Y6 (y4 (Qu _) (y4 (Qu _) (y4 (wk0_sl (.inl rfl)) (y4 (wk0_sl (.inr rfl)) wk0L_nil)))) wk0LL_nil)))) Yj))))) Jc)) ?_
 refine kr [2000010] ?_
 obtain ⟨x6, hx, h⟩ := bind_some h
 refine ql (H_F_L8_sum _ _ hx) ?_
 refine kr [2000010] ?_
 obtain ⟨x7, hx, h⟩ := bind_some h
 refine ql (H_F_print_Text _ _ hx) ?_
 refine kr [2000010] ?_
 obtain ⟨x8, hx, h⟩ := bind_some h
 refine ql (Fn.wk (H_F_print_Layout _ _ hx) (Qt (wk_agg (jr (js _) (jr (js _) (jr (Y5 (.inl rfl)) (jr (js _) Yj))))) Jc)) ?_
 refine kr [2000010] ?_
 obtain ⟨x9, hx, h⟩ := bind_some h
 refine qb (ACalls.ghost (e := 25) (AC.g9 (H_F_L8_sums1 _ _ hx) [2] [2])) ?_
 refine kr [2000010] ?_
 obtain ⟨x10, hx, h⟩ := bind_some h
 have he_x10 := hx
 refine Ok_ixB env rfl rfl rfl rfl (ix_nn hx) (ix_lt hx) ?_
 refine kr [2000010] ?_
 refine Ok_storeBR (fo := 2) he_x10 qj rfl rfl rfl rfl rfl rfl ?_
 refine kr [2000010] ?_
 refine Ok_rowW 2 3 25 (cs' := ((x9.kids.set (1 : Int).toNat (Node.mk x10.kind x10.text ([(⟨#[47, 47, 32, 99, 10]⟩ : BA)]) x10.kids)).map Node.cells).flatten) rfl rfl (wkL_setR (by rw [Node.cells_eq, Node.cells_eq]; exact (jr (js _) (jr (js _) (jr (Y5 (.inl rfl)) (jr (js _) Yj)))))) ?_
 refine Ok_viewFB (l := (x9.kids.set (1 : Int).toNat (Node.mk x10.kind x10.text ([(⟨#[47, 47, 32, 99, 10]⟩ : BA)]) x10.kids))) 3 3 2 qj rfl rfl (by simp only [List.length_set]; rfl) rfl rfl rfl ?_
 refine Ok_bar_on ?_
 refine kr [2000010] ?_
 obtain ⟨x11, hx, h⟩ := bind_some h
 refine ql (H_F_print_Text _ _ hx) ?_
 refine kr [2000010] ?_
 refine qm (fun hb => ?_) (fun hb => ?_)
 ·replace h := qx hb h
  refine kr [2000010] ?_
  refine qm (fun hb => ?_) (fun hb => ?_)
  ·replace h := qx hb h
   refine kr [2000010] ?_
   obtain ⟨x12, hx, h⟩ := bind_some h
   refine w9 env hx rfl rfl rfl rfl rfl ?_
   refine kr [2000010] ?_
   refine qm (fun hb => ?_) (fun hb => ?_)
   ·replace h := qx hb h
    refine kr [2000010] ?_
    refine qm (fun hb => ?_) (fun hb => ?_)
    ·replace h := qx hb h
     refine kr [2000010] ?_
     refine qm (fun hb => ?_) (fun hb => ?_)
     ·replace h := qx hb h
      refine kr [2000010] ?_
      refine qm (fun hb => ?_) (fun hb => ?_)
      ·replace h := qx hb h
       refine kr [2000010] ?_
       refine qm (fun hb => ?_) (fun hb => ?_)
       ·replace h := qx hb h
        refine kr [2000010] ?_
        refine qm (fun hb => ?_) (fun hb => ?_)
        ·replace h := qx hb h
         refine kr [2000010] ?_
         refine qm (fun hb => ?_) (fun hb => ?_)
         ·replace h := qx hb h
          refine kr [2000010] ?_
          refine qm (fun hb => ?_) (fun hb => ?_)
          ·replace h := qx hb h
           refine kr [2000010] ?_
           refine qm (fun hb => ?_) (fun hb => ?_)
           ·replace h := qx hb h
            refine kr [2000010] ?_
            refine qm (fun hb => ?_) (fun hb => ?_)
            ·replace h := qx hb h
             refine kr [2000010] ?_
             obtain ⟨x13, hx, h⟩ := bind_some h
             refine w9 env hx rfl rfl rfl rfl rfl ?_
             refine kr [2000010] ?_
             refine qm (fun hb => ?_) (fun hb => ?_)
             ·replace h := qx hb h
              refine kr [2000010] ?_
              refine qm (fun hb => ?_) (fun hb => ?_)
              ·replace h := qx hb h
               refine kr [2000010] ?_
               cases h
               exact kf
              ·replace h := qy hb h
               refine kr [2000010] ?_
               cases h
               exact kf
             ·replace h := qy hb h
              refine kr [2000010] ?_
              cases h
              exact kf
            ·replace h := qy hb h
             refine kr [2000010] ?_
             cases h
             exact kf
           ·replace h := qy hb h
            refine kr [2000010] ?_
            cases h
            exact kf
          ·replace h := qy hb h
           refine kr [2000010] ?_
           cases h
           exact kf
         ·replace h := qy hb h
          refine kr [2000010] ?_
          cases h
          exact kf
        ·replace h := qy hb h
         refine kr [2000010] ?_
         cases h
         exact kf
       ·replace h := qy hb h
        refine kr [2000010] ?_
        cases h
        exact kf
      ·replace h := qy hb h
       refine kr [2000010] ?_
       cases h
       exact kf
     ·replace h := qy hb h
      refine kr [2000010] ?_
      cases h
      exact kf
    ·replace h := qy hb h
     refine kr [2000010] ?_
     cases h
     exact kf
   ·replace h := qy hb h
    refine kr [2000010] ?_
    cases h
    exact kf
  ·replace h := qy hb h
   refine kr [2000010] ?_
   cases h
   exact kf
 ·replace h := qy hb h
  refine kr [2000010] ?_
  cases h
  exact kf
def F_token_run_b0 (t3 : Int) : Option Int :=
 some t3
@[reducible] def M_F_token_run_b0 (t3 : Int) (r : Int) : Prop :=
  Ok Tryz.prog G tt 17 0 (Ret Tryz.prog [.tmp 2] (fun y H => Told Tryz.prog G H y (.int .i64 r))) (.go [] (blockOf [1000000] Tryz.f67 0) [] (.n .undef (.n .undef (.n (.int .i64 t3) .z .z) .z) .z) 0 [])
theorem H_F_token_run_b0 : PC1 M_F_token_run_b0 F_token_run_b0 := fun t3 r h => by
 rw [F_token_run_b0.eq_def] at h
 refine kr [1000000] ?_
 cases h
 exact kf
def F_token_run_l0 (t0 : BA) (t3 : Int) : Option Int :=
 if (decide (t3 < (t0.size : Int))) = true then
  sx t0 t3 >>= fun x1 =>
  F_token_wordy (qa x1) >>= fun x2 =>
  if x2 = true then
   F_token_run_l0 (qa t0) (IntKind.i64.wrap (t3 + (1 : Int)))
  else
   F_token_run_b0 (qa t3)
 else
  F_token_run_b0 (qa t3)
 partial_fixpoint
@[reducible] def M_F_token_run_l0 (t0 : BA) (t3 : Int) (r : Int) : Prop :=
  Ok Tryz.prog G tt 17 0 (Ret Tryz.prog [.tmp 2] (fun y H => Told Tryz.prog G H y (.int .i64 r))) (.again (jq [1000000] Tryz.f67 0).1 (jq [1000000] Tryz.f67 0).2 (.n (.str t0) (.n .undef (.n (.int .i64 t3) .z .z) .z) .z) 0 [])
theorem H_F_token_run_l0 : PC2 M_F_token_run_l0 F_token_run_l0 := by
 refine F_token_run_l0.partial_correctness M_F_token_run_l0 (fun F_token_run_l0 H_F_token_run_l0 t0 t3 r h => ?_)
 ·unfold qa at h
  refine jz ?_
  refine kr [1000000] ?_
  refine qm (fun hb => ?_) (fun hb => ?_)
  ·replace h := qx hb h
   refine kr [1000000] ?_
   obtain ⟨x1, hx, h⟩ := bind_some h
   refine Ok_sxT env hx rfl rfl rfl rfl ?_
   refine kr [1000000] ?_
   obtain ⟨x2, hx, h⟩ := bind_some h
   refine ql (H_F_token_wordy _ _ hx) ?_
   refine kr [1000000] ?_
   refine qg (fun hb => ?_) (fun hb => ?_)
   ·replace h := qx hb h
    refine kr [1000000] ?_
    exact je (by kernel_rfl) lA (H_F_token_run_l0 _ _ _ h)
   ·replace h := qy hb h
    refine kr [1000000] ?_
    exact q7 (by kernel_rfl) rfl lA (H_F_token_run_b0 _ _ h)
  ·replace h := qy hb h
   refine kr [1000000] ?_
   exact q7 (by kernel_rfl) rfl lA (H_F_token_run_b0 _ _ h)
def F_token_run (a0 : BA) : Option Int :=
 F_token_run_l0 a0 (0 : Int)
@[reducible] def M_F_token_run (a0 : BA) (r : Int) : Prop :=
  Fn Tryz.prog G 67 [(.str a0)] (.int .i64 r)
theorem H_F_token_run : PC1 M_F_token_run F_token_run := fun a0 r h => by
 rw [F_token_run.eq_def] at h
 refine zg (T := tt) (N := 17) (rs := [.tmp 2]) (fun vs w => by simp) Tryz.func67 rfl rfl rfl rfl (by kernel_rfl) (jb rfl) (zp _ rfl) ?_
 refine kr [1000000] ?_
 exact jp (by kernel_rfl) lA (H_F_token_run_l0 _ _ _ h)
def F_token_first_t11  : Option (Int × Int) :=
 some ((0 : Int), (0 : Int))
@[reducible] def M_F_token_first_t11  (r : Int × Int) : Prop :=
  Ok Tryz.prog G tt 33 0 (Ret Tryz.prog [.tmp 2, .tmp 3] (fun y H => Told Tryz.prog G H y (.tup [(.int .i64 r.1), (.int .i64 r.2)]))) (.go [] (yo [11, 20] Tryz.f43 11) [] .z 0 [])
theorem H_F_token_first_t11 : PC0 M_F_token_first_t11 F_token_first_t11 := fun  r h => by
 rw [F_token_first_t11.eq_def] at h
 refine kr [11, 20] ?_
 cases h
 exact kf
def F_token_first_t20  : Option (Int × Int) :=
 F_token_first_t11 
@[reducible] def M_F_token_first_t20  (r : Int × Int) : Prop :=
  Ok Tryz.prog G tt 33 0 (Ret Tryz.prog [.tmp 2, .tmp 3] (fun y H => Told Tryz.prog G H y (.tup [(.int .i64 r.1), (.int .i64 r.2)]))) (.go [] (yo [11, 20] Tryz.f43 20) [] .z 0 [])
theorem H_F_token_first_t20 : PC0 M_F_token_first_t20 F_token_first_t20 := fun  r h => by
 rw [F_token_first_t20.eq_def] at h
 refine kr [11, 20] ?_
 exact q7 (by kernel_rfl) rfl lA (H_F_token_first_t11 _ h)
def F_token_first (a0 : BA) : Option (Int × Int) :=
 if (decide (a0 = (⟨#[]⟩ : BA))) = true then
  some ((0 : Int), (0 : Int))
 else
  sx a0 (0 : Int) >>= fun x1 =>
  F_token_class x1 >>= fun x2 =>
  if (decide (x2 = (1 : Int))) = true then
   F_token_run a0 >>= fun x3 =>
   ssub a0 (0 : Int) x3 >>= fun x4 =>
   F_token_integer x4 >>= fun x5 =>
   if x5 = true then
    some (x3, (2 : Int))
   else
    F_token_first_t11 
  else
   if (decide (x2 = (2 : Int))) = true then
    F_token_run a0 >>= fun x6 =>
    if (decide (x6 ≤ (32 : Int))) = true then
     some (x6, (1 : Int))
    else
     F_token_first_t20 
   else
    if (decide (x2 = (3 : Int))) = true then
     F_strings_HasPrefix a0 (⟨#[47, 47]⟩ : BA) >>= fun x7 =>
     if x7 = true then
      some ((0 : Int), (0 : Int))
     else
      F_strings_HasPrefix a0 (⟨#[61, 61]⟩ : BA) >>= fun x8 =>
      if x8 = true then
       some ((2 : Int), (3 : Int))
      else
       some ((1 : Int), (3 : Int))
    else
     F_token_first_t20 
@[reducible] def M_F_token_first (a0 : BA) (r : Int × Int) : Prop :=
  Fn Tryz.prog G 43 [(.str a0)] (.tup [(.int .i64 r.1), (.int .i64 r.2)])
theorem H_F_token_first : PC1 M_F_token_first F_token_first := fun a0 r h => by
 rw [F_token_first.eq_def] at h
 refine zg (T := tt) (N := 33) (rs := [.tmp 2, .tmp 3]) (fun vs w => by simp) Tryz.func43 rfl rfl rfl rfl (by kernel_rfl) (jb rfl) (zp _ rfl) ?_
 refine kr [11, 20] ?_
 refine qg (fun hb => ?_) (fun hb => ?_)
 ·replace h := qx hb h
  refine kr [11, 20] ?_
  cases h
  exact kf
 ·replace h := qy hb h
  refine kr [11, 20] ?_
  obtain ⟨x1, hx, h⟩ := bind_some h
  refine Ok_sxT env hx rfl rfl rfl rfl ?_
  refine kr [11, 20] ?_
  obtain ⟨x2, hx, h⟩ := bind_some h
  refine ql (H_F_token_class _ _ hx) ?_
  refine kr [11, 20] ?_
  refine qg (fun hb => ?_) (fun hb => ?_)
  ·replace h := qx hb h
   refine kr [11, 20] ?_
   obtain ⟨x3, hx, h⟩ := bind_some h
   refine ql (H_F_token_run _ _ hx) ?_
   refine kr [11, 20] ?_
   obtain ⟨x4, hx, h⟩ := bind_some h
   refine Zd env hx rfl rfl rfl rfl rfl ?_
   refine kr [11, 20] ?_
   obtain ⟨x5, hx, h⟩ := bind_some h
   refine ql (H_F_token_integer _ _ hx) ?_
   refine kr [11, 20] ?_
   refine qg (fun hb => ?_) (fun hb => ?_)
   ·replace h := qx hb h
    refine kr [11, 20] ?_
    cases h
    exact kf
   ·replace h := qy hb h
    refine kr [11, 20] ?_
    exact q7 (by kernel_rfl) rfl lA (H_F_token_first_t11 _ h)
  ·replace h := qy hb h
   refine kr [11, 20] ?_
   refine qg (fun hb => ?_) (fun hb => ?_)
   ·replace h := qx hb h
    refine kr [11, 20] ?_
    obtain ⟨x6, hx, h⟩ := bind_some h
    refine ql (H_F_token_run _ _ hx) ?_
    refine kr [11, 20] ?_
    refine qg (fun hb => ?_) (fun hb => ?_)
    ·replace h := qx hb h
     refine kr [11, 20] ?_
     cases h
     exact kf
    ·replace h := qy hb h
     refine kr [11, 20] ?_
     exact q7 (by kernel_rfl) rfl lA (H_F_token_first_t20 _ h)
   ·replace h := qy hb h
    refine kr [11, 20] ?_
    refine qg (fun hb => ?_) (fun hb => ?_)
    ·replace h := qx hb h
     refine kr [11, 20] ?_
     obtain ⟨x7, hx, h⟩ := bind_some h
     refine ql (H_F_strings_HasPrefix _ _ _ hx) ?_
     refine kr [11, 20] ?_
     refine qg (fun hb => ?_) (fun hb => ?_)
     ·replace h := qx hb h
      refine kr [11, 20] ?_
      cases h
      exact kf
     ·replace h := qy hb h
      refine kr [11, 20] ?_
      obtain ⟨x8, hx, h⟩ := bind_some h
      refine ql (H_F_strings_HasPrefix _ _ _ hx) ?_
      refine kr [11, 20] ?_
      refine qg (fun hb => ?_) (fun hb => ?_)
      ·replace h := qx hb h
       refine kr [11, 20] ?_
       cases h
       exact kf
      ·replace h := qy hb h
       refine kr [11, 20] ?_
       cases h
       exact kf
    ·replace h := qy hb h
     refine kr [11, 20] ?_
     exact q7 (by kernel_rfl) rfl lA (H_F_token_first_t20 _ h)
def F_token_Tokens_l0 (t0 : BA) (t5 : (List Token)) (t6 : Int) : Option ((List Token) × Int × Int) :=
 F_trivia_End (qa t0) (qa t6) >>= fun x1 =>
 if (decide (x1 = (t0.size : Int))) = true then
  ssub t0 t6 (t0.size : Int) >>= fun x2 =>
  app 48 t5 ([(Token.mk (4 : Int) x2 (⟨#[]⟩) (t0.size : Int))]) >>= fun x3 =>
  some (x3, (0 : Int), (0 : Int))
 else
  ssub t0 x1 (t0.size : Int) >>= fun x4 =>
  F_token_first (qa x4) >>= fun x5 =>
  if (decide (x5.2 = (0 : Int))) = true then
   some (([] : (List Token)), (1 : Int), x1)
  else
   ssub t0 t6 x1 >>= fun x6 =>
   ssub t0 x1 (IntKind.i64.wrap (x1 + x5.1)) >>= fun x7 =>
   app 48 t5 ([(Token.mk x5.2 x6 x7 x1)]) >>= fun x8 =>
   F_token_Tokens_l0 (qa t0) (qa x8) (IntKind.i64.wrap (x1 + x5.1))
 partial_fixpoint
@[reducible] def M_F_token_Tokens_l0 (t0 : BA) (t5 : (List Token)) (t6 : Int) (r : (List Token) × Int × Int) : Prop :=
  Ok Tryz.prog G tt 58 0 (Ret Tryz.prog [.tmp 2, .tmp 3, .tmp 4] (fun y H => Told Tryz.prog G H y (.tup [(.sl 4 false (r.1.map Token.cells)), (.int .i64 r.2.1), (.int .i64 r.2.2)]))) (.again (jq [] Tryz.f27 0).1 (jq [] Tryz.f27 0).2 (.n (.str t0) (.n .undef .z (.n (.bs 4 0 0 0 t5.length) .z .z)) (.n .undef .z (.n (.int .i64 t6) .z .z))) 1 [(0, .row 62 (t5.map Token.cells).flatten)])
theorem H_F_token_Tokens_l0 : PC3 M_F_token_Tokens_l0 F_token_Tokens_l0 := by
 refine F_token_Tokens_l0.partial_correctness M_F_token_Tokens_l0 (fun F_token_Tokens_l0 H_F_token_Tokens_l0 t0 t5 t6 r h => ?_)
 ·unfold qa at h
  refine jz ?_
  refine kr [] ?_
  obtain ⟨x1, hx, h⟩ := bind_some h
  refine ql (H_F_trivia_End _ _ _ hx) ?_
  refine kr [] ?_
  refine qg (fun hb => ?_) (fun hb => ?_)
  ·replace h := qx hb h
   refine kr [] ?_
   obtain ⟨x2, hx, h⟩ := bind_some h
   refine Zd env hx rfl rfl rfl rfl rfl ?_
   refine kr [] ?_
   obtain ⟨x3, hx, h⟩ := bind_some h
   have hp_x3 := Zt hx (by simp)
   refine Qk (C := Token.cells) env hx rfl rfl (by simp) (fun _ => rfl) rfl rfl rfl rfl rfl (by decide) rfl rfl rfl ?_
   refine kr [] ?_
   cases h
   exact zi env rfl rfl (ua (vn (jv (ka (ue Yb rfl) (by simp)) (jv (ka (j5 rfl) (by simp)) (jv (ka (j5 rfl) (by simp)) uz)))))
  ·replace h := qy hb h
   refine kr [] ?_
   obtain ⟨x4, hx, h⟩ := bind_some h
   refine Zd env hx rfl rfl rfl rfl rfl ?_
   refine kr [] ?_
   obtain ⟨x5, hx, h⟩ := bind_some h
   refine ql (H_F_token_first _ _ hx) ?_
   refine kr [] ?_
   refine qg (fun hb => ?_) (fun hb => ?_)
   ·replace h := qx hb h
    refine kr [] ?_
    cases h
    exact zi env rfl rfl (ua (vn (jv (ka (vv (.inr rfl)) (by simp)) (jv (ka (j5 rfl) (by simp)) (jv (ka (j5 rfl) (by simp)) uz)))))
   ·replace h := qy hb h
    refine kr [] ?_
    obtain ⟨x6, hx, h⟩ := bind_some h
    refine Zd env hx rfl rfl rfl rfl rfl ?_
    refine kr [] ?_
    obtain ⟨x7, hx, h⟩ := bind_some h
    refine Zd env hx rfl rfl rfl rfl rfl ?_
    refine kr [] ?_
    obtain ⟨x8, hx, h⟩ := bind_some h
    have hp_x8 := Zt hx (by simp)
    refine Qk (C := Token.cells) env hx rfl rfl (by simp) (fun _ => rfl) rfl rfl rfl rfl rfl (by decide) rfl rfl rfl ?_
    refine kr [] ?_
    exact je (by kernel_rfl) lA (H_F_token_Tokens_l0 _ _ _ _ h)
def F_token_Tokens (a0 : BA) : Option ((List Token) × Int × Int) :=
 if (decide ((65536 : Int) < (a0.size : Int))) = true then
  some (([] : (List Token)), (3 : Int), (0 : Int))
 else
  F_token_Tokens_l0 a0 ([] : List Token) (0 : Int)
@[reducible] def M_F_token_Tokens (a0 : BA) (r : (List Token) × Int × Int) : Prop :=
  Fn Tryz.prog G 27 [(.str a0)] (.tup [(.sl 4 false (r.1.map Token.cells)), (.int .i64 r.2.1), (.int .i64 r.2.2)])
theorem H_F_token_Tokens : PC1 M_F_token_Tokens F_token_Tokens := fun a0 r h => by
 rw [F_token_Tokens.eq_def] at h
 refine zg (T := tt) (N := 58) (rs := [.tmp 2, .tmp 3, .tmp 4]) (fun vs w => by simp) Tryz.func27 rfl rfl rfl rfl (by kernel_rfl) (jb rfl) (zp _ rfl) ?_
 refine kr [] ?_
 refine qg (fun hb => ?_) (fun hb => ?_)
 ·replace h := qx hb h
  refine kr [] ?_
  cases h
  exact zi env rfl rfl (ua (vn (jv (ka (vv (.inr rfl)) (by simp)) (jv (ka (j5 rfl) (by simp)) (jv (ka (j5 rfl) (by simp)) uz)))))
 ·replace h := qy hb h
  refine kr [] ?_
  refine Ok_own 5 _ 4 62 rfl rfl ?_
  exact jp (by kernel_rfl) lA (H_F_token_Tokens_l0 _ _ _ _ h)
def F_L8_read_l0 (t1 : LB) (t7 : (List Token)) (t11 : Int) : Option Bool :=
 if (decide (t11 < ((t1.map sc).length : Int))) = true then
  ix t7 t11 >>= fun x3 =>
  ix t1 t11 >>= fun x4 =>
  if (!decide (x3.Text = x4)) = true then
   some false
  else
   F_L8_read_l0 (qa t1) (qa t7) (IntKind.i64.wrap (t11 + (1 : Int)))
 else
  some true
 partial_fixpoint
@[reducible] def M_F_L8_read_l0 (t1 : LB) (t7 : (List Token)) (t11 : Int) (r : Bool) : Prop :=
  Ok Tryz.prog G tt 55 0 (Ret Tryz.prog [.tmp 6] (fun y H => Told Tryz.prog G H y (.bool r))) (.again (jq [23] Tryz.f10 0).1 (jq [23] Tryz.f10 0).2 (.n .undef (.n (.sl 1 false (t1.map sc)) (.n .undef (.n (.sl 4 false (t7.map Token.cells)) .z .z) (.n (.int .i64 t11) .z .z)) .z) .z) 0 [])
theorem H_F_L8_read_l0 : PC3 M_F_L8_read_l0 F_L8_read_l0 := by
 refine F_L8_read_l0.partial_correctness M_F_L8_read_l0 (fun F_L8_read_l0 H_F_L8_read_l0 t1 t7 t11 r h => ?_)
 ·unfold qa at h
  refine jz ?_
  refine kr [23] ?_
  refine qg (fun hb => ?_) (fun hb => ?_)
  ·replace h := qx hb h
   refine kr [23] ?_
   obtain ⟨x3, hx, h⟩ := bind_some h
   refine w9 env hx rfl rfl rfl rfl rfl ?_
   refine kr [23] ?_
   obtain ⟨x4, hx, h⟩ := bind_some h
   refine w9 env hx rfl rfl rfl rfl rfl ?_
   refine kr [23] ?_
   refine qg (fun hb => ?_) (fun hb => ?_)
   ·replace h := qx hb h
    refine kr [23] ?_
    cases h
    exact kf
   ·replace h := qy hb h
    refine kr [23] ?_
    exact je (by kernel_rfl) lA (H_F_L8_read_l0 _ _ _ _ h)
  ·replace h := qy hb h
   refine kr [23] ?_
   cases h
   exact kf
def F_L8_read_t23 (t1 : LB) (t7 : (List Token)) (t10 : Int) : Option Bool :=
 if (!decide (((t7.map Token.cells).length : Int) = t10)) = true then
  some false
 else
  ix t7 (IntKind.i64.wrap (t10 - (1 : Int))) >>= fun x2 =>
  if (!decide (x2.Text = (⟨#[]⟩ : BA))) = true then
   some false
  else
   F_L8_read_l0 t1 t7 (0 : Int)
@[reducible] def M_F_L8_read_t23 (t1 : LB) (t7 : (List Token)) (t10 : Int) (r : Bool) : Prop :=
  Ok Tryz.prog G tt 55 0 (Ret Tryz.prog [.tmp 6] (fun y H => Told Tryz.prog G H y (.bool r))) (.go [] (yo [23] Tryz.f10 23) [] (.n .undef (.n (.sl 1 false (t1.map sc)) (.n .undef (.n (.sl 4 false (t7.map Token.cells)) .z .z) .z) .z) (.n .undef .z (.n .undef (.n (.int .i64 t10) .z .z) .z))) 0 [])
theorem H_F_L8_read_t23 : PC3 M_F_L8_read_t23 F_L8_read_t23 := fun t1 t7 t10 r h => by
 rw [F_L8_read_t23.eq_def] at h
 refine kr [23] ?_
 refine qr (fun hb => ?_) (fun hb => ?_)
 ·replace h := qy hb h
  refine kr [23] ?_
  obtain ⟨x2, hx, h⟩ := bind_some h
  refine w9 env hx rfl rfl rfl rfl rfl ?_
  refine kr [23] ?_
  refine qg (fun hb => ?_) (fun hb => ?_)
  ·replace h := qx hb h
   refine kr [23] ?_
   cases h
   exact kf
  ·replace h := qy hb h
   refine kr [23] ?_
   exact jp (by kernel_rfl) lA (H_F_L8_read_l0 _ _ _ _ h)
 ·replace h := qx hb h
  refine kr [23] ?_
  cases h
  exact kf
def F_L8_read (a0 : BA) (a1 : LB) (a2 : Int) : Option Bool :=
 F_token_Tokens a0 >>= fun x1 =>
 if (!decide (x1.2.1 = (0 : Int))) = true then
  some false
 else
  if (!decide (a2 = (1 : Int))) = true then
   F_L8_read_t23 a1 x1.1 (IntKind.i64.wrap (((a1.map sc).length : Int) + (1 : Int)))
  else
   F_L8_read_t23 a1 x1.1 ((a1.map sc).length : Int)
@[reducible] def M_F_L8_read (a0 : BA) (a1 : LB) (a2 : Int) (r : Bool) : Prop :=
  Fn Tryz.prog G 10 [(.str a0), (.sl 1 false (a1.map sc)), (.int .i64 a2)] (.bool r)
theorem H_F_L8_read : PC3 M_F_L8_read F_L8_read := fun a0 a1 a2 r h => by
 rw [F_L8_read.eq_def] at h
 refine zg (T := tt) (N := 55) (rs := [.tmp 6]) (fun vs w => by simp) Tryz.func10 rfl rfl rfl rfl (by kernel_rfl) (jb rfl) (zp _ rfl) ?_
 refine kr [23] ?_
 obtain ⟨x1, hx, h⟩ := bind_some h
 refine ql (H_F_token_Tokens _ _ hx) ?_
 refine kr [23] ?_
 refine qg (fun hb => ?_) (fun hb => ?_)
 ·replace h := qx hb h
  refine kr [23] ?_
  cases h
  exact kf
 ·replace h := qy hb h
  refine kr [23] ?_
  refine qg (fun hb => ?_) (fun hb => ?_)
  ·replace h := qx hb h
   refine kr [23] ?_
   exact q7 (by kernel_rfl) rfl lA (H_F_L8_read_t23 _ _ _ _ h)
  ·replace h := qy hb h
   refine kr [23] ?_
   exact q7 (by kernel_rfl) rfl lA (H_F_L8_read_t23 _ _ _ _ h)
def F_L8_PrintTokens (a0 : Node) : Option Bool :=
 F_L8_small a0 >>= fun x1 =>
 if (!x1) = true then
  F_L8_awake >>= fun x2 =>
  some x2
 else
  F_print_Words a0 >>= fun x3 =>
  F_print_Text a0 >>= fun x4 =>
  F_print_Plain a0 >>= fun x5 =>
  if (!decide (x3.2 = x4.2)) = true then
   some false
  else
   if (!decide (x3.2 = x5.2)) = true then
    some false
   else
    F_R7_Check a0 >>= fun x6 =>
    if (!decide (x3.2 = x6)) = true then
     some false
    else
     if (!decide (x3.2 = (0 : Int))) = true then
      F_L8_awake >>= fun x7 =>
      some x7
     else
      F_L8_read x4.1 x3.1 a0.kind >>= fun x8 =>
      if x8 = true then
       F_L8_read x5.1 x3.1 a0.kind >>= fun x9 =>
       if x9 = true then
        F_L8_awake >>= fun x10 =>
        some x10
       else
        some false
      else
       some false
@[reducible] def M_F_L8_PrintTokens (a0 : Node) (r : Bool) : Prop :=
  Fn Tryz.prog G 3 [(.agg (zo a0))] (.bool r)
theorem H_F_L8_PrintTokens : PC1 M_F_L8_PrintTokens F_L8_PrintTokens := fun a0 r h => by
 rw [F_L8_PrintTokens.eq_def] at h
 refine zg (T := tt) (N := 60) (rs := [.tmp 2]) (fun vs w => by simp) Tryz.func3 rfl rfl rfl rfl (by kernel_rfl) (jb rfl) (zp _ rfl) ?_
 refine kr [] ?_
 obtain ⟨x1, hx, h⟩ := bind_some h
 refine ql (H_F_L8_small _ _ hx) ?_
 refine kr [] ?_
 refine qg (fun hb => ?_) (fun hb => ?_)
 ·replace h := qx hb h
  refine kr [] ?_
  obtain ⟨x2, hx, h⟩ := bind_some h
  refine ql (H_F_L8_awake _ hx) ?_
  refine kr [] ?_
  cases h
  exact kf
 ·replace h := qy hb h
  refine kr [] ?_
  obtain ⟨x3, hx, h⟩ := bind_some h
  refine ql (H_F_print_Words _ _ hx) ?_
  refine kr [] ?_
  obtain ⟨x4, hx, h⟩ := bind_some h
  refine ql (H_F_print_Text _ _ hx) ?_
  refine kr [] ?_
  obtain ⟨x5, hx, h⟩ := bind_some h
  refine ql (H_F_print_Plain _ _ hx) ?_
  refine kr [] ?_
  refine qr (fun hb => ?_) (fun hb => ?_)
  ·replace h := qy hb h
   refine kr [] ?_
   refine qr (fun hb => ?_) (fun hb => ?_)
   ·replace h := qy hb h
    refine kr [] ?_
    obtain ⟨x6, hx, h⟩ := bind_some h
    refine ql (H_F_R7_Check _ _ hx) ?_
    refine kr [] ?_
    refine qg (fun hb => ?_) (fun hb => ?_)
    ·replace h := qx hb h
     refine kr [] ?_
     cases h
     exact kf
    ·replace h := qy hb h
     refine kr [] ?_
     refine qg (fun hb => ?_) (fun hb => ?_)
     ·replace h := qx hb h
      refine kr [] ?_
      obtain ⟨x7, hx, h⟩ := bind_some h
      refine ql (H_F_L8_awake _ hx) ?_
      refine kr [] ?_
      cases h
      exact kf
     ·replace h := qy hb h
      refine kr [] ?_
      obtain ⟨x8, hx, h⟩ := bind_some h
      refine ql (H_F_L8_read _ _ _ _ hx) ?_
      refine kr [] ?_
      refine qm (fun hb => ?_) (fun hb => ?_)
      ·replace h := qx hb h
       refine kr [] ?_
       obtain ⟨x9, hx, h⟩ := bind_some h
       refine ql (H_F_L8_read _ _ _ _ hx) ?_
       refine kr [] ?_
       refine qm (fun hb => ?_) (fun hb => ?_)
       ·replace h := qx hb h
        refine kr [] ?_
        obtain ⟨x10, hx, h⟩ := bind_some h
        refine ql (H_F_L8_awake _ hx) ?_
        refine kr [] ?_
        cases h
        exact kf
       ·replace h := qy hb h
        refine kr [] ?_
        cases h
        exact kf
      ·replace h := qy hb h
       refine kr [] ?_
       cases h
       exact kf
   ·replace h := qx hb h
    refine kr [] ?_
    cases h
    exact kf
  ·replace h := qx hb h
   refine kr [] ?_
   cases h
   exact kf
end Go.Proofs.YtimcdpioclioiaaGreatDoorW.Ex.Gr
