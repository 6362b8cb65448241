/- The functions of the program's layer 8 and of its references, printed as functions on numbers, strings, lists and trees, with the proofs that they are what the code computes. Conditions: those in each theorem. -/
import Derived.Test.YtbdhekefhcjhaaaDoorXDa
namespace Go.Proofs.YtbdhekefhcjhaaaDoorW.Ex.Gr
open Go Go.Proofs.YtbdhekefhcjhaaaDoorW.Ex
set_option linter.all false
set_option maxRecDepth 100000
set_option synthInstance.maxSize 4000
set_option maxHeartbeats 4000000
mutual
def F_nodeT (a0 : BA) (a4 : LU) (a1 : Node) (a2 : BA) (a3 : Int) : Option (Node × BA × LU) :=
 F_grammar_Group a1.kind >>= fun x1 =>
 if (decide (x1 = (3 : Int))) = true then
  F_expressionT (qa a0) (qa a4) (qa a1) a1.kind a1.text ([] : LB) ([] : LN) (qa a3) (qa a2) >>= fun x2 =>
  F_nodeT_t23 x2.1 x2.2.1 (qa a1) a1.kind a1.text x2.2.2.1 x2.2.2.2 (qa a3)
 else
  F_grammar_Group a1.kind >>= fun x3 =>
  if (decide (x3 = (2 : Int))) = true then
   F_statementT (qa a0) (qa a4) (qa a1) a1.kind a1.text ([] : LB) ([] : LN) (qa a3) (qa a2) >>= fun x4 =>
   F_nodeT_t30 x4.1 x4.2.1 (qa a1) a1.kind a1.text x4.2.2.1 x4.2.2.2 (qa a3)
  else
   F_otherT (qa a0) (qa a4) (qa a1) a1.kind a1.text ([] : LB) ([] : LN) (qa a3) (qa a2) >>= fun x5 =>
   F_nodeT_t30 x5.1 x5.2.1 (qa a1) a1.kind a1.text x5.2.2.1 x5.2.2.2.1 x5.2.2.2.2
 partial_fixpoint
def F_expressionT (a0 : BA) (a2 : LU) (a0_n : Node) (a3 : Int) (a4 : BA) (a5 : LB) (a6 : LN) (a7 : Int) (a1 : BA) : Option (BA × LU × LB × LN) :=
 if (decide (a0_n.kind = (20 : Int))) = true then
  F_ownT (qa a0) (qa a2) (qa a0_n) (qa a3) (qa a4) (qa a5) (qa a6) (qa a7) (qa a1) a0_n.text >>= fun x6 =>
  F_ownT x6.1 x6.2.1 (qa a0_n) (qa a3) (qa a4) x6.2.2 (qa a6) (qa a7) (⟨#[]⟩ : BA) (⟨#[40]⟩ : BA) >>= fun x7 =>
  F_restT x7.1 x7.2.1 (qa a0_n) (qa a3) (qa a4) x7.2.2 (qa a6) (qa a7) >>= fun x8 =>
  some (x8.1, x8.2.1, x8.2.2.1, x8.2.2.2)
 else
  if (decide (a0_n.kind = (21 : Int))) = true then
   F_kidT (qa a0) (qa a2) (qa a0_n) (qa a3) (qa a4) (qa a5) (qa a6) (qa a7) (qa a1) >>= fun x9 =>
   F_ownT x9.1 x9.2.1 (qa a0_n) (qa a3) (qa a4) (qa a5) x9.2.2 (qa a7) (⟨#[]⟩ : BA) (⟨#[46]⟩ : BA) >>= fun x10 =>
   F_ownT x10.1 x10.2.1 (qa a0_n) (qa a3) (qa a4) x10.2.2 x9.2.2 (qa a7) (⟨#[]⟩ : BA) a0_n.text >>= fun x11 =>
   F_ownT x11.1 x11.2.1 (qa a0_n) (qa a3) (qa a4) x11.2.2 x9.2.2 (qa a7) (⟨#[]⟩ : BA) (⟨#[40]⟩ : BA) >>= fun x12 =>
   F_restT x12.1 x12.2.1 (qa a0_n) (qa a3) (qa a4) x12.2.2 x9.2.2 (qa a7) >>= fun x13 =>
   some (x13.1, x13.2.1, x13.2.2.1, x13.2.2.2)
  else
   if (decide (a0_n.kind = (22 : Int))) = true then
    F_ownT (qa a0) (qa a2) (qa a0_n) (qa a3) (qa a4) (qa a5) (qa a6) (qa a7) (qa a1) (⟨#[110, 101, 119]⟩ : BA) >>= fun x14 =>
    F_ownT x14.1 x14.2.1 (qa a0_n) (qa a3) (qa a4) x14.2.2 (qa a6) (qa a7) (⟨#[32]⟩ : BA) a0_n.text >>= fun x15 =>
    F_ownT x15.1 x15.2.1 (qa a0_n) (qa a3) (qa a4) x15.2.2 (qa a6) (qa a7) (⟨#[]⟩ : BA) (⟨#[40]⟩ : BA) >>= fun x16 =>
    F_ownT x16.1 x16.2.1 (qa a0_n) (qa a3) (qa a4) x16.2.2 (qa a6) (qa a7) (⟨#[]⟩ : BA) (⟨#[41]⟩ : BA) >>= fun x17 =>
    some (x17.1, x17.2.1, x17.2.2, a6)
   else
    if (decide (a0_n.kind = (24 : Int))) = true then
     F_kidT (qa a0) (qa a2) (qa a0_n) (qa a3) (qa a4) (qa a5) (qa a6) (qa a7) (qa a1) >>= fun x18 =>
     F_ownT x18.1 x18.2.1 (qa a0_n) (qa a3) (qa a4) (qa a5) x18.2.2 (qa a7) (⟨#[32]⟩ : BA) a0_n.text >>= fun x19 =>
     F_kidT x19.1 x19.2.1 (qa a0_n) (qa a3) (qa a4) x19.2.2 x18.2.2 (qa a7) (⟨#[32]⟩ : BA) >>= fun x20 =>
     some (x20.1, x20.2.1, x19.2.2, x20.2.2)
    else
     if (decide (a0_n.kind = (25 : Int))) = true then
      F_ownT (qa a0) (qa a2) (qa a0_n) (qa a3) (qa a4) (qa a5) (qa a6) (qa a7) (qa a1) a0_n.text >>= fun x21 =>
      F_kidT x21.1 x21.2.1 (qa a0_n) (qa a3) (qa a4) x21.2.2 (qa a6) (qa a7) (⟨#[]⟩ : BA) >>= fun x22 =>
      some (x22.1, x22.2.1, x21.2.2, x22.2.2)
     else
      if (decide (a0_n.kind = (26 : Int))) = true then
       F_ownT (qa a0) (qa a2) (qa a0_n) (qa a3) (qa a4) (qa a5) (qa a6) (qa a7) (qa a1) (⟨#[40]⟩ : BA) >>= fun x23 =>
       F_kidT x23.1 x23.2.1 (qa a0_n) (qa a3) (qa a4) x23.2.2 (qa a6) (qa a7) (⟨#[]⟩ : BA) >>= fun x24 =>
       F_ownT x24.1 x24.2.1 (qa a0_n) (qa a3) (qa a4) x23.2.2 x24.2.2 (qa a7) (⟨#[]⟩ : BA) (⟨#[41]⟩ : BA) >>= fun x25 =>
       some (x25.1, x25.2.1, x25.2.2, x24.2.2)
      else
       F_ownT (qa a0) (qa a2) (qa a0_n) (qa a3) (qa a4) (qa a5) (qa a6) (qa a7) (qa a1) a0_n.text >>= fun x26 =>
       some (x26.1, x26.2.1, x26.2.2, a6)
 partial_fixpoint
def F_statementT (a0 : BA) (a2 : LU) (a0_n : Node) (a3 : Int) (a4 : BA) (a5 : LB) (a6 : LN) (a7 : Int) (a1 : BA) : Option (BA × LU × LB × LN) :=
 if (decide (a0_n.kind = (10 : Int))) = true then
  F_namedT (qa a0) (qa a2) (qa a0_n) (qa a3) (qa a4) (qa a5) (qa a6) (qa a7) (qa a1) (⟨#[108, 101, 116]⟩ : BA) >>= fun x27 =>
  some (x27.1, x27.2.1, x27.2.2.1, x27.2.2.2)
 else
  if (decide (a0_n.kind = (11 : Int))) = true then
   F_ownT (qa a0) (qa a2) (qa a0_n) (qa a3) (qa a4) (qa a5) (qa a6) (qa a7) (qa a1) a0_n.text >>= fun x28 =>
   F_ownT x28.1 x28.2.1 (qa a0_n) (qa a3) (qa a4) x28.2.2 (qa a6) (qa a7) (⟨#[32]⟩ : BA) (⟨#[61]⟩ : BA) >>= fun x29 =>
   F_kidT x29.1 x29.2.1 (qa a0_n) (qa a3) (qa a4) x29.2.2 (qa a6) (qa a7) (⟨#[32]⟩ : BA) >>= fun x30 =>
   F_ownT x30.1 x30.2.1 (qa a0_n) (qa a3) (qa a4) x29.2.2 x30.2.2 (qa a7) (⟨#[]⟩ : BA) (⟨#[59]⟩ : BA) >>= fun x31 =>
   some (x31.1, x31.2.1, x31.2.2, x30.2.2)
  else
   if (decide (a0_n.kind = (12 : Int))) = true then
    F_ownT (qa a0) (qa a2) (qa a0_n) (qa a3) (qa a4) (qa a5) (qa a6) (qa a7) (qa a1) (⟨#[114, 101, 116, 117, 114, 110]⟩ : BA) >>= fun x32 =>
    F_kidT x32.1 x32.2.1 (qa a0_n) (qa a3) (qa a4) x32.2.2 (qa a6) (qa a7) (⟨#[32]⟩ : BA) >>= fun x33 =>
    F_ownT x33.1 x33.2.1 (qa a0_n) (qa a3) (qa a4) x32.2.2 x33.2.2 (qa a7) (⟨#[]⟩ : BA) (⟨#[59]⟩ : BA) >>= fun x34 =>
    some (x34.1, x34.2.1, x34.2.2, x33.2.2)
   else
    if (decide (a0_n.kind = (13 : Int))) = true then
     if (decide (a0_n.kind = (15 : Int))) = true then
      F_statementT_t53 (qa a1) (⟨#[119, 104, 105, 108, 101]⟩ : BA) (qa a0_n) (qa a3) (qa a4) (qa a5) (qa a6) (qa a7) (qa a0) (qa a2)
     else
      F_statementT_t53 (qa a1) (⟨#[105, 102]⟩ : BA) (qa a0_n) (qa a3) (qa a4) (qa a5) (qa a6) (qa a7) (qa a0) (qa a2)
    else
     if (decide (a0_n.kind = (15 : Int))) = true then
      if (decide (a0_n.kind = (15 : Int))) = true then
       F_statementT_t53 (qa a1) (⟨#[119, 104, 105, 108, 101]⟩ : BA) (qa a0_n) (qa a3) (qa a4) (qa a5) (qa a6) (qa a7) (qa a0) (qa a2)
      else
       F_statementT_t53 (qa a1) (⟨#[105, 102]⟩ : BA) (qa a0_n) (qa a3) (qa a4) (qa a5) (qa a6) (qa a7) (qa a0) (qa a2)
     else
      F_kidT (qa a0) (qa a2) (qa a0_n) (qa a3) (qa a4) (qa a5) (qa a6) (qa a7) (qa a1) >>= fun x35 =>
      F_ownT x35.1 x35.2.1 (qa a0_n) (qa a3) (qa a4) (qa a5) x35.2.2 (qa a7) (⟨#[]⟩ : BA) (⟨#[59]⟩ : BA) >>= fun x36 =>
      some (x36.1, x36.2.1, x36.2.2, x35.2.2)
 partial_fixpoint
def F_otherT (a0 : BA) (a2 : LU) (a0_n : Node) (a3 : Int) (a4 : BA) (a5 : LB) (a6 : LN) (a7 : Int) (a1 : BA) : Option (BA × LU × LB × LN × Int) :=
 if (decide (a0_n.kind = (1 : Int))) = true then
  F_otherT_l0 a0_n.kids 0 (qa a1) (qa a0_n) (qa a3) (qa a4) (qa a5) (qa a6) (qa a7) (qa a0) (qa a2)
 else
  if (decide (a0_n.kind = (2 : Int))) = true then
   F_ownT (qa a0) (qa a2) (qa a0_n) (qa a3) (qa a4) (qa a5) (qa a6) (qa a7) (qa a1) (⟨#[102, 110]⟩ : BA) >>= fun x37 =>
   F_ownT x37.1 x37.2.1 (qa a0_n) (qa a3) (qa a4) x37.2.2 (qa a6) (qa a7) (⟨#[32]⟩ : BA) a0_n.text >>= fun x38 =>
   F_kidT x38.1 x38.2.1 (qa a0_n) (qa a3) (qa a4) x38.2.2 (qa a6) (qa a7) (⟨#[]⟩ : BA) >>= fun x39 =>
   F_kidT x39.1 x39.2.1 (qa a0_n) (qa a3) (qa a4) x38.2.2 x39.2.2 (qa a7) (⟨#[32]⟩ : BA) >>= fun x40 =>
   F_kidT x40.1 x40.2.1 (qa a0_n) (qa a3) (qa a4) x38.2.2 x40.2.2 (qa a7) (⟨#[32]⟩ : BA) >>= fun x41 =>
   some (x41.1, x41.2.1, x38.2.2, x41.2.2, a7)
  else
   if (decide (a0_n.kind = (3 : Int))) = true then
    F_ownT (qa a0) (qa a2) (qa a0_n) (qa a3) (qa a4) (qa a5) (qa a6) (qa a7) (qa a1) (⟨#[40]⟩ : BA) >>= fun x42 =>
    F_restT x42.1 x42.2.1 (qa a0_n) (qa a3) (qa a4) x42.2.2 (qa a6) (qa a7) >>= fun x43 =>
    some (x43.1, x43.2.1, x43.2.2.1, x43.2.2.2, a7)
   else
    if (decide (a0_n.kind = (4 : Int))) = true then
     F_ownT (qa a0) (qa a2) (qa a0_n) (qa a3) (qa a4) (qa a5) (qa a6) (qa a7) (qa a1) a0_n.text >>= fun x44 =>
     F_kidT x44.1 x44.2.1 (qa a0_n) (qa a3) (qa a4) x44.2.2 (qa a6) (qa a7) (⟨#[32]⟩ : BA) >>= fun x45 =>
     some (x45.1, x45.2.1, x44.2.2, x45.2.2, a7)
    else
     if (decide (a0_n.kind = (5 : Int))) = true then
      F_ownT (qa a0) (qa a2) (qa a0_n) (qa a3) (qa a4) (qa a5) (qa a6) (qa a7) (qa a1) a0_n.text >>= fun x46 =>
      some (x46.1, x46.2.1, x46.2.2, a6, a7)
     else
      if (decide (a0_n.kind = (6 : Int))) = true then
       F_ownT (qa a0) (qa a2) (qa a0_n) (qa a3) (qa a4) (qa a5) (qa a6) (qa a7) (qa a1) (⟨#[123]⟩ : BA) >>= fun x47 =>
       F_bodyT x47.1 x47.2.1 (qa a0_n) (qa a3) (qa a4) x47.2.2 (qa a6) (qa a7) (0 : Int) >>= fun x48 =>
       some (x48.1, x48.2.1, x48.2.2.1, x48.2.2.2.1, x48.2.2.2.2)
      else
       if (decide (a0_n.kind = (7 : Int))) = true then
        F_ownT (qa a0) (qa a2) (qa a0_n) (qa a3) (qa a4) (qa a5) (qa a6) (qa a7) (qa a1) (⟨#[99, 108, 97, 115, 115]⟩ : BA) >>= fun x49 =>
        F_ownT x49.1 x49.2.1 (qa a0_n) (qa a3) (qa a4) x49.2.2 (qa a6) (qa a7) (⟨#[32]⟩ : BA) a0_n.text >>= fun x50 =>
        F_kidT x50.1 x50.2.1 (qa a0_n) (qa a3) (qa a4) x50.2.2 (qa a6) (qa a7) (⟨#[32]⟩ : BA) >>= fun x51 =>
        F_ownT x51.1 x51.2.1 (qa a0_n) (qa a3) (qa a4) x50.2.2 x51.2.2 (qa a7) (⟨#[32]⟩ : BA) (⟨#[123]⟩ : BA) >>= fun x52 =>
        F_bodyT x52.1 x52.2.1 (qa a0_n) (qa a3) (qa a4) x52.2.2 x51.2.2 (qa a7) (1 : Int) >>= fun x53 =>
        some (x53.1, x53.2.1, x53.2.2.1, x53.2.2.2.1, x53.2.2.2.2)
       else
        if (decide (a0_n.kind = (8 : Int))) = true then
         if (!decide (a0_n.text = (⟨#[]⟩ : BA))) = true then
          F_ownT (qa a0) (qa a2) (qa a0_n) (qa a3) (qa a4) (qa a5) (qa a6) (qa a7) (qa a1) (⟨#[58]⟩ : BA) >>= fun x54 =>
          F_ownT x54.1 x54.2.1 (qa a0_n) (qa a3) (qa a4) x54.2.2 (qa a6) (qa a7) (⟨#[32]⟩ : BA) a0_n.text >>= fun x55 =>
          some (x55.1, x55.2.1, x55.2.2, a6, a7)
         else
          some (a0, a2, a5, a6, a7)
        else
         if (decide (a0_n.kind = (9 : Int))) = true then
          F_namedT (qa a0) (qa a2) (qa a0_n) (qa a3) (qa a4) (qa a5) (qa a6) (qa a7) (qa a1) (⟨#[99, 111, 110, 115, 116]⟩ : BA) >>= fun x56 =>
          some (x56.1, x56.2.1, x56.2.2.1, x56.2.2.2, a7)
         else
          if (decide (a0_n.kind = (14 : Int))) = true then
           if (decide ((0 : Int) < ((a0_n.kids.map Node.cells).length : Int))) = true then
            F_ownT (qa a0) (qa a2) (qa a0_n) (qa a3) (qa a4) (qa a5) (qa a6) (qa a7) (qa a1) (⟨#[101, 108, 115, 101]⟩ : BA) >>= fun x57 =>
            F_kidT x57.1 x57.2.1 (qa a0_n) (qa a3) (qa a4) x57.2.2 (qa a6) (qa a7) (⟨#[32]⟩ : BA) >>= fun x58 =>
            some (x58.1, x58.2.1, x57.2.2, x58.2.2, a7)
           else
            some (a0, a2, a5, a6, a7)
          else
           some (a0, a2, a5, a6, a7)
 partial_fixpoint
def F_restT (a0 : BA) (a1 : LU) (a0_n : Node) (a2 : Int) (a3 : BA) (a4 : LB) (a5 : LN) (a6 : Int) : Option (BA × LU × LB × LN) :=
 F_restT_l0 (qa true) (qa a0_n) (qa a2) (qa a3) (qa a4) (qa a5) (qa a6) (qa a0) (qa a1)
 partial_fixpoint
def F_kidT (a0 : BA) (a2 : LU) (a0_n : Node) (a3 : Int) (a4 : BA) (a5 : LB) (a6 : LN) (a7 : Int) (a1 : BA) : Option (BA × LU × LN) :=
 ix a0_n.kids (a6.length : Int) >>= fun x59 =>
 F_nodeT (qa a0) (qa a2) (qa x59) (qa a1) (qa a7) >>= fun x60 =>
 app 72 a6 [x60.1] >>= fun x61 =>
 some (x60.2.1, x60.2.2, x61)
 partial_fixpoint
def F_namedT (a0 : BA) (a3 : LU) (a0_n : Node) (a4 : Int) (a5 : BA) (a6 : LB) (a7 : LN) (a8 : Int) (a1 : BA) (a2 : BA) : Option (BA × LU × LB × LN) :=
 F_ownT (qa a0) (qa a3) (qa a0_n) (qa a4) (qa a5) (qa a6) (qa a7) (qa a8) (qa a1) (qa a2) >>= fun x62 =>
 F_ownT x62.1 x62.2.1 (qa a0_n) (qa a4) (qa a5) x62.2.2 (qa a7) (qa a8) (⟨#[32]⟩ : BA) a0_n.text >>= fun x63 =>
 F_ownT x63.1 x63.2.1 (qa a0_n) (qa a4) (qa a5) x63.2.2 (qa a7) (qa a8) (⟨#[32]⟩ : BA) (⟨#[61]⟩ : BA) >>= fun x64 =>
 F_kidT x64.1 x64.2.1 (qa a0_n) (qa a4) (qa a5) x64.2.2 (qa a7) (qa a8) (⟨#[32]⟩ : BA) >>= fun x65 =>
 F_ownT x65.1 x65.2.1 (qa a0_n) (qa a4) (qa a5) x64.2.2 x65.2.2 (qa a8) (⟨#[]⟩ : BA) (⟨#[59]⟩ : BA) >>= fun x66 =>
 some (x66.1, x66.2.1, x66.2.2, x65.2.2)
 partial_fixpoint
def F_bodyT (a0 : BA) (a2 : LU) (a0_n : Node) (a3 : Int) (a4 : BA) (a5 : LB) (a6 : LN) (a7 : Int) (a1 : Int) : Option (BA × LU × LB × LN × Int) :=
 F_bodyT_l0 (qa a1) (qa a0_n) (qa a3) (qa a4) (qa a5) (qa a6) (IntKind.i64.wrap (a7 + (1 : Int))) (qa a0) (qa a2)
 partial_fixpoint
def F_statementT_t53 (t1 : BA) (t4 : BA) (o0_1 : Node) (a0 : Int) (a1 : BA) (a2 : LB) (a3 : LN) (o0_3 : Int) (o2 : BA) (o3_1 : LU) : Option (BA × LU × LB × LN) :=
 F_ownT (qa o2) (qa o3_1) (qa o0_1) (qa a0) (qa a1) (qa a2) (qa a3) (qa o0_3) (qa t1) (qa t4) >>= fun x67 =>
 F_statementT_l0 o0_1.kids (qa o0_1) (qa a0) (qa a1) x67.2.2 (qa a3) (qa o0_3) x67.1 x67.2.1
 partial_fixpoint
def F_otherT_l0 (a0 : LN) (j0 : Nat) (t1 : BA) (o0_1 : Node) (a1 : Int) (a2 : BA) (a3 : LB) (a4 : LN) (o0_3 : Int) (o2 : BA) (o3_1 : LU) : Option (BA × LU × LB × LN × Int) :=
 match a0 with
 | [] =>
   if (decide ((0 : Int) < ((o0_1.kids.map Node.cells).length : Int))) = true then
    F_otherT_t33 (⟨#[10]⟩ : BA) (qa o0_1) (qa a1) (qa a2) (qa a3) (qa a4) (qa o0_3) (qa o2) (qa o3_1)
   else
    F_otherT_t33 (qa t1) (qa o0_1) (qa a1) (qa a2) (qa a3) (qa a4) (qa o0_3) (qa o2) (qa o3_1)
 | x_0 :: a0 =>
   if (decide ((0 : Int) < ((j0 : Nat) : Int))) = true then
    F_otherT_t22 (qa a0) (qa j0) (⟨#[10, 10]⟩ : BA) (qa o0_1) (qa a1) (qa a2) (qa a3) (qa a4) (qa o0_3) (qa o2) (qa o3_1)
   else
    F_otherT_t22 (qa a0) (qa j0) (qa t1) (qa o0_1) (qa a1) (qa a2) (qa a3) (qa a4) (qa o0_3) (qa o2) (qa o3_1)
 partial_fixpoint
def F_restT_l0 (t2 : Bool) (o0_1 : Node) (a0 : Int) (a1 : BA) (a2 : LB) (a3 : LN) (o0_3 : Int) (o2 : BA) (o3_1 : LU) : Option (BA × LU × LB × LN) :=
 if (decide ((a3.length : Int) < ((o0_1.kids.map Node.cells).length : Int))) = true then
  if t2 = true then
   F_kidT (qa o2) (qa o3_1) (qa o0_1) (qa a0) (qa a1) (qa a2) (qa a3) (qa o0_3) (⟨#[]⟩ : BA) >>= fun x68 =>
   F_restT_b1 (qa o0_1) (qa a0) (qa a1) (qa a2) x68.2.2 (qa o0_3) x68.1 x68.2.1
  else
   F_ownT (qa o2) (qa o3_1) (qa o0_1) (qa a0) (qa a1) (qa a2) (qa a3) (qa o0_3) (⟨#[]⟩ : BA) (⟨#[44]⟩ : BA) >>= fun x69 =>
   F_kidT x69.1 x69.2.1 (qa o0_1) (qa a0) (qa a1) x69.2.2 (qa a3) (qa o0_3) (⟨#[32]⟩ : BA) >>= fun x70 =>
   F_restT_b1 (qa o0_1) (qa a0) (qa a1) x69.2.2 x70.2.2 (qa o0_3) x70.1 x70.2.1
 else
  F_ownT (qa o2) (qa o3_1) (qa o0_1) (qa a0) (qa a1) (qa a2) (qa a3) (qa o0_3) (⟨#[]⟩ : BA) (⟨#[41]⟩ : BA) >>= fun x71 =>
  some (x71.1, x71.2.1, x71.2.2, a3)
 partial_fixpoint
def F_bodyT_l0 (t1 : Int) (o0_1 : Node) (a0 : Int) (a1 : BA) (a2 : LB) (a3 : LN) (o0_3 : Int) (o2 : BA) (o3_1 : LU) : Option (BA × LU × LB × LN × Int) :=
 if (decide ((a3.length : Int) < ((o0_1.kids.map Node.cells).length : Int))) = true then
  F_print_line (qa o0_3) >>= fun x72 =>
  F_kidT (qa o2) (qa o3_1) (qa o0_1) (qa a0) (qa a1) (qa a2) (qa a3) (qa o0_3) (qa x72) >>= fun x73 =>
  F_bodyT_l0 (qa t1) (qa o0_1) (qa a0) (qa a1) (qa a2) x73.2.2 (qa o0_3) x73.1 x73.2.1
 else
  if (decide (t1 < ((o0_1.kids.map Node.cells).length : Int))) = true then
   F_print_line (IntKind.i64.wrap (o0_3 - (1 : Int))) >>= fun x74 =>
   F_ownT (qa o2) (qa o3_1) (qa o0_1) (qa a0) (qa a1) (qa a2) (qa a3) (IntKind.i64.wrap (o0_3 - (1 : Int))) (qa x74) (⟨#[125]⟩ : BA) >>= fun x75 =>
   some (x75.1, x75.2.1, x75.2.2, a3, (IntKind.i64.wrap (o0_3 - (1 : Int))))
  else
   F_ownT (qa o2) (qa o3_1) (qa o0_1) (qa a0) (qa a1) (qa a2) (qa a3) (IntKind.i64.wrap (o0_3 - (1 : Int))) (⟨#[]⟩ : BA) (⟨#[125]⟩ : BA) >>= fun x76 =>
   some (x76.1, x76.2.1, x76.2.2, a3, (IntKind.i64.wrap (o0_3 - (1 : Int))))
 partial_fixpoint
def F_statementT_l0 (a0 : LN) (o0_1 : Node) (a1 : Int) (a2 : BA) (a3 : LB) (a4 : LN) (o0_3 : Int) (o2 : BA) (o3_1 : LU) : Option (BA × LU × LB × LN) :=
 match a0 with
 | [] =>
   some (o2, o3_1, a3, a4)
 | x_0 :: a0 =>
   F_kidT (qa o2) (qa o3_1) (qa o0_1) (qa a1) (qa a2) (qa a3) (qa a4) (qa o0_3) (⟨#[32]⟩ : BA) >>= fun x77 =>
   F_statementT_l0 (qa a0) (qa o0_1) (qa a1) (qa a2) (qa a3) x77.2.2 (qa o0_3) x77.1 x77.2.1
 partial_fixpoint
def F_otherT_t22 (a0 : LN) (j0 : Nat) (t1 : BA) (o0_1 : Node) (a1 : Int) (a2 : BA) (a3 : LB) (a4 : LN) (o0_3 : Int) (o2 : BA) (o3_1 : LU) : Option (BA × LU × LB × LN × Int) :=
 F_kidT (qa o2) (qa o3_1) (qa o0_1) (qa a1) (qa a2) (qa a3) (qa a4) (qa o0_3) (qa t1) >>= fun x79 =>
 F_otherT_l0 (qa a0) (j0 + 1) (qa t1) (qa o0_1) (qa a1) (qa a2) (qa a3) x79.2.2 (qa o0_3) x79.1 x79.2.1
 partial_fixpoint
def F_restT_b1 (o0_1 : Node) (a0 : Int) (a1 : BA) (a2 : LB) (a3 : LN) (o0_3 : Int) (o2 : BA) (o3_1 : LU) : Option (BA × LU × LB × LN) :=
 F_restT_l0 (qa false) (qa o0_1) (qa a0) (qa a1) (qa a2) (qa a3) (qa o0_3) (qa o2) (qa o3_1)
 partial_fixpoint
end
@[reducible] def M_F_nodeT (a0 : BA) (a4 : LU) (a1 : Node) (a2 : BA) (a3 : Int) (r : Node × BA × LU) : Prop :=
  AC Tryd.prog G 22 [(.ptr 0 0 0), (.agg (zk a1)), (.str a2), (.int .i64 a3)] 4 [(0, .var 45 [(.fn 23 [(.ptr 1 1 0), (.ptr 2 2 0)])]), (1, .var 9 [(.str a0)]), (2, .var 50 [(.optr 2 2 0), (.bs 1 3 3 0 a4.length)]), (3, .row 5 (a4.map c8).flatten)] (.agg (zk r.1)) 5 [(0, .var 45 [(.fn 23 [(.ptr 1 1 0), (.ptr 2 2 0)])]), (1, .var 9 [(.str r.2.1)]), (2, .var 50 [(.optr 2 2 0), (.bs 1 3 4 0 r.2.2.length)]), (4, .row 5 (r.2.2.map c8).flatten)]
@[reducible] def M_F_expressionT (a0 : BA) (a2 : LU) (a0_n : Node) (a3 : Int) (a4 : BA) (a5 : LB) (a6 : LN) (a7 : Int) (a1 : BA) (r : BA × LU × LB × LN) : Prop :=
  AC Tryd.prog G 41 [(.ptr 0 0 0), (.str a1)] 7 [(0, .var 67 [(.ptr 1 1 0), (.int .i64 a0_n.kind), (.str a0_n.text), (.sl 1 false (a0_n.gaps.map sc)), (.sl 4 false (a0_n.kids.map Node.cells)), (.int .i64 a3), (.str a4), (.bs 1 5 5 0 a5.length), (.bs 4 6 6 0 a6.length), (.int .i64 a7)]), (1, .var 45 [(.fn 23 [(.ptr 2 2 0), (.ptr 3 3 0)])]), (2, .var 9 [(.str a0)]), (3, .var 50 [(.optr 3 3 0), (.bs 1 4 4 0 a2.length)]), (4, .row 5 (a2.map c8).flatten), (5, .row 9 (a5.map sc).flatten), (6, .row 25 (a6.map Node.cells).flatten)] (.tup []) 10 [(0, .var 67 [(.ptr 1 1 0), (.int .i64 a0_n.kind), (.str a0_n.text), (.sl 1 false (a0_n.gaps.map sc)), (.sl 4 false (a0_n.kids.map Node.cells)), (.int .i64 a3), (.str a4), (.bs 1 5 8 0 r.2.2.1.length), (.bs 4 6 9 0 r.2.2.2.length), (.int .i64 a7)]), (1, .var 45 [(.fn 23 [(.ptr 2 2 0), (.ptr 3 3 0)])]), (2, .var 9 [(.str r.1)]), (3, .var 50 [(.optr 3 3 0), (.bs 1 4 7 0 r.2.1.length)]), (7, .row 5 (r.2.1.map c8).flatten), (8, .row 9 (r.2.2.1.map sc).flatten), (9, .row 25 (r.2.2.2.map Node.cells).flatten)]
@[reducible] def M_F_statementT (a0 : BA) (a2 : LU) (a0_n : Node) (a3 : Int) (a4 : BA) (a5 : LB) (a6 : LN) (a7 : Int) (a1 : BA) (r : BA × LU × LB × LN) : Prop :=
  AC Tryd.prog G 42 [(.ptr 0 0 0), (.str a1)] 7 [(0, .var 67 [(.ptr 1 1 0), (.int .i64 a0_n.kind), (.str a0_n.text), (.sl 1 false (a0_n.gaps.map sc)), (.sl 4 false (a0_n.kids.map Node.cells)), (.int .i64 a3), (.str a4), (.bs 1 5 5 0 a5.length), (.bs 4 6 6 0 a6.length), (.int .i64 a7)]), (1, .var 45 [(.fn 23 [(.ptr 2 2 0), (.ptr 3 3 0)])]), (2, .var 9 [(.str a0)]), (3, .var 50 [(.optr 3 3 0), (.bs 1 4 4 0 a2.length)]), (4, .row 5 (a2.map c8).flatten), (5, .row 9 (a5.map sc).flatten), (6, .row 25 (a6.map Node.cells).flatten)] (.tup []) 10 [(0, .var 67 [(.ptr 1 1 0), (.int .i64 a0_n.kind), (.str a0_n.text), (.sl 1 false (a0_n.gaps.map sc)), (.sl 4 false (a0_n.kids.map Node.cells)), (.int .i64 a3), (.str a4), (.bs 1 5 8 0 r.2.2.1.length), (.bs 4 6 9 0 r.2.2.2.length), (.int .i64 a7)]), (1, .var 45 [(.fn 23 [(.ptr 2 2 0), (.ptr 3 3 0)])]), (2, .var 9 [(.str r.1)]), (3, .var 50 [(.optr 3 3 0), (.bs 1 4 7 0 r.2.1.length)]), (7, .row 5 (r.2.1.map c8).flatten), (8, .row 9 (r.2.2.1.map sc).flatten), (9, .row 25 (r.2.2.2.map Node.cells).flatten)]
@[reducible] def M_F_otherT (a0 : BA) (a2 : LU) (a0_n : Node) (a3 : Int) (a4 : BA) (a5 : LB) (a6 : LN) (a7 : Int) (a1 : BA) (r : BA × LU × LB × LN × Int) : Prop :=
  AC Tryd.prog G 43 [(.ptr 0 0 0), (.str a1)] 7 [(0, .var 67 [(.ptr 1 1 0), (.int .i64 a0_n.kind), (.str a0_n.text), (.sl 1 false (a0_n.gaps.map sc)), (.sl 4 false (a0_n.kids.map Node.cells)), (.int .i64 a3), (.str a4), (.bs 1 5 5 0 a5.length), (.bs 4 6 6 0 a6.length), (.int .i64 a7)]), (1, .var 45 [(.fn 23 [(.ptr 2 2 0), (.ptr 3 3 0)])]), (2, .var 9 [(.str a0)]), (3, .var 50 [(.optr 3 3 0), (.bs 1 4 4 0 a2.length)]), (4, .row 5 (a2.map c8).flatten), (5, .row 9 (a5.map sc).flatten), (6, .row 25 (a6.map Node.cells).flatten)] (.tup []) 10 [(0, .var 67 [(.ptr 1 1 0), (.int .i64 a0_n.kind), (.str a0_n.text), (.sl 1 false (a0_n.gaps.map sc)), (.sl 4 false (a0_n.kids.map Node.cells)), (.int .i64 a3), (.str a4), (.bs 1 5 8 0 r.2.2.1.length), (.bs 4 6 9 0 r.2.2.2.1.length), (.int .i64 r.2.2.2.2)]), (1, .var 45 [(.fn 23 [(.ptr 2 2 0), (.ptr 3 3 0)])]), (2, .var 9 [(.str r.1)]), (3, .var 50 [(.optr 3 3 0), (.bs 1 4 7 0 r.2.1.length)]), (7, .row 5 (r.2.1.map c8).flatten), (8, .row 9 (r.2.2.1.map sc).flatten), (9, .row 25 (r.2.2.2.1.map Node.cells).flatten)]
@[reducible] def M_F_restT (a0 : BA) (a1 : LU) (a0_n : Node) (a2 : Int) (a3 : BA) (a4 : LB) (a5 : LN) (a6 : Int) (r : BA × LU × LB × LN) : Prop :=
  AC Tryd.prog G 61 [(.ptr 0 0 0)] 7 [(0, .var 67 [(.ptr 1 1 0), (.int .i64 a0_n.kind), (.str a0_n.text), (.sl 1 false (a0_n.gaps.map sc)), (.sl 4 false (a0_n.kids.map Node.cells)), (.int .i64 a2), (.str a3), (.bs 1 5 5 0 a4.length), (.bs 4 6 6 0 a5.length), (.int .i64 a6)]), (1, .var 45 [(.fn 23 [(.ptr 2 2 0), (.ptr 3 3 0)])]), (2, .var 9 [(.str a0)]), (3, .var 50 [(.optr 3 3 0), (.bs 1 4 4 0 a1.length)]), (4, .row 5 (a1.map c8).flatten), (5, .row 9 (a4.map sc).flatten), (6, .row 25 (a5.map Node.cells).flatten)] (.tup []) 10 [(0, .var 67 [(.ptr 1 1 0), (.int .i64 a0_n.kind), (.str a0_n.text), (.sl 1 false (a0_n.gaps.map sc)), (.sl 4 false (a0_n.kids.map Node.cells)), (.int .i64 a2), (.str a3), (.bs 1 5 8 0 r.2.2.1.length), (.bs 4 6 9 0 r.2.2.2.length), (.int .i64 a6)]), (1, .var 45 [(.fn 23 [(.ptr 2 2 0), (.ptr 3 3 0)])]), (2, .var 9 [(.str r.1)]), (3, .var 50 [(.optr 3 3 0), (.bs 1 4 7 0 r.2.1.length)]), (7, .row 5 (r.2.1.map c8).flatten), (8, .row 9 (r.2.2.1.map sc).flatten), (9, .row 25 (r.2.2.2.map Node.cells).flatten)]
@[reducible] def M_F_kidT (a0 : BA) (a2 : LU) (a0_n : Node) (a3 : Int) (a4 : BA) (a5 : LB) (a6 : LN) (a7 : Int) (a1 : BA) (r : BA × LU × LN) : Prop :=
  AC Tryd.prog G 62 [(.ptr 0 0 0), (.str a1)] 7 [(0, .var 67 [(.ptr 1 1 0), (.int .i64 a0_n.kind), (.str a0_n.text), (.sl 1 false (a0_n.gaps.map sc)), (.sl 4 false (a0_n.kids.map Node.cells)), (.int .i64 a3), (.str a4), (.bs 1 5 5 0 a5.length), (.bs 4 6 6 0 a6.length), (.int .i64 a7)]), (1, .var 45 [(.fn 23 [(.ptr 2 2 0), (.ptr 3 3 0)])]), (2, .var 9 [(.str a0)]), (3, .var 50 [(.optr 3 3 0), (.bs 1 4 4 0 a2.length)]), (4, .row 5 (a2.map c8).flatten), (5, .row 9 (a5.map sc).flatten), (6, .row 25 (a6.map Node.cells).flatten)] (.tup []) 9 [(0, .var 67 [(.ptr 1 1 0), (.int .i64 a0_n.kind), (.str a0_n.text), (.sl 1 false (a0_n.gaps.map sc)), (.sl 4 false (a0_n.kids.map Node.cells)), (.int .i64 a3), (.str a4), (.bs 1 5 5 0 a5.length), (.bs 4 6 8 0 r.2.2.length), (.int .i64 a7)]), (1, .var 45 [(.fn 23 [(.ptr 2 2 0), (.ptr 3 3 0)])]), (2, .var 9 [(.str r.1)]), (3, .var 50 [(.optr 3 3 0), (.bs 1 4 7 0 r.2.1.length)]), (7, .row 5 (r.2.1.map c8).flatten), (5, .row 9 (a5.map sc).flatten), (8, .row 25 (r.2.2.map Node.cells).flatten)]
@[reducible] def M_F_namedT (a0 : BA) (a3 : LU) (a0_n : Node) (a4 : Int) (a5 : BA) (a6 : LB) (a7 : LN) (a8 : Int) (a1 : BA) (a2 : BA) (r : BA × LU × LB × LN) : Prop :=
  AC Tryd.prog G 63 [(.ptr 0 0 0), (.str a1), (.str a2)] 7 [(0, .var 67 [(.ptr 1 1 0), (.int .i64 a0_n.kind), (.str a0_n.text), (.sl 1 false (a0_n.gaps.map sc)), (.sl 4 false (a0_n.kids.map Node.cells)), (.int .i64 a4), (.str a5), (.bs 1 5 5 0 a6.length), (.bs 4 6 6 0 a7.length), (.int .i64 a8)]), (1, .var 45 [(.fn 23 [(.ptr 2 2 0), (.ptr 3 3 0)])]), (2, .var 9 [(.str a0)]), (3, .var 50 [(.optr 3 3 0), (.bs 1 4 4 0 a3.length)]), (4, .row 5 (a3.map c8).flatten), (5, .row 9 (a6.map sc).flatten), (6, .row 25 (a7.map Node.cells).flatten)] (.tup []) 10 [(0, .var 67 [(.ptr 1 1 0), (.int .i64 a0_n.kind), (.str a0_n.text), (.sl 1 false (a0_n.gaps.map sc)), (.sl 4 false (a0_n.kids.map Node.cells)), (.int .i64 a4), (.str a5), (.bs 1 5 8 0 r.2.2.1.length), (.bs 4 6 9 0 r.2.2.2.length), (.int .i64 a8)]), (1, .var 45 [(.fn 23 [(.ptr 2 2 0), (.ptr 3 3 0)])]), (2, .var 9 [(.str r.1)]), (3, .var 50 [(.optr 3 3 0), (.bs 1 4 7 0 r.2.1.length)]), (7, .row 5 (r.2.1.map c8).flatten), (8, .row 9 (r.2.2.1.map sc).flatten), (9, .row 25 (r.2.2.2.map Node.cells).flatten)]
@[reducible] def M_F_bodyT (a0 : BA) (a2 : LU) (a0_n : Node) (a3 : Int) (a4 : BA) (a5 : LB) (a6 : LN) (a7 : Int) (a1 : Int) (r : BA × LU × LB × LN × Int) : Prop :=
  AC Tryd.prog G 64 [(.ptr 0 0 0), (.int .i64 a1)] 7 [(0, .var 67 [(.ptr 1 1 0), (.int .i64 a0_n.kind), (.str a0_n.text), (.sl 1 false (a0_n.gaps.map sc)), (.sl 4 false (a0_n.kids.map Node.cells)), (.int .i64 a3), (.str a4), (.bs 1 5 5 0 a5.length), (.bs 4 6 6 0 a6.length), (.int .i64 a7)]), (1, .var 45 [(.fn 23 [(.ptr 2 2 0), (.ptr 3 3 0)])]), (2, .var 9 [(.str a0)]), (3, .var 50 [(.optr 3 3 0), (.bs 1 4 4 0 a2.length)]), (4, .row 5 (a2.map c8).flatten), (5, .row 9 (a5.map sc).flatten), (6, .row 25 (a6.map Node.cells).flatten)] (.tup []) 10 [(0, .var 67 [(.ptr 1 1 0), (.int .i64 a0_n.kind), (.str a0_n.text), (.sl 1 false (a0_n.gaps.map sc)), (.sl 4 false (a0_n.kids.map Node.cells)), (.int .i64 a3), (.str a4), (.bs 1 5 8 0 r.2.2.1.length), (.bs 4 6 9 0 r.2.2.2.1.length), (.int .i64 r.2.2.2.2)]), (1, .var 45 [(.fn 23 [(.ptr 2 2 0), (.ptr 3 3 0)])]), (2, .var 9 [(.str r.1)]), (3, .var 50 [(.optr 3 3 0), (.bs 1 4 7 0 r.2.1.length)]), (7, .row 5 (r.2.1.map c8).flatten), (8, .row 9 (r.2.2.1.map sc).flatten), (9, .row 25 (r.2.2.2.1.map Node.cells).flatten)]
@[reducible] def M_F_statementT_t53 (t1 : BA) (t4 : BA) (o0_1 : Node) (a0 : Int) (a1 : BA) (a2 : LB) (a3 : LN) (o0_3 : Int) (o2 : BA) (o3_1 : LU) (r : BA × LU × LB × LN) : Prop :=
  Ok Tryd.prog G tt 69 7 (Ret Tryd.prog [] (fun y H => j3 Tryd.prog G 7 H y (.tup []) ⟨10, [(0, .var 67 [(.ptr 1 1 0), (.int .i64 o0_1.kind), (.str o0_1.text), (.sl 1 false (o0_1.gaps.map sc)), (.sl 4 false (o0_1.kids.map Node.cells)), (.int .i64 a0), (.str a1), (.bs 1 5 8 0 r.2.2.1.length), (.bs 4 6 9 0 r.2.2.2.length), (.int .i64 o0_3)]), (1, .var 45 [(.fn 23 [(.ptr 2 2 0), (.ptr 3 3 0)])]), (2, .var 9 [(.str r.1)]), (3, .var 50 [(.optr 3 3 0), (.bs 1 4 7 0 r.2.1.length)]), (7, .row 5 (r.2.1.map c8).flatten), (8, .row 9 (r.2.2.1.map sc).flatten), (9, .row 25 (r.2.2.2.map Node.cells).flatten)]⟩)) (.go [] (yq [53] Tryd.f42 53) [] (.n (.ptr 0 0 0) (.n (.str t1) .z .z) (.n .undef (.n (.str t4) .z .z) .z)) 10 [(0, .var 67 [(.ptr 1 1 0), (.int .i64 o0_1.kind), (.str o0_1.text), (.sl 1 false (o0_1.gaps.map sc)), (.sl 4 false (o0_1.kids.map Node.cells)), (.int .i64 a0), (.str a1), (.bs 1 5 8 0 a2.length), (.bs 4 6 9 0 a3.length), (.int .i64 o0_3)]), (1, .var 45 [(.fn 23 [(.ptr 2 2 0), (.ptr 3 3 0)])]), (2, .var 9 [(.str o2)]), (3, .var 50 [(.optr 3 3 0), (.bs 1 4 7 0 o3_1.length)]), (7, .row 5 (o3_1.map c8).flatten), (8, .row 9 (a2.map sc).flatten), (9, .row 25 (a3.map Node.cells).flatten)])
@[reducible] def M_F_otherT_l0 (a0 : LN) (j0 : Nat) (t1 : BA) (o0_1 : Node) (a1 : Int) (a2 : BA) (a3 : LB) (a4 : LN) (o0_3 : Int) (o2 : BA) (o3_1 : LU) (r : BA × LU × LB × LN × Int) : Prop :=
  ∀ (l0 : LN), l0.drop j0 = a0 → j0 ≤ l0.length → l0.length ≤ 9223372036854775807 → Ok Tryd.prog G tt 146 7 (Ret Tryd.prog [] (fun y H => j3 Tryd.prog G 7 H y (.tup []) ⟨10, [(0, .var 67 [(.ptr 1 1 0), (.int .i64 o0_1.kind), (.str o0_1.text), (.sl 1 false (o0_1.gaps.map sc)), (.sl 4 false (o0_1.kids.map Node.cells)), (.int .i64 a1), (.str a2), (.bs 1 5 8 0 r.2.2.1.length), (.bs 4 6 9 0 r.2.2.2.1.length), (.int .i64 r.2.2.2.2)]), (1, .var 45 [(.fn 23 [(.ptr 2 2 0), (.ptr 3 3 0)])]), (2, .var 9 [(.str r.1)]), (3, .var 50 [(.optr 3 3 0), (.bs 1 4 7 0 r.2.1.length)]), (7, .row 5 (r.2.1.map c8).flatten), (8, .row 9 (r.2.2.1.map sc).flatten), (9, .row 25 (r.2.2.2.1.map Node.cells).flatten)]⟩)) (.again (ja [22, 33] Tryd.f43 0).1 (ja [22, 33] Tryd.f43 0).2 (.n (.ptr 0 0 0) (.n (.str t1) .z (.n .undef (.n .undef (.n (.int .i64 ((l0.map Node.cells).length : Int)) .z .z) .z) .z)) (.n .undef (.n .undef (.n .undef (.n (.sl 4 false (l0.map Node.cells)) .z .z) .z) .z) (.n .undef (.n .undef (.n (.int .i64 ((j0 : Nat) : Int)) .z .z) .z) .z))) 10 [(0, .var 67 [(.ptr 1 1 0), (.int .i64 o0_1.kind), (.str o0_1.text), (.sl 1 false (o0_1.gaps.map sc)), (.sl 4 false (o0_1.kids.map Node.cells)), (.int .i64 a1), (.str a2), (.bs 1 5 8 0 a3.length), (.bs 4 6 9 0 a4.length), (.int .i64 o0_3)]), (1, .var 45 [(.fn 23 [(.ptr 2 2 0), (.ptr 3 3 0)])]), (2, .var 9 [(.str o2)]), (3, .var 50 [(.optr 3 3 0), (.bs 1 4 7 0 o3_1.length)]), (7, .row 5 (o3_1.map c8).flatten), (8, .row 9 (a3.map sc).flatten), (9, .row 25 (a4.map Node.cells).flatten)])
@[reducible] def M_F_restT_l0 (t2 : Bool) (o0_1 : Node) (a0 : Int) (a1 : BA) (a2 : LB) (a3 : LN) (o0_3 : Int) (o2 : BA) (o3_1 : LU) (r : BA × LU × LB × LN) : Prop :=
  Ok Tryd.prog G tt 25 7 (Ret Tryd.prog [] (fun y H => j3 Tryd.prog G 7 H y (.tup []) ⟨10, [(0, .var 67 [(.ptr 1 1 0), (.int .i64 o0_1.kind), (.str o0_1.text), (.sl 1 false (o0_1.gaps.map sc)), (.sl 4 false (o0_1.kids.map Node.cells)), (.int .i64 a0), (.str a1), (.bs 1 5 8 0 r.2.2.1.length), (.bs 4 6 9 0 r.2.2.2.length), (.int .i64 o0_3)]), (1, .var 45 [(.fn 23 [(.ptr 2 2 0), (.ptr 3 3 0)])]), (2, .var 9 [(.str r.1)]), (3, .var 50 [(.optr 3 3 0), (.bs 1 4 7 0 r.2.1.length)]), (7, .row 5 (r.2.1.map c8).flatten), (8, .row 9 (r.2.2.1.map sc).flatten), (9, .row 25 (r.2.2.2.map Node.cells).flatten)]⟩)) (.again (ja [1000001] Tryd.f61 0).1 (ja [1000001] Tryd.f61 0).2 (.n (.ptr 0 0 0) .z (.n (.bool t2) .z .z)) 10 [(0, .var 67 [(.ptr 1 1 0), (.int .i64 o0_1.kind), (.str o0_1.text), (.sl 1 false (o0_1.gaps.map sc)), (.sl 4 false (o0_1.kids.map Node.cells)), (.int .i64 a0), (.str a1), (.bs 1 5 8 0 a2.length), (.bs 4 6 9 0 a3.length), (.int .i64 o0_3)]), (1, .var 45 [(.fn 23 [(.ptr 2 2 0), (.ptr 3 3 0)])]), (2, .var 9 [(.str o2)]), (3, .var 50 [(.optr 3 3 0), (.bs 1 4 7 0 o3_1.length)]), (7, .row 5 (o3_1.map c8).flatten), (8, .row 9 (a2.map sc).flatten), (9, .row 25 (a3.map Node.cells).flatten)])
@[reducible] def M_F_bodyT_l0 (t1 : Int) (o0_1 : Node) (a0 : Int) (a1 : BA) (a2 : LB) (a3 : LN) (o0_3 : Int) (o2 : BA) (o3_1 : LU) (r : BA × LU × LB × LN × Int) : Prop :=
  Ok Tryd.prog G tt 55 7 (Ret Tryd.prog [] (fun y H => j3 Tryd.prog G 7 H y (.tup []) ⟨10, [(0, .var 67 [(.ptr 1 1 0), (.int .i64 o0_1.kind), (.str o0_1.text), (.sl 1 false (o0_1.gaps.map sc)), (.sl 4 false (o0_1.kids.map Node.cells)), (.int .i64 a0), (.str a1), (.bs 1 5 8 0 r.2.2.1.length), (.bs 4 6 9 0 r.2.2.2.1.length), (.int .i64 r.2.2.2.2)]), (1, .var 45 [(.fn 23 [(.ptr 2 2 0), (.ptr 3 3 0)])]), (2, .var 9 [(.str r.1)]), (3, .var 50 [(.optr 3 3 0), (.bs 1 4 7 0 r.2.1.length)]), (7, .row 5 (r.2.1.map c8).flatten), (8, .row 9 (r.2.2.1.map sc).flatten), (9, .row 25 (r.2.2.2.1.map Node.cells).flatten)]⟩)) (.again (ja [] Tryd.f64 0).1 (ja [] Tryd.f64 0).2 (.n (.ptr 0 0 0) (.n (.int .i64 t1) .z .z) .z) 10 [(0, .var 67 [(.ptr 1 1 0), (.int .i64 o0_1.kind), (.str o0_1.text), (.sl 1 false (o0_1.gaps.map sc)), (.sl 4 false (o0_1.kids.map Node.cells)), (.int .i64 a0), (.str a1), (.bs 1 5 8 0 a2.length), (.bs 4 6 9 0 a3.length), (.int .i64 o0_3)]), (1, .var 45 [(.fn 23 [(.ptr 2 2 0), (.ptr 3 3 0)])]), (2, .var 9 [(.str o2)]), (3, .var 50 [(.optr 3 3 0), (.bs 1 4 7 0 o3_1.length)]), (7, .row 5 (o3_1.map c8).flatten), (8, .row 9 (a2.map sc).flatten), (9, .row 25 (a3.map Node.cells).flatten)])
@[reducible] def M_F_statementT_l0 (a0 : LN) (o0_1 : Node) (a1 : Int) (a2 : BA) (a3 : LB) (a4 : LN) (o0_3 : Int) (o2 : BA) (o3_1 : LU) (r : BA × LU × LB × LN) : Prop :=
  ∀ (l0 : LN) (j0 : Nat), l0.drop j0 = a0 → j0 ≤ l0.length → l0.length ≤ 9223372036854775807 → Ok Tryd.prog G tt 69 7 (Ret Tryd.prog [] (fun y H => j3 Tryd.prog G 7 H y (.tup []) ⟨10, [(0, .var 67 [(.ptr 1 1 0), (.int .i64 o0_1.kind), (.str o0_1.text), (.sl 1 false (o0_1.gaps.map sc)), (.sl 4 false (o0_1.kids.map Node.cells)), (.int .i64 a1), (.str a2), (.bs 1 5 8 0 r.2.2.1.length), (.bs 4 6 9 0 r.2.2.2.length), (.int .i64 o0_3)]), (1, .var 45 [(.fn 23 [(.ptr 2 2 0), (.ptr 3 3 0)])]), (2, .var 9 [(.str r.1)]), (3, .var 50 [(.optr 3 3 0), (.bs 1 4 7 0 r.2.1.length)]), (7, .row 5 (r.2.1.map c8).flatten), (8, .row 9 (r.2.2.1.map sc).flatten), (9, .row 25 (r.2.2.2.map Node.cells).flatten)]⟩)) (.again (ja [53] Tryd.f42 0).1 (ja [53] Tryd.f42 0).2 (.n (.ptr 0 0 0) (.n .undef (.n .undef (.n .undef (.n .undef (.n .undef (.n (.int .i64 ((l0.map Node.cells).length : Int)) .z .z) .z) .z) .z) .z) .z) (.n .undef (.n .undef (.n .undef (.n .undef (.n .undef (.n (.int .i64 ((j0 : Nat) : Int)) .z .z) .z) .z) .z) .z) (.n .undef .z (.n .undef .z (.n .undef .z (.n (.sl 4 false (l0.map Node.cells)) .z .z)))))) 15 [(0, .var 67 [(.ptr 1 1 0), (.int .i64 o0_1.kind), (.str o0_1.text), (.sl 1 false (o0_1.gaps.map sc)), (.sl 4 false (o0_1.kids.map Node.cells)), (.int .i64 a1), (.str a2), (.bs 1 5 13 0 a3.length), (.bs 4 6 14 0 a4.length), (.int .i64 o0_3)]), (1, .var 45 [(.fn 23 [(.ptr 2 2 0), (.ptr 3 3 0)])]), (2, .var 9 [(.str o2)]), (3, .var 50 [(.optr 3 3 0), (.bs 1 4 12 0 o3_1.length)]), (12, .row 5 (o3_1.map c8).flatten), (13, .row 9 (a3.map sc).flatten), (14, .row 25 (a4.map Node.cells).flatten)])
@[reducible] def M_F_otherT_t22 (a0 : LN) (j0 : Nat) (t1 : BA) (o0_1 : Node) (a1 : Int) (a2 : BA) (a3 : LB) (a4 : LN) (o0_3 : Int) (o2 : BA) (o3_1 : LU) (r : BA × LU × LB × LN × Int) : Prop :=
  ∀ (l0 : LN), l0.drop (j0 + 1) = a0 → j0 + 1 ≤ l0.length → l0.length ≤ 9223372036854775807 → Ok Tryd.prog G tt 146 7 (Ret Tryd.prog [] (fun y H => j3 Tryd.prog G 7 H y (.tup []) ⟨10, [(0, .var 67 [(.ptr 1 1 0), (.int .i64 o0_1.kind), (.str o0_1.text), (.sl 1 false (o0_1.gaps.map sc)), (.sl 4 false (o0_1.kids.map Node.cells)), (.int .i64 a1), (.str a2), (.bs 1 5 8 0 r.2.2.1.length), (.bs 4 6 9 0 r.2.2.2.1.length), (.int .i64 r.2.2.2.2)]), (1, .var 45 [(.fn 23 [(.ptr 2 2 0), (.ptr 3 3 0)])]), (2, .var 9 [(.str r.1)]), (3, .var 50 [(.optr 3 3 0), (.bs 1 4 7 0 r.2.1.length)]), (7, .row 5 (r.2.1.map c8).flatten), (8, .row 9 (r.2.2.1.map sc).flatten), (9, .row 25 (r.2.2.2.1.map Node.cells).flatten)]⟩)) (.go [] (yq [22, 33] Tryd.f43 22) [] (.n (.ptr 0 0 0) (.n (.str t1) .z (.n .undef (.n .undef (.n (.int .i64 ((l0.map Node.cells).length : Int)) .z .z) .z) .z)) (.n .undef (.n .undef (.n .undef (.n (.sl 4 false (l0.map Node.cells)) .z .z) .z) .z) (.n .undef (.n .undef (.n (.int .i64 ((j0 : Nat) : Int)) .z .z) .z) .z))) 13 [(0, .var 67 [(.ptr 1 1 0), (.int .i64 o0_1.kind), (.str o0_1.text), (.sl 1 false (o0_1.gaps.map sc)), (.sl 4 false (o0_1.kids.map Node.cells)), (.int .i64 a1), (.str a2), (.bs 1 5 11 0 a3.length), (.bs 4 6 12 0 a4.length), (.int .i64 o0_3)]), (1, .var 45 [(.fn 23 [(.ptr 2 2 0), (.ptr 3 3 0)])]), (2, .var 9 [(.str o2)]), (3, .var 50 [(.optr 3 3 0), (.bs 1 4 10 0 o3_1.length)]), (10, .row 5 (o3_1.map c8).flatten), (11, .row 9 (a3.map sc).flatten), (12, .row 25 (a4.map Node.cells).flatten)])
@[reducible] def M_F_restT_b1 (o0_1 : Node) (a0 : Int) (a1 : BA) (a2 : LB) (a3 : LN) (o0_3 : Int) (o2 : BA) (o3_1 : LU) (r : BA × LU × LB × LN) : Prop :=
  Ok Tryd.prog G tt 25 7 (Ret Tryd.prog [] (fun y H => j3 Tryd.prog G 7 H y (.tup []) ⟨10, [(0, .var 67 [(.ptr 1 1 0), (.int .i64 o0_1.kind), (.str o0_1.text), (.sl 1 false (o0_1.gaps.map sc)), (.sl 4 false (o0_1.kids.map Node.cells)), (.int .i64 a0), (.str a1), (.bs 1 5 8 0 r.2.2.1.length), (.bs 4 6 9 0 r.2.2.2.length), (.int .i64 o0_3)]), (1, .var 45 [(.fn 23 [(.ptr 2 2 0), (.ptr 3 3 0)])]), (2, .var 9 [(.str r.1)]), (3, .var 50 [(.optr 3 3 0), (.bs 1 4 7 0 r.2.1.length)]), (7, .row 5 (r.2.1.map c8).flatten), (8, .row 9 (r.2.2.1.map sc).flatten), (9, .row 25 (r.2.2.2.map Node.cells).flatten)]⟩)) (.go [] (blockOf [1000001] Tryd.f61 1) [] (.n (.ptr 0 0 0) .z .z) 15 [(0, .var 67 [(.ptr 1 1 0), (.int .i64 o0_1.kind), (.str o0_1.text), (.sl 1 false (o0_1.gaps.map sc)), (.sl 4 false (o0_1.kids.map Node.cells)), (.int .i64 a0), (.str a1), (.bs 1 5 13 0 a2.length), (.bs 4 6 14 0 a3.length), (.int .i64 o0_3)]), (1, .var 45 [(.fn 23 [(.ptr 2 2 0), (.ptr 3 3 0)])]), (2, .var 9 [(.str o2)]), (3, .var 50 [(.optr 3 3 0), (.bs 1 4 12 0 o3_1.length)]), (12, .row 5 (o3_1.map c8).flatten), (13, .row 9 (a2.map sc).flatten), (14, .row 25 (a3.map Node.cells).flatten)])
theorem ALL_F_nodeT : PC5 M_F_nodeT F_nodeT ∧ PC9 M_F_otherT F_otherT ∧ PC10 M_F_namedT F_namedT ∧ PC9 M_F_kidT F_kidT ∧ PC9 M_F_bodyT F_bodyT ∧ PC9 M_F_bodyT_l0 F_bodyT_l0 ∧ PC8 M_F_restT F_restT ∧ PC9 M_F_restT_l0 F_restT_l0 ∧ PC8 M_F_restT_b1 F_restT_b1 ∧ PC11 M_F_otherT_l0 F_otherT_l0 ∧ PC11 M_F_otherT_t22 F_otherT_t22 ∧ PC9 M_F_statementT F_statementT ∧ PC10 M_F_statementT_t53 F_statementT_t53 ∧ PC9 M_F_statementT_l0 F_statementT_l0 ∧ PC9 M_F_expressionT F_expressionT := by
 refine F_nodeT.mutual_partial_correctness M_F_nodeT M_F_otherT M_F_namedT M_F_kidT M_F_bodyT M_F_bodyT_l0 M_F_restT M_F_restT_l0 M_F_restT_b1 M_F_otherT_l0 M_F_otherT_t22 M_F_statementT M_F_statementT_t53 M_F_statementT_l0 M_F_expressionT (fun F_otherT F_statementT F_expressionT H_F_otherT H_F_statementT H_F_expressionT a0 a4 a1 a2 a3 r h => ?_) (fun F_namedT F_kidT F_bodyT F_restT F_otherT_l0 H_F_namedT H_F_kidT H_F_bodyT H_F_restT H_F_otherT_l0 a0 a2 a0_n a3 a4 a5 a6 a7 a1 r h => ?_) (fun F_kidT H_F_kidT a0 a3 a0_n a4 a5 a6 a7 a8 a1 a2 r h => ?_) (fun F_nodeT H_F_nodeT a0 a2 a0_n a3 a4 a5 a6 a7 a1 r h => ?_) (fun F_bodyT_l0 H_F_bodyT_l0 a0 a2 a0_n a3 a4 a5 a6 a7 a1 r h => ?_) (fun F_kidT F_bodyT_l0 H_F_kidT H_F_bodyT_l0 t1 o0_1 a0 a1 a2 a3 o0_3 o2 o3_1 r h => ?_) (fun F_restT_l0 H_F_restT_l0 a0 a1 a0_n a2 a3 a4 a5 a6 r h => ?_) (fun F_kidT F_restT_b1 H_F_kidT H_F_restT_b1 t2 o0_1 a0 a1 a2 a3 o0_3 o2 o3_1 r h => ?_) (fun F_restT_l0 H_F_restT_l0 o0_1 a0 a1 a2 a3 o0_3 o2 o3_1 r h => ?_) (fun F_otherT_t22 H_F_otherT_t22 a0 j0 t1 o0_1 a1 a2 a3 a4 o0_3 o2 o3_1 r h => ?_) (fun F_kidT F_otherT_l0 H_F_kidT H_F_otherT_l0 a0 j0 t1 o0_1 a1 a2 a3 a4 o0_3 o2 o3_1 r h => ?_) (fun F_namedT F_kidT F_statementT_t53 H_F_namedT H_F_kidT H_F_statementT_t53 a0 a2 a0_n a3 a4 a5 a6 a7 a1 r h => ?_) (fun F_statementT_l0 H_F_statementT_l0 t1 t4 o0_1 a0 a1 a2 a3 o0_3 o2 o3_1 r h => ?_) (fun F_kidT F_statementT_l0 H_F_kidT H_F_statementT_l0 a0 o0_1 a1 a2 a3 a4 o0_3 o2 o3_1 r h => ?_) (fun F_kidT F_restT H_F_kidT H_F_restT a0 a2 a0_n a3 a4 a5 a6 a7 a1 r h => ?_)
 ·unfold qa at h
  refine ⟨?_, (q8 rfl rfl (q8 rfl rfl (q8 rfl rfl (ze zm rfl zr)))), (qk (qk (qk (qn zm zg)))), (q9 rfl (q9 rfl (q9 rfl (zf zm zt)))), (qk (qk (qk (qn zm zg)))), rfl, rfl, rfl, rfl⟩
  refine zo (T := tt) (N := 41) (rs := [.cell 8 25]) (fun vs w => by simp) Tryd.func22 rfl rfl rfl (by kernel_rfl) (by kernel_rfl) ?_
  refine kr [23, 30] ?_
  obtain ⟨x1, hx, h⟩ := bind_some h
  refine ql (H_F_grammar_Group _ _ hx) ?_
  refine kr [23, 30] ?_
  refine qg (fun hb => ?_) (fun hb => ?_)
  ·replace h := qv hb h
   refine kr [23, 30] ?_
   obtain ⟨x2, hx, h⟩ := bind_some h
   refine qb (ACalls.ghost (e := 9) (ACalls.ghost (e := 25) (ACalls.wkg (AC.go (objs := [(0, .var 45 [(.fn 23 [(.ptr 1 1 0), (.ptr 2 2 0)])]), (1, .var 9 [(.str a0)]), (2, .var 50 [(.optr 2 2 0), (.bs 1 3 3 0 a4.length)]), (3, .row 5 (a4.map c8).flatten), (4, .var 25 (zk a1)), (5, .var 25 [(.int .i64 0), (.str ⟨#[]⟩), (.sl 0 true []), (.sl 0 true [])]), (6, .var 67 [(.ptr 0 0 0), (.int .i64 a1.kind), (.str a1.text), (.sl 1 false (a1.gaps.map sc)), (.sl 4 false (a1.kids.map Node.cells)), (.int .i64 a1.kind), (.str a1.text), (.bs 1 7 7 0 ([] : LB).length), (.bs 4 8 8 0 ([] : LN).length), (.int .i64 a3)]), (7, .row 9 (([] : LB).map sc).flatten), (8, .row 25 (([] : LN).map Node.cells).flatten)]) (xs := [(.ptr 6 6 0), (.str a2)]) (H_F_expressionT _ _ _ _ _ _ _ _ _ _ hx) [6, 0, 1, 2, 3, 7, 8] [6, 0, 1, 2, 3, 7, 8] rfl rfl rfl rfl rfl rfl rfl rfl rfl) (zq (jd _) (zq (jd _) yv)) (zi (zi (zi (zi (zi (zi (y9 (qy (q7 _) (qy (q7 _) (qy (q7 _) (qy (q7 _) (qy (q7 _) (qy (q7 _) (qy (q7 _) (qy (jx rfl) (qy (jx rfl) (qy (q7 _) wb)))))))))) (ya _))))))))))) ?_
   refine kr [23, 30] ?_
   exact zd (by kernel_rfl) rfl lQ (H_F_nodeT_t23 _ _ _ _ _ _ _ _ _ h)
  ·replace h := qw hb h
   refine kr [23, 30] ?_
   obtain ⟨x3, hx, h⟩ := bind_some h
   refine ql (H_F_grammar_Group _ _ hx) ?_
   refine kr [23, 30] ?_
   refine qg (fun hb => ?_) (fun hb => ?_)
   ·replace h := qv hb h
    refine kr [23, 30] ?_
    obtain ⟨x4, hx, h⟩ := bind_some h
    refine qb (ACalls.ghost (e := 9) (ACalls.ghost (e := 25) (ACalls.wkg (AC.go (objs := [(0, .var 45 [(.fn 23 [(.ptr 1 1 0), (.ptr 2 2 0)])]), (1, .var 9 [(.str a0)]), (2, .var 50 [(.optr 2 2 0), (.bs 1 3 3 0 a4.length)]), (3, .row 5 (a4.map c8).flatten), (4, .var 25 (zk a1)), (5, .var 25 [(.int .i64 0), (.str ⟨#[]⟩), (.sl 0 true []), (.sl 0 true [])]), (6, .var 67 [(.ptr 0 0 0), (.int .i64 a1.kind), (.str a1.text), (.sl 1 false (a1.gaps.map sc)), (.sl 4 false (a1.kids.map Node.cells)), (.int .i64 a1.kind), (.str a1.text), (.bs 1 7 7 0 ([] : LB).length), (.bs 4 8 8 0 ([] : LN).length), (.int .i64 a3)]), (7, .row 9 (([] : LB).map sc).flatten), (8, .row 25 (([] : LN).map Node.cells).flatten)]) (xs := [(.ptr 6 6 0), (.str a2)]) (H_F_statementT _ _ _ _ _ _ _ _ _ _ hx) [6, 0, 1, 2, 3, 7, 8] [6, 0, 1, 2, 3, 7, 8] rfl rfl rfl rfl rfl rfl rfl rfl rfl) (zq (jd _) (zq (jd _) yv)) (zi (zi (zi (zi (zi (zi (y9 (qy (q7 _) (qy (q7 _) (qy (q7 _) (qy (q7 _) (qy (q7 _) (qy (q7 _) (qy (q7 _) (qy (jx rfl) (qy (jx rfl) (qy (q7 _) wb)))))))))) (ya _))))))))))) ?_
    refine kr [23, 30] ?_
    exact zd (by kernel_rfl) rfl lQ (H_F_nodeT_t30 _ _ _ _ _ _ _ _ _ h)
   ·replace h := qw hb h
    refine kr [23, 30] ?_
    obtain ⟨x5, hx, h⟩ := bind_some h
    refine qb (ACalls.ghost (e := 9) (ACalls.ghost (e := 25) (ACalls.wkg (AC.go (objs := [(0, .var 45 [(.fn 23 [(.ptr 1 1 0), (.ptr 2 2 0)])]), (1, .var 9 [(.str a0)]), (2, .var 50 [(.optr 2 2 0), (.bs 1 3 3 0 a4.length)]), (3, .row 5 (a4.map c8).flatten), (4, .var 25 (zk a1)), (5, .var 25 [(.int .i64 0), (.str ⟨#[]⟩), (.sl 0 true []), (.sl 0 true [])]), (6, .var 67 [(.ptr 0 0 0), (.int .i64 a1.kind), (.str a1.text), (.sl 1 false (a1.gaps.map sc)), (.sl 4 false (a1.kids.map Node.cells)), (.int .i64 a1.kind), (.str a1.text), (.bs 1 7 7 0 ([] : LB).length), (.bs 4 8 8 0 ([] : LN).length), (.int .i64 a3)]), (7, .row 9 (([] : LB).map sc).flatten), (8, .row 25 (([] : LN).map Node.cells).flatten)]) (xs := [(.ptr 6 6 0), (.str a2)]) (H_F_otherT _ _ _ _ _ _ _ _ _ _ hx) [6, 0, 1, 2, 3, 7, 8] [6, 0, 1, 2, 3, 7, 8] rfl rfl rfl rfl rfl rfl rfl rfl rfl) (zq (jd _) (zq (jd _) yv)) (zi (zi (zi (zi (zi (zi (y9 (qy (q7 _) (qy (q7 _) (qy (q7 _) (qy (q7 _) (qy (q7 _) (qy (q7 _) (qy (q7 _) (qy (jx rfl) (qy (jx rfl) (qy (q7 _) wb)))))))))) (ya _))))))))))) ?_
    refine kr [23, 30] ?_
    exact zd (by kernel_rfl) rfl lQ (H_F_nodeT_t30 _ _ _ _ _ _ _ _ _ h)
 ·unfold qa at h
  refine ⟨?_, (q8 rfl rfl (q8 rfl rfl (q8 rfl rfl (q8 rfl rfl (ze zm rfl (ze qp rfl (ze qj rfl zr))))))), (qk (qk (qk (qk (qn zm (qn qp (qn qj zg))))))), (q9 rfl (q9 rfl (q9 rfl (q9 rfl (zf zm (zf qp (zf qj zt))))))), (qk (qk (qk (qk (qn zm (qn qp (qn qj zg))))))), rfl, rfl, rfl, rfl⟩
  refine zo (T := tt) (N := 146) (rs := []) (fun vs w => by simp) Tryd.func43 rfl rfl rfl (by kernel_rfl) (by kernel_rfl) ?_
  refine kr [22, 33] ?_
  refine qg (fun hb => ?_) (fun hb => ?_)
  ·replace h := qv hb h
   refine kr [22, 33] ?_
   refine Zr 16 rfl (fun hm => ?_)
   exact z7 (by kernel_rfl) lQ (H_F_otherT_l0 _ _ _ _ _ _ _ _ _ _ _ _ h a0_n.kids rfl (Nat.zero_le _) (wy hm))
  ·replace h := qw hb h
   refine kr [22, 33] ?_
   refine qg (fun hb => ?_) (fun hb => ?_)
   ·replace h := qv hb h
    refine kr [22, 33] ?_
    obtain ⟨x37, hx, h⟩ := bind_some h
    refine qb (AC.g9 (H_F_ownT _ _ _ _ _ _ _ _ _ _ _ hx) [0, 1, 2, 3, 4, 5, 6] [0, 1, 2, 3, 4, 5, 6]) ?_
    refine kr [22, 33] ?_
    obtain ⟨x38, hx, h⟩ := bind_some h
    refine qb (AC.g9 (H_F_ownT _ _ _ _ _ _ _ _ _ _ _ hx) [0, 1, 2, 3, 4, 5, 6] [0, 1, 2, 3, 7, 8, 6]) ?_
    refine kr [22, 33] ?_
    obtain ⟨x39, hx, h⟩ := bind_some h
    refine qb (AC.g9 (H_F_kidT _ _ _ _ _ _ _ _ _ _ hx) [0, 1, 2, 3, 4, 5, 6] [0, 1, 2, 3, 9, 10, 6]) ?_
    refine kr [22, 33] ?_
    obtain ⟨x40, hx, h⟩ := bind_some h
    refine qb (AC.g9 (H_F_kidT _ _ _ _ _ _ _ _ _ _ hx) [0, 1, 2, 3, 4, 5, 6] [0, 1, 2, 3, 11, 10, 12]) ?_
    refine kr [22, 33] ?_
    obtain ⟨x41, hx, h⟩ := bind_some h
    refine qb (AC.g9 (H_F_kidT _ _ _ _ _ _ _ _ _ _ hx) [0, 1, 2, 3, 4, 5, 6] [0, 1, 2, 3, 13, 10, 14]) ?_
    refine kr [22, 33] ?_
    cases h
    exact qx env rfl (tS [some 0, some 1, some 2, some 3, some 4, some 5, some 6] (sV (lS (lS (lS (lS (lS (lS (lS (lS (lS (lS lN)))))))))) (sV (lS lN) (sV (lS lN) (sV (lS (lS lN)) (sR zm (sR qp (sR qj qt))))))) (qz qu))
   ·replace h := qw hb h
    refine kr [22, 33] ?_
    refine qg (fun hb => ?_) (fun hb => ?_)
    ·replace h := qv hb h
     refine kr [22, 33] ?_
     obtain ⟨x42, hx, h⟩ := bind_some h
     refine qb (AC.g9 (H_F_ownT _ _ _ _ _ _ _ _ _ _ _ hx) [0, 1, 2, 3, 4, 5, 6] [0, 1, 2, 3, 4, 5, 6]) ?_
     refine kr [22, 33] ?_
     obtain ⟨x43, hx, h⟩ := bind_some h
     refine qb (AC.g9 (H_F_restT _ _ _ _ _ _ _ _ _ hx) [0, 1, 2, 3, 4, 5, 6] [0, 1, 2, 3, 7, 8, 6]) ?_
     refine kr [22, 33] ?_
     cases h
     exact qx env rfl (tS [some 0, some 1, some 2, some 3, some 4, some 5, some 6] (sV (lS (lS (lS (lS (lS (lS (lS (lS (lS (lS lN)))))))))) (sV (lS lN) (sV (lS lN) (sV (lS (lS lN)) (sR zm (sR qp (sR qj qt))))))) (qz qu))
    ·replace h := qw hb h
     refine kr [22, 33] ?_
     refine qg (fun hb => ?_) (fun hb => ?_)
     ·replace h := qv hb h
      refine kr [22, 33] ?_
      obtain ⟨x44, hx, h⟩ := bind_some h
      refine qb (AC.g9 (H_F_ownT _ _ _ _ _ _ _ _ _ _ _ hx) [0, 1, 2, 3, 4, 5, 6] [0, 1, 2, 3, 4, 5, 6]) ?_
      refine kr [22, 33] ?_
      obtain ⟨x45, hx, h⟩ := bind_some h
      refine qb (AC.g9 (H_F_kidT _ _ _ _ _ _ _ _ _ _ hx) [0, 1, 2, 3, 4, 5, 6] [0, 1, 2, 3, 7, 8, 6]) ?_
      refine kr [22, 33] ?_
      cases h
      exact qx env rfl (tS [some 0, some 1, some 2, some 3, some 4, some 5, some 6] (sV (lS (lS (lS (lS (lS (lS (lS (lS (lS (lS lN)))))))))) (sV (lS lN) (sV (lS lN) (sV (lS (lS lN)) (sR zm (sR qp (sR qj qt))))))) (qz qu))
     ·replace h := qw hb h
      refine kr [22, 33] ?_
      refine qg (fun hb => ?_) (fun hb => ?_)
      ·replace h := qv hb h
       refine kr [22, 33] ?_
       obtain ⟨x46, hx, h⟩ := bind_some h
       refine qb (AC.g9 (H_F_ownT _ _ _ _ _ _ _ _ _ _ _ hx) [0, 1, 2, 3, 4, 5, 6] [0, 1, 2, 3, 4, 5, 6]) ?_
       refine kr [22, 33] ?_
       cases h
       exact qx env rfl (tS [some 0, some 1, some 2, some 3, some 4, some 5, some 6] (sV (lS (lS (lS (lS (lS (lS (lS (lS (lS (lS lN)))))))))) (sV (lS lN) (sV (lS lN) (sV (lS (lS lN)) (sR zm (sR qp (sR qj qt))))))) (qz qu))
      ·replace h := qw hb h
       refine kr [22, 33] ?_
       refine qg (fun hb => ?_) (fun hb => ?_)
       ·replace h := qv hb h
        refine kr [22, 33] ?_
        obtain ⟨x47, hx, h⟩ := bind_some h
        refine qb (AC.g9 (H_F_ownT _ _ _ _ _ _ _ _ _ _ _ hx) [0, 1, 2, 3, 4, 5, 6] [0, 1, 2, 3, 4, 5, 6]) ?_
        refine kr [22, 33] ?_
        obtain ⟨x48, hx, h⟩ := bind_some h
        refine qb (AC.g9 (H_F_bodyT _ _ _ _ _ _ _ _ _ _ hx) [0, 1, 2, 3, 4, 5, 6] [0, 1, 2, 3, 7, 8, 6]) ?_
        refine kr [22, 33] ?_
        cases h
        exact qx env rfl (tS [some 0, some 1, some 2, some 3, some 4, some 5, some 6] (sV (lS (lS (lS (lS (lS (lS (lS (lS (lS (lS lN)))))))))) (sV (lS lN) (sV (lS lN) (sV (lS (lS lN)) (sR zm (sR qp (sR qj qt))))))) (qz qu))
       ·replace h := qw hb h
        refine kr [22, 33] ?_
        refine qg (fun hb => ?_) (fun hb => ?_)
        ·replace h := qv hb h
         refine kr [22, 33] ?_
         obtain ⟨x49, hx, h⟩ := bind_some h
         refine qb (AC.g9 (H_F_ownT _ _ _ _ _ _ _ _ _ _ _ hx) [0, 1, 2, 3, 4, 5, 6] [0, 1, 2, 3, 4, 5, 6]) ?_
         refine kr [22, 33] ?_
         obtain ⟨x50, hx, h⟩ := bind_some h
         refine qb (AC.g9 (H_F_ownT _ _ _ _ _ _ _ _ _ _ _ hx) [0, 1, 2, 3, 4, 5, 6] [0, 1, 2, 3, 7, 8, 6]) ?_
         refine kr [22, 33] ?_
         obtain ⟨x51, hx, h⟩ := bind_some h
         refine qb (AC.g9 (H_F_kidT _ _ _ _ _ _ _ _ _ _ hx) [0, 1, 2, 3, 4, 5, 6] [0, 1, 2, 3, 9, 10, 6]) ?_
         refine kr [22, 33] ?_
         obtain ⟨x52, hx, h⟩ := bind_some h
         refine qb (AC.g9 (H_F_ownT _ _ _ _ _ _ _ _ _ _ _ hx) [0, 1, 2, 3, 4, 5, 6] [0, 1, 2, 3, 11, 10, 12]) ?_
         refine kr [22, 33] ?_
         obtain ⟨x53, hx, h⟩ := bind_some h
         refine qb (AC.g9 (H_F_bodyT _ _ _ _ _ _ _ _ _ _ hx) [0, 1, 2, 3, 4, 5, 6] [0, 1, 2, 3, 13, 14, 12]) ?_
         refine kr [22, 33] ?_
         cases h
         exact qx env rfl (tS [some 0, some 1, some 2, some 3, some 4, some 5, some 6] (sV (lS (lS (lS (lS (lS (lS (lS (lS (lS (lS lN)))))))))) (sV (lS lN) (sV (lS lN) (sV (lS (lS lN)) (sR zm (sR qp (sR qj qt))))))) (qz qu))
        ·replace h := qw hb h
         refine kr [22, 33] ?_
         refine qg (fun hb => ?_) (fun hb => ?_)
         ·replace h := qv hb h
          refine kr [22, 33] ?_
          refine qg (fun hb => ?_) (fun hb => ?_)
          ·replace h := qv hb h
           refine kr [22, 33] ?_
           obtain ⟨x54, hx, h⟩ := bind_some h
           refine qb (AC.g9 (H_F_ownT _ _ _ _ _ _ _ _ _ _ _ hx) [0, 1, 2, 3, 4, 5, 6] [0, 1, 2, 3, 4, 5, 6]) ?_
           refine kr [22, 33] ?_
           obtain ⟨x55, hx, h⟩ := bind_some h
           refine qb (AC.g9 (H_F_ownT _ _ _ _ _ _ _ _ _ _ _ hx) [0, 1, 2, 3, 4, 5, 6] [0, 1, 2, 3, 7, 8, 6]) ?_
           refine kr [22, 33] ?_
           cases h
           exact qx env rfl (tS [some 0, some 1, some 2, some 3, some 4, some 5, some 6] (sV (lS (lS (lS (lS (lS (lS (lS (lS (lS (lS lN)))))))))) (sV (lS lN) (sV (lS lN) (sV (lS (lS lN)) (sR zm (sR qp (sR qj qt))))))) (qz qu))
          ·replace h := qw hb h
           refine kr [22, 33] ?_
           cases h
           exact qx env rfl (tS [some 0, some 1, some 2, some 3, some 4, some 5, some 6] (sV (lS (lS (lS (lS (lS (lS (lS (lS (lS (lS lN)))))))))) (sV (lS lN) (sV (lS lN) (sV (lS (lS lN)) (sR zm (sR qp (sR qj qt))))))) (qz qu))
         ·replace h := qw hb h
          refine kr [22, 33] ?_
          refine qg (fun hb => ?_) (fun hb => ?_)
          ·replace h := qv hb h
           refine kr [22, 33] ?_
           obtain ⟨x56, hx, h⟩ := bind_some h
           refine qb (AC.g9 (H_F_namedT _ _ _ _ _ _ _ _ _ _ _ hx) [0, 1, 2, 3, 4, 5, 6] [0, 1, 2, 3, 4, 5, 6]) ?_
           refine kr [22, 33] ?_
           cases h
           exact qx env rfl (tS [some 0, some 1, some 2, some 3, some 4, some 5, some 6] (sV (lS (lS (lS (lS (lS (lS (lS (lS (lS (lS lN)))))))))) (sV (lS lN) (sV (lS lN) (sV (lS (lS lN)) (sR zm (sR qp (sR qj qt))))))) (qz qu))
          ·replace h := qw hb h
           refine kr [22, 33] ?_
           refine qg (fun hb => ?_) (fun hb => ?_)
           ·replace h := qv hb h
            refine kr [22, 33] ?_
            refine qg (fun hb => ?_) (fun hb => ?_)
            ·replace h := qv hb h
             refine kr [22, 33] ?_
             obtain ⟨x57, hx, h⟩ := bind_some h
             refine qb (AC.g9 (H_F_ownT _ _ _ _ _ _ _ _ _ _ _ hx) [0, 1, 2, 3, 4, 5, 6] [0, 1, 2, 3, 4, 5, 6]) ?_
             refine kr [22, 33] ?_
             obtain ⟨x58, hx, h⟩ := bind_some h
             refine qb (AC.g9 (H_F_kidT _ _ _ _ _ _ _ _ _ _ hx) [0, 1, 2, 3, 4, 5, 6] [0, 1, 2, 3, 7, 8, 6]) ?_
             refine kr [22, 33] ?_
             cases h
             exact qx env rfl (tS [some 0, some 1, some 2, some 3, some 4, some 5, some 6] (sV (lS (lS (lS (lS (lS (lS (lS (lS (lS (lS lN)))))))))) (sV (lS lN) (sV (lS lN) (sV (lS (lS lN)) (sR zm (sR qp (sR qj qt))))))) (qz qu))
            ·replace h := qw hb h
             refine kr [22, 33] ?_
             cases h
             exact qx env rfl (tS [some 0, some 1, some 2, some 3, some 4, some 5, some 6] (sV (lS (lS (lS (lS (lS (lS (lS (lS (lS (lS lN)))))))))) (sV (lS lN) (sV (lS lN) (sV (lS (lS lN)) (sR zm (sR qp (sR qj qt))))))) (qz qu))
           ·replace h := qw hb h
            refine kr [22, 33] ?_
            cases h
            exact qx env rfl (tS [some 0, some 1, some 2, some 3, some 4, some 5, some 6] (sV (lS (lS (lS (lS (lS (lS (lS (lS (lS (lS lN)))))))))) (sV (lS lN) (sV (lS lN) (sV (lS (lS lN)) (sR zm (sR qp (sR qj qt))))))) (qz qu))
 ·unfold qa at h
  refine ⟨?_, (q8 rfl rfl (q8 rfl rfl (q8 rfl rfl (q8 rfl rfl (ze zm rfl (ze qp rfl (ze qj rfl zr))))))), (qk (qk (qk (qk (qn zm (qn qp (qn qj zg))))))), (q9 rfl (q9 rfl (q9 rfl (q9 rfl (zf zm (zf qp (zf qj zt))))))), (qk (qk (qk (qk (qn zm (qn qp (qn qj zg))))))), rfl, rfl, rfl, rfl⟩
  refine zo (T := tt) (N := 23) (rs := []) (fun vs w => by simp) Tryd.func63 rfl rfl rfl (by kernel_rfl) (by kernel_rfl) ?_
  refine kr [] ?_
  obtain ⟨x62, hx, h⟩ := bind_some h
  refine qb (AC.g9 (H_F_ownT _ _ _ _ _ _ _ _ _ _ _ hx) [0, 1, 2, 3, 4, 5, 6] [0, 1, 2, 3, 4, 5, 6]) ?_
  refine kr [] ?_
  obtain ⟨x63, hx, h⟩ := bind_some h
  refine qb (AC.g9 (H_F_ownT _ _ _ _ _ _ _ _ _ _ _ hx) [0, 1, 2, 3, 4, 5, 6] [0, 1, 2, 3, 7, 8, 6]) ?_
  refine kr [] ?_
  obtain ⟨x64, hx, h⟩ := bind_some h
  refine qb (AC.g9 (H_F_ownT _ _ _ _ _ _ _ _ _ _ _ hx) [0, 1, 2, 3, 4, 5, 6] [0, 1, 2, 3, 9, 10, 6]) ?_
  refine kr [] ?_
  obtain ⟨x65, hx, h⟩ := bind_some h
  refine qb (AC.g9 (H_F_kidT _ _ _ _ _ _ _ _ _ _ hx) [0, 1, 2, 3, 4, 5, 6] [0, 1, 2, 3, 11, 12, 6]) ?_
  refine kr [] ?_
  obtain ⟨x66, hx, h⟩ := bind_some h
  refine qb (AC.g9 (H_F_ownT _ _ _ _ _ _ _ _ _ _ _ hx) [0, 1, 2, 3, 4, 5, 6] [0, 1, 2, 3, 13, 12, 14]) ?_
  refine kr [] ?_
  cases h
  exact qx env rfl (tS [some 0, some 1, some 2, some 3, some 4, some 5, some 6] (sV (lS (lS (lS (lS (lS (lS (lS (lS (lS (lS lN)))))))))) (sV (lS lN) (sV (lS lN) (sV (lS (lS lN)) (sR zm (sR qp (sR qj qt))))))) (qz qu))
 ·unfold qa at h
  refine ⟨?_, (q8 rfl rfl (q8 rfl rfl (q8 rfl rfl (q8 rfl rfl (ze zm rfl (ze qp rfl (ze qj rfl zr))))))), (qk (qk (qk (qk (qn zm (qn qp (qn qj zg))))))), (q9 rfl (q9 rfl (q9 rfl (q9 rfl (zf zm (zf qp (zf qj zt))))))), (qk (qk (qk (qk (qn zm (qn qp (qn qj zg))))))), rfl, rfl, rfl, rfl⟩
  refine zo (T := tt) (N := 41) (rs := []) (fun vs w => by simp) Tryd.func62 rfl rfl rfl (by kernel_rfl) (by kernel_rfl) ?_
  refine kr [] ?_
  obtain ⟨x59, hx, h⟩ := bind_some h
  refine yt env hx rfl rfl rfl rfl (Node.cells_eq x59) ?_
  refine kr [] ?_
  obtain ⟨x60, hx, h⟩ := bind_some h
  refine qb (AC.g9 (H_F_nodeT _ _ _ _ _ _ hx) [1, 2, 3, 4] [1, 2, 3, 4]) ?_
  refine kr [] ?_
  obtain ⟨x61, hx, h⟩ := bind_some h
  have hz_x61 := hx
  refine Ok_appOZ (C := Node.cells) env hx rfl rfl Node.cells_len rfl rfl rfl rfl rfl (by decide) rfl rfl rfl ?_
  refine kr [] ?_
  refine Ok_ixB env rfl rfl rfl rfl (Int.natCast_nonneg _) (app_last hz_x61) ?_
  refine kr [] ?_
  refine Ok_storeZ hz_x61 qj rfl rfl (Node.cells_eq x60.1).symm rfl rfl rfl ?_
  refine kr [] ?_
  cases h
  exact qx env rfl (tS [some 0, some 1, some 2, some 3, some 4, some 5, some 6] (sV (lS (lS (lS (lS (lS (lS (lS (lS (lS (lS lN)))))))))) (sV (lS lN) (sV (lS lN) (sV (lS (lS lN)) (sR zm (sR qp (sR qj qt))))))) (qz qu))
 ·unfold qa at h
  refine ⟨?_, (q8 rfl rfl (q8 rfl rfl (q8 rfl rfl (q8 rfl rfl (ze zm rfl (ze qp rfl (ze qj rfl zr))))))), (qk (qk (qk (qk (qn zm (qn qp (qn qj zg))))))), (q9 rfl (q9 rfl (q9 rfl (q9 rfl (zf zm (zf qp (zf qj zt))))))), (qk (qk (qk (qk (qn zm (qn qp (qn qj zg))))))), rfl, rfl, rfl, rfl⟩
  refine zo (T := tt) (N := 55) (rs := []) (fun vs w => by simp) Tryd.func64 rfl rfl rfl (by kernel_rfl) (by kernel_rfl) ?_
  refine kr [] ?_
  exact z7 (by kernel_rfl) lQ (H_F_bodyT_l0 _ _ _ _ _ _ _ _ _ _ h)
 ·unfold qa at h
  refine ji ?_
  refine kr [] ?_
  refine qg (fun hb => ?_) (fun hb => ?_)
  ·replace h := qv hb h
   refine kr [] ?_
   obtain ⟨x72, hx, h⟩ := bind_some h
   refine ql (H_F_print_line _ _ hx) ?_
   refine kr [] ?_
   obtain ⟨x73, hx, h⟩ := bind_some h
   refine qb (AC.g9 (H_F_kidT _ _ _ _ _ _ _ _ _ _ hx) [0, 1, 2, 3, 4, 5, 6] [0, 1, 2, 3, 7, 8, 9]) ?_
   refine kr [] ?_
   exact zx (by kernel_rfl) lQ (H_F_bodyT_l0 _ _ _ _ _ _ _ _ _ _ h)
  ·replace h := qw hb h
   refine kr [] ?_
   refine qg (fun hb => ?_) (fun hb => ?_)
   ·replace h := qv hb h
    refine kr [] ?_
    obtain ⟨x74, hx, h⟩ := bind_some h
    refine ql (H_F_print_line _ _ hx) ?_
    refine kr [] ?_
    obtain ⟨x75, hx, h⟩ := bind_some h
    refine qb (AC.g9 (H_F_ownT _ _ _ _ _ _ _ _ _ _ _ hx) [0, 1, 2, 3, 4, 5, 6] [0, 1, 2, 3, 7, 8, 9]) ?_
    refine kr [] ?_
    cases h
    exact qx env rfl (tS [some 0, some 1, some 2, some 3, some 4, some 5, some 6] (sV (lS (lS (lS (lS (lS (lS (lS (lS (lS (lS lN)))))))))) (sV (lS lN) (sV (lS lN) (sV (lS (lS lN)) (sR zm (sR qp (sR qj qt))))))) (qz qu))
   ·replace h := qw hb h
    refine kr [] ?_
    obtain ⟨x76, hx, h⟩ := bind_some h
    refine qb (AC.g9 (H_F_ownT _ _ _ _ _ _ _ _ _ _ _ hx) [0, 1, 2, 3, 4, 5, 6] [0, 1, 2, 3, 7, 8, 9]) ?_
    refine kr [] ?_
    cases h
    exact qx env rfl (tS [some 0, some 1, some 2, some 3, some 4, some 5, some 6] (sV (lS (lS (lS (lS (lS (lS (lS (lS (lS (lS lN)))))))))) (sV (lS lN) (sV (lS lN) (sV (lS (lS lN)) (sR zm (sR qp (sR qj qt))))))) (qz qu))
 ·unfold qa at h
  refine ⟨?_, (q8 rfl rfl (q8 rfl rfl (q8 rfl rfl (q8 rfl rfl (ze zm rfl (ze qp rfl (ze qj rfl zr))))))), (qk (qk (qk (qk (qn zm (qn qp (qn qj zg))))))), (q9 rfl (q9 rfl (q9 rfl (q9 rfl (zf zm (zf qp (zf qj zt))))))), (qk (qk (qk (qk (qn zm (qn qp (qn qj zg))))))), rfl, rfl, rfl, rfl⟩
  refine zo (T := tt) (N := 25) (rs := []) (fun vs w => by simp) Tryd.func61 rfl rfl rfl (by kernel_rfl) (by kernel_rfl) ?_
  refine kr [1000001] ?_
  exact z7 (by kernel_rfl) lQ (H_F_restT_l0 _ _ _ _ _ _ _ _ _ _ h)
 ·unfold qa at h
  refine ji ?_
  refine kr [1000001] ?_
  refine qg (fun hb => ?_) (fun hb => ?_)
  ·replace h := qv hb h
   refine kr [1000001] ?_
   refine qg (fun hb => ?_) (fun hb => ?_)
   ·replace h := qv hb h
    refine kr [1000001] ?_
    obtain ⟨x68, hx, h⟩ := bind_some h
    refine qb (AC.g9 (H_F_kidT _ _ _ _ _ _ _ _ _ _ hx) [0, 1, 2, 3, 4, 5, 6] [0, 1, 2, 3, 7, 8, 9]) ?_
    refine kr [1000001] ?_
    exact zd (by kernel_rfl) rfl lQ (H_F_restT_b1 _ _ _ _ _ _ _ _ _ h)
   ·replace h := qw hb h
    refine kr [1000001] ?_
    obtain ⟨x69, hx, h⟩ := bind_some h
    refine qb (AC.g9 (H_F_ownT _ _ _ _ _ _ _ _ _ _ _ hx) [0, 1, 2, 3, 4, 5, 6] [0, 1, 2, 3, 7, 8, 9]) ?_
    refine kr [1000001] ?_
    obtain ⟨x70, hx, h⟩ := bind_some h
    refine qb (AC.g9 (H_F_kidT _ _ _ _ _ _ _ _ _ _ hx) [0, 1, 2, 3, 4, 5, 6] [0, 1, 2, 3, 10, 11, 9]) ?_
    refine kr [1000001] ?_
    exact zd (by kernel_rfl) rfl lQ (H_F_restT_b1 _ _ _ _ _ _ _ _ _ h)
  ·replace h := qw hb h
   refine kr [1000001] ?_
   obtain ⟨x71, hx, h⟩ := bind_some h
   refine qb (AC.g9 (H_F_ownT _ _ _ _ _ _ _ _ _ _ _ hx) [0, 1, 2, 3, 4, 5, 6] [0, 1, 2, 3, 7, 8, 9]) ?_
   refine kr [1000001] ?_
   cases h
   exact qx env rfl (tS [some 0, some 1, some 2, some 3, some 4, some 5, some 6] (sV (lS (lS (lS (lS (lS (lS (lS (lS (lS (lS lN)))))))))) (sV (lS lN) (sV (lS lN) (sV (lS (lS lN)) (sR zm (sR qp (sR qj qt))))))) (qz qu))
 ·unfold qa at h
  refine kr [1000001] ?_
  exact zx (by kernel_rfl) lQ (H_F_restT_l0 _ _ _ _ _ _ _ _ _ _ h)
 ·unfold qa at h
  intro l0 hl0 hj0 hm0
  refine ji ?_
  cases a0 with
  | nil =>
    have hb := uz (C := Node.cells) hl0 hj0
    refine kr [22, 33] ?_
    refine qi hb ?_
    refine kr [22, 33] ?_
    refine qg (fun hb => ?_) (fun hb => ?_)
    ·replace h := qv hb h
     refine kr [22, 33] ?_
     exact zd (by kernel_rfl) rfl lQ (H_F_otherT_t33 _ _ _ _ _ _ _ _ _ _ h)
    ·replace h := qw hb h
     refine kr [22, 33] ?_
     exact zd (by kernel_rfl) rfl lQ (H_F_otherT_t33 _ _ _ _ _ _ _ _ _ _ h)
  | cons x_0 a0 =>
    obtain ⟨hb, hx0, hd0, hk0, hw0⟩ := wx (C := Node.cells) hl0 hm0
    refine kr [22, 33] ?_
    refine qh hb ?_
    refine kr [22, 33] ?_
    refine qg (fun hb => ?_) (fun hb => ?_)
    ·replace h := qv hb h
     refine kr [22, 33] ?_
     exact zd (by kernel_rfl) rfl lQ (H_F_otherT_t22 _ _ _ _ _ _ _ _ _ _ _ _ h l0 hd0 hk0 hm0)
    ·replace h := qw hb h
     refine kr [22, 33] ?_
     exact zd (by kernel_rfl) rfl lQ (H_F_otherT_t22 _ _ _ _ _ _ _ _ _ _ _ _ h l0 hd0 hk0 hm0)
 ·unfold qa at h
  intro l0 hd0 hk0 hm0
  have hw0 := range_w hk0 hm0
  refine kr [22, 33] ?_
  obtain ⟨x79, hx, h⟩ := bind_some h
  refine qb (AC.g9 (H_F_kidT _ _ _ _ _ _ _ _ _ _ hx) [0, 1, 2, 3, 4, 5, 6] [0, 1, 2, 3, 10, 11, 12]) ?_
  refine kr [22, 33] ?_
  exact zx (by kernel_rfl) (vv (Zk rfl) (Nat.le_of_ble_eq_true rfl) (by simp only [hw0]; simp <;> (repeat' apply And.intro) <;> first | rfl | exact fun x a _ h => (qj.all a x h).2 | exact fun x a _ h => (zm.all a x h).2 | exact fun x a _ h => (qp.all a x h).2) (by simp <;> (repeat' apply And.intro) <;> first | rfl | exact fun x a _ h => (qj.all a x h).2 | exact fun x a _ h => (zm.all a x h).2 | exact fun x a _ h => (qp.all a x h).2)) (H_F_otherT_l0 _ _ _ _ _ _ _ _ _ _ _ _ h l0 hd0 hk0 hm0)
 ·unfold qa at h
  refine ⟨?_, (q8 rfl rfl (q8 rfl rfl (q8 rfl rfl (q8 rfl rfl (ze zm rfl (ze qp rfl (ze qj rfl zr))))))), (qk (qk (qk (qk (qn zm (qn qp (qn qj zg))))))), (q9 rfl (q9 rfl (q9 rfl (q9 rfl (zf zm (zf qp (zf qj zt))))))), (qk (qk (qk (qk (qn zm (qn qp (qn qj zg))))))), rfl, rfl, rfl, rfl⟩
  refine zo (T := tt) (N := 69) (rs := []) (fun vs w => by simp) Tryd.func42 rfl rfl rfl (by kernel_rfl) (by kernel_rfl) ?_
  refine kr [53] ?_
  refine qg (fun hb => ?_) (fun hb => ?_)
  ·replace h := qv hb h
   refine kr [53] ?_
   obtain ⟨x27, hx, h⟩ := bind_some h
   refine qb (AC.g9 (H_F_namedT _ _ _ _ _ _ _ _ _ _ _ hx) [0, 1, 2, 3, 4, 5, 6] [0, 1, 2, 3, 4, 5, 6]) ?_
   refine kr [53] ?_
   cases h
   exact qx env rfl (tS [some 0, some 1, some 2, some 3, some 4, some 5, some 6] (sV (lS (lS (lS (lS (lS (lS (lS (lS (lS (lS lN)))))))))) (sV (lS lN) (sV (lS lN) (sV (lS (lS lN)) (sR zm (sR qp (sR qj qt))))))) (qz qu))
  ·replace h := qw hb h
   refine kr [53] ?_
   refine qg (fun hb => ?_) (fun hb => ?_)
   ·replace h := qv hb h
    refine kr [53] ?_
    obtain ⟨x28, hx, h⟩ := bind_some h
    refine qb (AC.g9 (H_F_ownT _ _ _ _ _ _ _ _ _ _ _ hx) [0, 1, 2, 3, 4, 5, 6] [0, 1, 2, 3, 4, 5, 6]) ?_
    refine kr [53] ?_
    obtain ⟨x29, hx, h⟩ := bind_some h
    refine qb (AC.g9 (H_F_ownT _ _ _ _ _ _ _ _ _ _ _ hx) [0, 1, 2, 3, 4, 5, 6] [0, 1, 2, 3, 7, 8, 6]) ?_
    refine kr [53] ?_
    obtain ⟨x30, hx, h⟩ := bind_some h
    refine qb (AC.g9 (H_F_kidT _ _ _ _ _ _ _ _ _ _ hx) [0, 1, 2, 3, 4, 5, 6] [0, 1, 2, 3, 9, 10, 6]) ?_
    refine kr [53] ?_
    obtain ⟨x31, hx, h⟩ := bind_some h
    refine qb (AC.g9 (H_F_ownT _ _ _ _ _ _ _ _ _ _ _ hx) [0, 1, 2, 3, 4, 5, 6] [0, 1, 2, 3, 11, 10, 12]) ?_
    refine kr [53] ?_
    cases h
    exact qx env rfl (tS [some 0, some 1, some 2, some 3, some 4, some 5, some 6] (sV (lS (lS (lS (lS (lS (lS (lS (lS (lS (lS lN)))))))))) (sV (lS lN) (sV (lS lN) (sV (lS (lS lN)) (sR zm (sR qp (sR qj qt))))))) (qz qu))
   ·replace h := qw hb h
    refine kr [53] ?_
    refine qg (fun hb => ?_) (fun hb => ?_)
    ·replace h := qv hb h
     refine kr [53] ?_
     obtain ⟨x32, hx, h⟩ := bind_some h
     refine qb (AC.g9 (H_F_ownT _ _ _ _ _ _ _ _ _ _ _ hx) [0, 1, 2, 3, 4, 5, 6] [0, 1, 2, 3, 4, 5, 6]) ?_
     refine kr [53] ?_
     obtain ⟨x33, hx, h⟩ := bind_some h
     refine qb (AC.g9 (H_F_kidT _ _ _ _ _ _ _ _ _ _ hx) [0, 1, 2, 3, 4, 5, 6] [0, 1, 2, 3, 7, 8, 6]) ?_
     refine kr [53] ?_
     obtain ⟨x34, hx, h⟩ := bind_some h
     refine qb (AC.g9 (H_F_ownT _ _ _ _ _ _ _ _ _ _ _ hx) [0, 1, 2, 3, 4, 5, 6] [0, 1, 2, 3, 9, 8, 10]) ?_
     refine kr [53] ?_
     cases h
     exact qx env rfl (tS [some 0, some 1, some 2, some 3, some 4, some 5, some 6] (sV (lS (lS (lS (lS (lS (lS (lS (lS (lS (lS lN)))))))))) (sV (lS lN) (sV (lS lN) (sV (lS (lS lN)) (sR zm (sR qp (sR qj qt))))))) (qz qu))
    ·replace h := qw hb h
     refine kr [53] ?_
     refine qg (fun hb => ?_) (fun hb => ?_)
     ·replace h := qv hb h
      refine kr [53] ?_
      refine qg (fun hb => ?_) (fun hb => ?_)
      ·replace h := qv hb h
       refine kr [53] ?_
       exact zd (by kernel_rfl) rfl lQ (H_F_statementT_t53 _ _ _ _ _ _ _ _ _ _ _ h)
      ·replace h := qw hb h
       refine kr [53] ?_
       exact zd (by kernel_rfl) rfl lQ (H_F_statementT_t53 _ _ _ _ _ _ _ _ _ _ _ h)
     ·replace h := qw hb h
      refine kr [53] ?_
      refine qg (fun hb => ?_) (fun hb => ?_)
      ·replace h := qv hb h
       refine kr [53] ?_
       refine qg (fun hb => ?_) (fun hb => ?_)
       ·replace h := qv hb h
        refine kr [53] ?_
        exact zd (by kernel_rfl) rfl lQ (H_F_statementT_t53 _ _ _ _ _ _ _ _ _ _ _ h)
       ·replace h := qw hb h
        refine kr [53] ?_
        exact zd (by kernel_rfl) rfl lQ (H_F_statementT_t53 _ _ _ _ _ _ _ _ _ _ _ h)
      ·replace h := qw hb h
       refine kr [53] ?_
       obtain ⟨x35, hx, h⟩ := bind_some h
       refine qb (AC.g9 (H_F_kidT _ _ _ _ _ _ _ _ _ _ hx) [0, 1, 2, 3, 4, 5, 6] [0, 1, 2, 3, 4, 5, 6]) ?_
       refine kr [53] ?_
       obtain ⟨x36, hx, h⟩ := bind_some h
       refine qb (AC.g9 (H_F_ownT _ _ _ _ _ _ _ _ _ _ _ hx) [0, 1, 2, 3, 4, 5, 6] [0, 1, 2, 3, 7, 5, 8]) ?_
       refine kr [53] ?_
       cases h
       exact qx env rfl (tS [some 0, some 1, some 2, some 3, some 4, some 5, some 6] (sV (lS (lS (lS (lS (lS (lS (lS (lS (lS (lS lN)))))))))) (sV (lS lN) (sV (lS lN) (sV (lS (lS lN)) (sR zm (sR qp (sR qj qt))))))) (qz qu))
 ·unfold qa at h
  refine kr [53] ?_
  obtain ⟨x67, hx, h⟩ := bind_some h
  refine qb (AC.g9 (H_F_ownT _ _ _ _ _ _ _ _ _ _ _ hx) [0, 1, 2, 3, 4, 5, 6] [0, 1, 2, 3, 7, 8, 9]) ?_
  refine kr [53] ?_
  refine Zr 62 rfl (fun hm => ?_)
  exact z7 (by kernel_rfl) lQ (H_F_statementT_l0 _ _ _ _ _ _ _ _ _ _ h o0_1.kids 0 rfl (Nat.zero_le _) (wy hm))
 ·unfold qa at h
  intro l0 j0 hl0 hj0 hm0
  refine ji ?_
  cases a0 with
  | nil =>
    have hb := uz (C := Node.cells) hl0 hj0
    refine kr [53] ?_
    refine qi hb ?_
    refine kr [53] ?_
    cases h
    exact qx env rfl (tS [some 0, some 1, some 2, some 3, some 4, some 5, some 6] (sV (lS (lS (lS (lS (lS (lS (lS (lS (lS (lS lN)))))))))) (sV (lS lN) (sV (lS lN) (sV (lS (lS lN)) (sR zm (sR qp (sR qj qt))))))) (qz qu))
  | cons x_0 a0 =>
    obtain ⟨hb, hx0, hd0, hk0, hw0⟩ := wx (C := Node.cells) hl0 hm0
    refine kr [53] ?_
    refine qh hb ?_
    refine kr [53] ?_
    obtain ⟨x77, hx, h⟩ := bind_some h
    refine qb (AC.g9 (H_F_kidT _ _ _ _ _ _ _ _ _ _ hx) [0, 1, 2, 3, 4, 5, 6] [0, 1, 2, 3, 12, 13, 14]) ?_
    refine kr [53] ?_
    exact zx (by kernel_rfl) (vv (Zk rfl) (Nat.le_of_ble_eq_true rfl) (by simp only [hw0]; simp <;> (repeat' apply And.intro) <;> first | rfl | exact fun x a _ h => (qj.all a x h).2 | exact fun x a _ h => (zm.all a x h).2 | exact fun x a _ h => (qp.all a x h).2) (by simp <;> (repeat' apply And.intro) <;> first | rfl | exact fun x a _ h => (qj.all a x h).2 | exact fun x a _ h => (zm.all a x h).2 | exact fun x a _ h => (qp.all a x h).2)) (H_F_statementT_l0 _ _ _ _ _ _ _ _ _ _ h l0 (j0 + 1) hd0 hk0 hm0)
 ·unfold qa at h
  refine ⟨?_, (q8 rfl rfl (q8 rfl rfl (q8 rfl rfl (q8 rfl rfl (ze zm rfl (ze qp rfl (ze qj rfl zr))))))), (qk (qk (qk (qk (qn zm (qn qp (qn qj zg))))))), (q9 rfl (q9 rfl (q9 rfl (q9 rfl (zf zm (zf qp (zf qj zt))))))), (qk (qk (qk (qk (qn zm (qn qp (qn qj zg))))))), rfl, rfl, rfl, rfl⟩
  refine zo (T := tt) (N := 100) (rs := []) (fun vs w => by simp) Tryd.func41 rfl rfl rfl (by kernel_rfl) (by kernel_rfl) ?_
  refine kr [] ?_
  refine qg (fun hb => ?_) (fun hb => ?_)
  ·replace h := qv hb h
   refine kr [] ?_
   obtain ⟨x6, hx, h⟩ := bind_some h
   refine qb (AC.g9 (H_F_ownT _ _ _ _ _ _ _ _ _ _ _ hx) [0, 1, 2, 3, 4, 5, 6] [0, 1, 2, 3, 4, 5, 6]) ?_
   refine kr [] ?_
   obtain ⟨x7, hx, h⟩ := bind_some h
   refine qb (AC.g9 (H_F_ownT _ _ _ _ _ _ _ _ _ _ _ hx) [0, 1, 2, 3, 4, 5, 6] [0, 1, 2, 3, 7, 8, 6]) ?_
   refine kr [] ?_
   obtain ⟨x8, hx, h⟩ := bind_some h
   refine qb (AC.g9 (H_F_restT _ _ _ _ _ _ _ _ _ hx) [0, 1, 2, 3, 4, 5, 6] [0, 1, 2, 3, 9, 10, 6]) ?_
   refine kr [] ?_
   cases h
   exact qx env rfl (tS [some 0, some 1, some 2, some 3, some 4, some 5, some 6] (sV (lS (lS (lS (lS (lS (lS (lS (lS (lS (lS lN)))))))))) (sV (lS lN) (sV (lS lN) (sV (lS (lS lN)) (sR zm (sR qp (sR qj qt))))))) (qz qu))
  ·replace h := qw hb h
   refine kr [] ?_
   refine qg (fun hb => ?_) (fun hb => ?_)
   ·replace h := qv hb h
    refine kr [] ?_
    obtain ⟨x9, hx, h⟩ := bind_some h
    refine qb (AC.g9 (H_F_kidT _ _ _ _ _ _ _ _ _ _ hx) [0, 1, 2, 3, 4, 5, 6] [0, 1, 2, 3, 4, 5, 6]) ?_
    refine kr [] ?_
    obtain ⟨x10, hx, h⟩ := bind_some h
    refine qb (AC.g9 (H_F_ownT _ _ _ _ _ _ _ _ _ _ _ hx) [0, 1, 2, 3, 4, 5, 6] [0, 1, 2, 3, 7, 5, 8]) ?_
    refine kr [] ?_
    obtain ⟨x11, hx, h⟩ := bind_some h
    refine qb (AC.g9 (H_F_ownT _ _ _ _ _ _ _ _ _ _ _ hx) [0, 1, 2, 3, 4, 5, 6] [0, 1, 2, 3, 9, 10, 8]) ?_
    refine kr [] ?_
    obtain ⟨x12, hx, h⟩ := bind_some h
    refine qb (AC.g9 (H_F_ownT _ _ _ _ _ _ _ _ _ _ _ hx) [0, 1, 2, 3, 4, 5, 6] [0, 1, 2, 3, 11, 12, 8]) ?_
    refine kr [] ?_
    obtain ⟨x13, hx, h⟩ := bind_some h
    refine qb (AC.g9 (H_F_restT _ _ _ _ _ _ _ _ _ hx) [0, 1, 2, 3, 4, 5, 6] [0, 1, 2, 3, 13, 14, 8]) ?_
    refine kr [] ?_
    cases h
    exact qx env rfl (tS [some 0, some 1, some 2, some 3, some 4, some 5, some 6] (sV (lS (lS (lS (lS (lS (lS (lS (lS (lS (lS lN)))))))))) (sV (lS lN) (sV (lS lN) (sV (lS (lS lN)) (sR zm (sR qp (sR qj qt))))))) (qz qu))
   ·replace h := qw hb h
    refine kr [] ?_
    refine qg (fun hb => ?_) (fun hb => ?_)
    ·replace h := qv hb h
     refine kr [] ?_
     obtain ⟨x14, hx, h⟩ := bind_some h
     refine qb (AC.g9 (H_F_ownT _ _ _ _ _ _ _ _ _ _ _ hx) [0, 1, 2, 3, 4, 5, 6] [0, 1, 2, 3, 4, 5, 6]) ?_
     refine kr [] ?_
     obtain ⟨x15, hx, h⟩ := bind_some h
     refine qb (AC.g9 (H_F_ownT _ _ _ _ _ _ _ _ _ _ _ hx) [0, 1, 2, 3, 4, 5, 6] [0, 1, 2, 3, 7, 8, 6]) ?_
     refine kr [] ?_
     obtain ⟨x16, hx, h⟩ := bind_some h
     refine qb (AC.g9 (H_F_ownT _ _ _ _ _ _ _ _ _ _ _ hx) [0, 1, 2, 3, 4, 5, 6] [0, 1, 2, 3, 9, 10, 6]) ?_
     refine kr [] ?_
     obtain ⟨x17, hx, h⟩ := bind_some h
     refine qb (AC.g9 (H_F_ownT _ _ _ _ _ _ _ _ _ _ _ hx) [0, 1, 2, 3, 4, 5, 6] [0, 1, 2, 3, 11, 12, 6]) ?_
     refine kr [] ?_
     cases h
     exact qx env rfl (tS [some 0, some 1, some 2, some 3, some 4, some 5, some 6] (sV (lS (lS (lS (lS (lS (lS (lS (lS (lS (lS lN)))))))))) (sV (lS lN) (sV (lS lN) (sV (lS (lS lN)) (sR zm (sR qp (sR qj qt))))))) (qz qu))
    ·replace h := qw hb h
     refine kr [] ?_
     refine qg (fun hb => ?_) (fun hb => ?_)
     ·replace h := qv hb h
      refine kr [] ?_
      obtain ⟨x18, hx, h⟩ := bind_some h
      refine qb (AC.g9 (H_F_kidT _ _ _ _ _ _ _ _ _ _ hx) [0, 1, 2, 3, 4, 5, 6] [0, 1, 2, 3, 4, 5, 6]) ?_
      refine kr [] ?_
      obtain ⟨x19, hx, h⟩ := bind_some h
      refine qb (AC.g9 (H_F_ownT _ _ _ _ _ _ _ _ _ _ _ hx) [0, 1, 2, 3, 4, 5, 6] [0, 1, 2, 3, 7, 5, 8]) ?_
      refine kr [] ?_
      obtain ⟨x20, hx, h⟩ := bind_some h
      refine qb (AC.g9 (H_F_kidT _ _ _ _ _ _ _ _ _ _ hx) [0, 1, 2, 3, 4, 5, 6] [0, 1, 2, 3, 9, 10, 8]) ?_
      refine kr [] ?_
      cases h
      exact qx env rfl (tS [some 0, some 1, some 2, some 3, some 4, some 5, some 6] (sV (lS (lS (lS (lS (lS (lS (lS (lS (lS (lS lN)))))))))) (sV (lS lN) (sV (lS lN) (sV (lS (lS lN)) (sR zm (sR qp (sR qj qt))))))) (qz qu))
     ·replace h := qw hb h
      refine kr [] ?_
      refine qg (fun hb => ?_) (fun hb => ?_)
      ·replace h := qv hb h
       refine kr [] ?_
       obtain ⟨x21, hx, h⟩ := bind_some h
       refine qb (AC.g9 (H_F_ownT _ _ _ _ _ _ _ _ _ _ _ hx) [0, 1, 2, 3, 4, 5, 6] [0, 1, 2, 3, 4, 5, 6]) ?_
       refine kr [] ?_
       obtain ⟨x22, hx, h⟩ := bind_some h
       refine qb (AC.g9 (H_F_kidT _ _ _ _ _ _ _ _ _ _ hx) [0, 1, 2, 3, 4, 5, 6] [0, 1, 2, 3, 7, 8, 6]) ?_
       refine kr [] ?_
       cases h
       exact qx env rfl (tS [some 0, some 1, some 2, some 3, some 4, some 5, some 6] (sV (lS (lS (lS (lS (lS (lS (lS (lS (lS (lS lN)))))))))) (sV (lS lN) (sV (lS lN) (sV (lS (lS lN)) (sR zm (sR qp (sR qj qt))))))) (qz qu))
      ·replace h := qw hb h
       refine kr [] ?_
       refine qg (fun hb => ?_) (fun hb => ?_)
       ·replace h := qv hb h
        refine kr [] ?_
        obtain ⟨x23, hx, h⟩ := bind_some h
        refine qb (AC.g9 (H_F_ownT _ _ _ _ _ _ _ _ _ _ _ hx) [0, 1, 2, 3, 4, 5, 6] [0, 1, 2, 3, 4, 5, 6]) ?_
        refine kr [] ?_
        obtain ⟨x24, hx, h⟩ := bind_some h
        refine qb (AC.g9 (H_F_kidT _ _ _ _ _ _ _ _ _ _ hx) [0, 1, 2, 3, 4, 5, 6] [0, 1, 2, 3, 7, 8, 6]) ?_
        refine kr [] ?_
        obtain ⟨x25, hx, h⟩ := bind_some h
        refine qb (AC.g9 (H_F_ownT _ _ _ _ _ _ _ _ _ _ _ hx) [0, 1, 2, 3, 4, 5, 6] [0, 1, 2, 3, 9, 8, 10]) ?_
        refine kr [] ?_
        cases h
        exact qx env rfl (tS [some 0, some 1, some 2, some 3, some 4, some 5, some 6] (sV (lS (lS (lS (lS (lS (lS (lS (lS (lS (lS lN)))))))))) (sV (lS lN) (sV (lS lN) (sV (lS (lS lN)) (sR zm (sR qp (sR qj qt))))))) (qz qu))
       ·replace h := qw hb h
        refine kr [] ?_
        obtain ⟨x26, hx, h⟩ := bind_some h
        refine qb (AC.g9 (H_F_ownT _ _ _ _ _ _ _ _ _ _ _ hx) [0, 1, 2, 3, 4, 5, 6] [0, 1, 2, 3, 4, 5, 6]) ?_
        refine kr [] ?_
        cases h
        exact qx env rfl (tS [some 0, some 1, some 2, some 3, some 4, some 5, some 6] (sV (lS (lS (lS (lS (lS (lS (lS (lS (lS (lS lN)))))))))) (sV (lS lN) (sV (lS lN) (sV (lS (lS lN)) (sR zm (sR qp (sR qj qt))))))) (qz qu))
theorem H_F_nodeT : PC5 M_F_nodeT F_nodeT := ALL_F_nodeT.1
theorem H_F_otherT : PC9 M_F_otherT F_otherT := ALL_F_nodeT.2.1
theorem H_F_namedT : PC10 M_F_namedT F_namedT := ALL_F_nodeT.2.2.1
theorem H_F_kidT : PC9 M_F_kidT F_kidT := ALL_F_nodeT.2.2.2.1
theorem H_F_bodyT : PC9 M_F_bodyT F_bodyT := ALL_F_nodeT.2.2.2.2.1
theorem H_F_bodyT_l0 : PC9 M_F_bodyT_l0 F_bodyT_l0 := ALL_F_nodeT.2.2.2.2.2.1
theorem H_F_restT : PC8 M_F_restT F_restT := ALL_F_nodeT.2.2.2.2.2.2.1
theorem H_F_restT_l0 : PC9 M_F_restT_l0 F_restT_l0 := ALL_F_nodeT.2.2.2.2.2.2.2.1
theorem H_F_restT_b1 : PC8 M_F_restT_b1 F_restT_b1 := ALL_F_nodeT.2.2.2.2.2.2.2.2.1
theorem H_F_otherT_l0 : PC11 M_F_otherT_l0 F_otherT_l0 := ALL_F_nodeT.2.2.2.2.2.2.2.2.2.1
theorem H_F_otherT_t22 : PC11 M_F_otherT_t22 F_otherT_t22 := ALL_F_nodeT.2.2.2.2.2.2.2.2.2.2.1
theorem H_F_statementT : PC9 M_F_statementT F_statementT := ALL_F_nodeT.2.2.2.2.2.2.2.2.2.2.2.1
theorem H_F_statementT_t53 : PC10 M_F_statementT_t53 F_statementT_t53 := ALL_F_nodeT.2.2.2.2.2.2.2.2.2.2.2.2.1
theorem H_F_statementT_l0 : PC9 M_F_statementT_l0 F_statementT_l0 := ALL_F_nodeT.2.2.2.2.2.2.2.2.2.2.2.2.2.1
theorem H_F_expressionT : PC9 M_F_expressionT F_expressionT := ALL_F_nodeT.2.2.2.2.2.2.2.2.2.2.2.2.2.2
def F_strings_Builder_Lens1 (l : LU) : Option Int := some ((l.length : Int))
theorem H_F_strings_Builder_Lens1 (l : LU) (r : Int) (h : F_strings_Builder_Lens1 l = some r) : AC Tryd.prog G 28 [.ptr 0 0 0] 2 [(0, .var 50 [.optr 0 0 0, .bs 1 1 1 0 l.length]), (1, .row 5 (l.map c8).flatten)] (.int .i64 r) 2 [(0, .var 50 [.optr 0 0 0, .bs 1 1 1 0 l.length]), (1, .row 5 (l.map c8).flatten)] := by
 cases h; exact AC_Len l
def F_strings_Builder_Strings1 (l : LU) : Option BA := some ((⟨l.toArray⟩ : BA))
theorem H_F_strings_Builder_Strings1 (l : LU) (r : BA) (h : F_strings_Builder_Strings1 l = some r) : AC Tryd.prog G 29 [.ptr 0 0 0] 2 [(0, .var 50 [.optr 0 0 0, .bs 1 1 1 0 l.length]), (1, .row 5 (l.map c8).flatten)] (.str r) 2 [(0, .dead), (1, .dead)] := by
 cases h; exact AC_String l
def F_print_Text (a0 : Node) : Option (BA × Int) :=
 F_grammar_Check a0 >>= fun x1 =>
 if (!decide (x1 = (0 : Int))) = true then
  some ((⟨#[]⟩ : BA), x1)
 else
  F_nodeT (⟨#[]⟩ : BA) ([] : LU) a0 (⟨#[]⟩ : BA) (0 : Int) >>= fun x2 =>
  F_strings_Builder_Lens1 x2.2.2 >>= fun x3 =>
  if (decide ((65536 : Int) < x3)) = true then
   some ((⟨#[]⟩ : BA), (3 : Int))
  else
   F_strings_Builder_Strings1 x2.2.2 >>= fun x4 =>
   some (x4, (0 : Int))
@[reducible] def M_F_print_Text (a0 : Node) (r : BA × Int) : Prop :=
  Fn Tryd.prog G 10 [(.agg (zk a0))] (.tup [(.str r.1), (.int .i64 r.2)])
theorem H_F_print_Text : PC1 M_F_print_Text F_print_Text := fun a0 r h => by
 rw [F_print_Text.eq_def] at h
 refine zh (T := tt) (N := 22) (rs := [.tmp 2, .tmp 3]) (fun vs w => by simp) Tryd.func10 rfl rfl rfl rfl (by kernel_rfl) (z6 rfl) (zn _ rfl) ?_
 refine kr [] ?_
 obtain ⟨x1, hx, h⟩ := bind_some h
 refine ql (H_F_grammar_Check _ _ hx) ?_
 refine kr [] ?_
 refine qg (fun hb => ?_) (fun hb => ?_)
 ·replace h := qv hb h
  refine kr [] ?_
  cases h
  exact kf
 ·replace h := qw hb h
  refine kr [] ?_
  obtain ⟨x2, hx, h⟩ := bind_some h
  refine qb (ACalls.ghost (e := 5) (ACalls.wkg (AC.go (objs := [(0, .var 25 (zk a0)), (1, .var 50 [(.optr 1 1 0), (.bs 1 4 4 0 ([] : LU).length)]), (2, .var 9 [(.str (⟨#[]⟩ : BA))]), (3, .var 45 [(.fn 23 [(.ptr 2 2 0), (.ptr 1 1 0)])]), (4, .row 5 (([] : LU).map c8).flatten)]) (xs := [(.ptr 3 3 0), (.agg (zk a0)), (.str (⟨#[]⟩ : BA)), (.int .i64 (0 : Int))]) (H_F_nodeT _ _ _ _ _ _ hx) [3, 2, 1, 4] [3, 2, 1, 4] rfl rfl rfl rfl rfl rfl rfl rfl rfl) (zq (jd _) (zq (jd _) (zq (jd _) (zq (jd _) yv)))) (zi (y9 (qy (wkg1_onil rfl) (qy (jx rfl) wb)) (ya _))))) ?_
  refine kr [] ?_
  obtain ⟨x3, hx, h⟩ := bind_some h
  refine qb (AC.g9 (H_F_strings_Builder_Lens1 _ _ hx) [1, 4] [1, 5]) ?_
  refine kr [] ?_
  refine qg (fun hb => ?_) (fun hb => ?_)
  ·replace h := qv hb h
   refine kr [] ?_
   cases h
   exact kf
  ·replace h := qw hb h
   refine kr [] ?_
   obtain ⟨x4, hx, h⟩ := bind_some h
   refine qb (AC.g9 (H_F_strings_Builder_Strings1 _ _ hx) [1, 4] [1, 5]) ?_
   refine kr [] ?_
   cases h
   exact kf
mutual
def F_tree_Bare (a0 : Node) : Option Node :=
 F_tree_Bare_l0 a0.kids a0.kind a0.text ([] : LB) ([] : LN)
 partial_fixpoint
def F_tree_Bare_l0 (a0 : LN) (o2_0 : Int) (o2_1 : BA) (o2_2 : LB) (o2_3 : LN) : Option Node :=
 match a0 with
 | [] =>
   some (Node.mk o2_0 o2_1 o2_2 o2_3)
 | x_0 :: a0 =>
   F_tree_Bare (qa x_0) >>= fun x1 =>
   app 72 o2_3 ([x1]) >>= fun x2 =>
   F_tree_Bare_l0 (qa a0) (qa o2_0) (qa o2_1) (qa o2_2) (qa x2)
 partial_fixpoint
end
@[reducible] def M_F_tree_Bare (a0 : Node) (r : Node) : Prop :=
  Fn Tryd.prog G 30 [(.agg (zk a0))] (.agg (zk r))
@[reducible] def M_F_tree_Bare_l0 (a0 : LN) (o2_0 : Int) (o2_1 : BA) (o2_2 : LB) (o2_3 : LN) (r : Node) : Prop :=
  ∀ (l0 : LN) (j0 : Nat), l0.drop j0 = a0 → j0 ≤ l0.length → l0.length ≤ 9223372036854775807 → Ok Tryd.prog G tt 27 0 (Ret Tryd.prog [.cell 2 25] (fun y H => Told Tryd.prog G H y (.agg (zk r)))) (.again (ja [] Tryd.f30 0).1 (ja [] Tryd.f30 0).2 (.n .undef (.n .undef (.n (.ptr 2 2 0) .z .z) (.n .undef .z (.n (.int .i64 ((l0.map Node.cells).length : Int)) .z .z))) (.n (.ptr 1 1 0) (.n .undef .z (.n (.sl 4 false (l0.map Node.cells)) .z .z)) (.n .undef .z (.n (.int .i64 ((j0 : Nat) : Int)) .z .z)))) 4 [(0, .dead), (1, .var 25 [(.int .i64 0), (.str ⟨#[]⟩), (.sl 1 false (([] : LB).map sc)), (.sl 4 false (([] : LN).map Node.cells))]), (2, .var 25 [(.int .i64 o2_0), (.str o2_1), (.sl 1 false (o2_2.map sc)), (.bs 4 3 3 0 o2_3.length)]), (3, .row 25 (o2_3.map Node.cells).flatten)])
theorem ALL_F_tree_Bare : PC1 M_F_tree_Bare F_tree_Bare ∧ PC5 M_F_tree_Bare_l0 F_tree_Bare_l0 := by
 refine F_tree_Bare.mutual_partial_correctness M_F_tree_Bare M_F_tree_Bare_l0 (fun F_tree_Bare_l0 H_F_tree_Bare_l0 a0 r h => ?_) (fun F_tree_Bare F_tree_Bare_l0 H_F_tree_Bare H_F_tree_Bare_l0 a0 o2_0 o2_1 o2_2 o2_3 r h => ?_)
 ·unfold qa at h
  refine zh (T := tt) (N := 27) (rs := [.cell 2 25]) (fun vs w => by simp) Tryd.func30 rfl rfl rfl rfl (by kernel_rfl) (z6 rfl) (zn _ rfl) ?_
  refine kr [] ?_
  refine Ok_ownF 2 3 4 25 rfl rfl rfl ?_
  refine Zr 12 rfl (fun hm => ?_)
  exact z7 (by kernel_rfl) lA (H_F_tree_Bare_l0 _ _ _ _ _ _ h a0.kids 0 rfl (Nat.zero_le _) (wy hm))
 ·unfold qa at h
  intro l0 j0 hl0 hj0 hm0
  refine ji ?_
  cases a0 with
  | nil =>
    have hb := uz (C := Node.cells) hl0 hj0
    refine kr [] ?_
    refine qi hb ?_
    refine kr [] ?_
    cases h
    exact zj env rfl rfl (Qs (viewT_one (view_agg (yh (yx rfl) (yh (vi rfl) (yh (Ja (.inl rfl)) (yh (ud qj rfl) viewL_nil))))) (by simp)))
  | cons x_0 a0 =>
    obtain ⟨hb, hx0, hd0, hk0, hw0⟩ := wx (C := Node.cells) hl0 hm0
    refine kr [] ?_
    refine qh hb ?_
    refine kr [] ?_
    refine uu env rfl rfl rfl rfl (m := j0) rfl (range_at hx0 (Node.cells_eq x_0)) ?_
    refine kr [] ?_
    obtain ⟨x1, hx, h⟩ := bind_some h
    refine ql (H_F_tree_Bare _ _ hx) ?_
    refine kr [] ?_
    obtain ⟨x2, hx, h⟩ := bind_some h
    have hp_x2 := Zp hx (by simp)
    refine Qd (C := Node.cells) env hx rfl (show _ = AV.sl _ _ (List.map Node.cells [x1]) from (by simp only [List.map_cons, List.map_nil, Node.cells_eq]; rfl)) (by simp) Node.cells_len rfl rfl rfl rfl rfl (by decide) rfl rfl rfl ?_
    refine kr [] ?_
    exact zx (by kernel_rfl) (less_at (by simp only [hw0]; simp <;> (repeat' apply And.intro) <;> first | rfl | exact fun x a _ h => (qj.all a x h).2) (by simp <;> (repeat' apply And.intro) <;> first | rfl | exact fun x a _ h => (qj.all a x h).2)) (H_F_tree_Bare_l0 _ _ _ _ _ _ h l0 (j0 + 1) hd0 hk0 hm0)
theorem H_F_tree_Bare : PC1 M_F_tree_Bare F_tree_Bare := ALL_F_tree_Bare.1
theorem H_F_tree_Bare_l0 : PC5 M_F_tree_Bare_l0 F_tree_Bare_l0 := ALL_F_tree_Bare.2
def F_print_Plain (a0 : Node) : Option (BA × Int) :=
 F_grammar_Check a0 >>= fun x1 =>
 if (!decide (x1 = (0 : Int))) = true then
  some ((⟨#[]⟩ : BA), x1)
 else
  F_tree_Bare a0 >>= fun x2 =>
  F_print_Text x2 >>= fun x3 =>
  some (x3.1, x3.2)
@[reducible] def M_F_print_Plain (a0 : Node) (r : BA × Int) : Prop :=
  Fn Tryd.prog G 11 [(.agg (zk a0))] (.tup [(.str r.1), (.int .i64 r.2)])
theorem H_F_print_Plain : PC1 M_F_print_Plain F_print_Plain := fun a0 r h => by
 rw [F_print_Plain.eq_def] at h
 refine zh (T := tt) (N := 15) (rs := [.tmp 2, .tmp 3]) (fun vs w => by simp) Tryd.func11 rfl rfl rfl rfl (by kernel_rfl) (z6 rfl) (zn _ rfl) ?_
 refine kr [] ?_
 obtain ⟨x1, hx, h⟩ := bind_some h
 refine ql (H_F_grammar_Check _ _ hx) ?_
 refine kr [] ?_
 refine qg (fun hb => ?_) (fun hb => ?_)
 ·replace h := qv hb h
  refine kr [] ?_
  cases h
  exact kf
 ·replace h := qw hb h
  refine kr [] ?_
  obtain ⟨x2, hx, h⟩ := bind_some h
  refine ql (H_F_tree_Bare _ _ hx) ?_
  refine kr [] ?_
  obtain ⟨x3, hx, h⟩ := bind_some h
  refine ql (H_F_print_Text _ _ hx) ?_
  refine kr [] ?_
  cases h
  exact kf
def F_emitW (a0 : BA) (a1 : BA) (a2 : LB) : Option LB :=
 app 16 a2 ([a1]) >>= fun x1 =>
 some x1
@[reducible] def M_F_emitW (a0 : BA) (a1 : BA) (a2 : LB) (r : LB) : Prop :=
  AC Tryd.prog G 32 [(.str a0), (.str a1), (.ptr 0 0 0)] 2 [(0, .var 22 [(.bs 1 1 1 0 a2.length)]), (1, .row 9 (a2.map sc).flatten)] (.tup []) 3 [(0, .var 22 [(.bs 1 1 2 0 r.length)]), (2, .row 9 (r.map sc).flatten)]
theorem H_F_emitW : PC3 M_F_emitW F_emitW := fun a0 a1 a2 r h => by
 rw [F_emitW.eq_def] at h
 refine ⟨?_, (q8 rfl rfl (ze qp rfl zr)), (qk (qn qp zg)), (q9 rfl (zf qp zt)), (qk (qn qp zg)), rfl, rfl, rfl, rfl⟩
 refine zo (T := tt) (N := 9) (rs := []) (fun vs w => by simp) Tryd.func32 rfl rfl rfl (by kernel_rfl) (by kernel_rfl) ?_
 refine kr [] ?_
 obtain ⟨x1, hx, h⟩ := bind_some h
 have hp_x1 := Zp hx (by simp)
 refine Qd (C := sc) env hx rfl rfl (by simp) (fun _ => rfl) rfl rfl rfl rfl rfl (by decide) rfl rfl rfl ?_
 refine kr [] ?_
 cases h
 exact qx env rfl (tS [some 0, some 1] (sV (lS lN) (sR qp qt)) (qz qu))
def F_ownW_t22 (t1 : BA) (t2 : BA) (t6 : BA) (o0_1 : Node) (a0 : Int) (a1 : BA) (a2 : LB) (a3 : LN) (o0_3 : Int) (o2 : LB) : Option (LB × LB) :=
 app 16 a2 ([t1]) >>= fun x2 =>
 F_emitW t6 t2 o2 >>= fun x3 =>
 some (x3, x2)
@[reducible] def M_F_ownW_t22 (t1 : BA) (t2 : BA) (t6 : BA) (o0_1 : Node) (a0 : Int) (a1 : BA) (a2 : LB) (a3 : LN) (o0_3 : Int) (o2 : LB) (r : LB × LB) : Prop :=
  Ok Tryd.prog G tt 53 6 (Ret Tryd.prog [] (fun y H => j3 Tryd.prog G 6 H y (.tup []) ⟨8, [(0, .var 67 [(.ptr 1 1 0), (.int .i64 o0_1.kind), (.str o0_1.text), (.sl 1 false (o0_1.gaps.map sc)), (.sl 4 false (o0_1.kids.map Node.cells)), (.int .i64 a0), (.str a1), (.bs 1 4 7 0 r.2.length), (.bs 4 5 5 0 a3.length), (.int .i64 o0_3)]), (1, .var 45 [(.fn 32 [(.ptr 2 2 0)])]), (2, .var 22 [(.bs 1 3 6 0 r.1.length)]), (6, .row 9 (r.1.map sc).flatten), (7, .row 9 (r.2.map sc).flatten), (5, .row 25 (a3.map Node.cells).flatten)]⟩)) (.go [] (yq [22] Tryd.f60 22) [] (.n (.ptr 0 0 0) (.n (.str t1) .z .z) (.n (.str t2) .z (.n (.str t6) .z .z))) 8 [(0, .var 67 [(.ptr 1 1 0), (.int .i64 o0_1.kind), (.str o0_1.text), (.sl 1 false (o0_1.gaps.map sc)), (.sl 4 false (o0_1.kids.map Node.cells)), (.int .i64 a0), (.str a1), (.bs 1 4 7 0 a2.length), (.bs 4 5 5 0 a3.length), (.int .i64 o0_3)]), (1, .var 45 [(.fn 32 [(.ptr 2 2 0)])]), (2, .var 22 [(.bs 1 3 6 0 o2.length)]), (6, .row 9 (o2.map sc).flatten), (7, .row 9 (a2.map sc).flatten), (5, .row 25 (a3.map Node.cells).flatten)])
theorem H_F_ownW_t22 : PC10 M_F_ownW_t22 F_ownW_t22 := fun t1 t2 t6 o0_1 a0 a1 a2 a3 o0_3 o2 r h => by
 rw [F_ownW_t22.eq_def] at h
 refine kr [22] ?_
 obtain ⟨x2, hx, h⟩ := bind_some h
 have hp_x2 := Zp hx (by simp)
 refine Qd (C := sc) env hx rfl rfl (by simp) (fun _ => rfl) rfl rfl rfl rfl rfl (by decide) rfl rfl rfl ?_
 refine kr [22] ?_
 obtain ⟨x3, hx, h⟩ := bind_some h
 refine qb (AC.g9 (H_F_emitW _ _ _ _ hx) [2, 3] [2, 6]) ?_
 refine kr [22] ?_
 cases h
 exact qx env rfl (tS [some 0, some 1, some 2, some 3, some 4, some 5] (sV (lS (lS (lS (lS (lS (lS (lS (lS (lS (lS lN)))))))))) (sV (lS lN) (sV (lS lN) (sR qp (sR qp (sR qj qt)))))) (qz qu))
def F_ownW (a0 : LB) (a0_n : Node) (a3 : Int) (a4 : BA) (a5 : LB) (a6 : LN) (a7 : Int) (a1 : BA) (a2 : BA) : Option (LB × LB) :=
 if (decide ((a5.length : Int) < ((a0_n.gaps.map sc).length : Int))) = true then
  ix a0_n.gaps (a5.length : Int) >>= fun x1 =>
  F_ownW_t22 a1 a2 x1 a0_n a3 a4 a5 a6 a7 a0
 else
  F_ownW_t22 a1 a2 a1 a0_n a3 a4 a5 a6 a7 a0
@[reducible] def M_F_ownW (a0 : LB) (a0_n : Node) (a3 : Int) (a4 : BA) (a5 : LB) (a6 : LN) (a7 : Int) (a1 : BA) (a2 : BA) (r : LB × LB) : Prop :=
  AC Tryd.prog G 60 [(.ptr 0 0 0), (.str a1), (.str a2)] 6 [(0, .var 67 [(.ptr 1 1 0), (.int .i64 a0_n.kind), (.str a0_n.text), (.sl 1 false (a0_n.gaps.map sc)), (.sl 4 false (a0_n.kids.map Node.cells)), (.int .i64 a3), (.str a4), (.bs 1 4 4 0 a5.length), (.bs 4 5 5 0 a6.length), (.int .i64 a7)]), (1, .var 45 [(.fn 32 [(.ptr 2 2 0)])]), (2, .var 22 [(.bs 1 3 3 0 a0.length)]), (3, .row 9 (a0.map sc).flatten), (4, .row 9 (a5.map sc).flatten), (5, .row 25 (a6.map Node.cells).flatten)] (.tup []) 8 [(0, .var 67 [(.ptr 1 1 0), (.int .i64 a0_n.kind), (.str a0_n.text), (.sl 1 false (a0_n.gaps.map sc)), (.sl 4 false (a0_n.kids.map Node.cells)), (.int .i64 a3), (.str a4), (.bs 1 4 7 0 r.2.length), (.bs 4 5 5 0 a6.length), (.int .i64 a7)]), (1, .var 45 [(.fn 32 [(.ptr 2 2 0)])]), (2, .var 22 [(.bs 1 3 6 0 r.1.length)]), (6, .row 9 (r.1.map sc).flatten), (7, .row 9 (r.2.map sc).flatten), (5, .row 25 (a6.map Node.cells).flatten)]
theorem H_F_ownW : PC9 M_F_ownW F_ownW := fun a0 a0_n a3 a4 a5 a6 a7 a1 a2 r h => by
 rw [F_ownW.eq_def] at h
 refine ⟨?_, (q8 rfl rfl (q8 rfl rfl (q8 rfl rfl (ze qp rfl (ze qp rfl (ze qj rfl zr)))))), (qk (qk (qk (qn qp (qn qp (qn qj zg)))))), (q9 rfl (q9 rfl (q9 rfl (zf qp (zf qp (zf qj zt)))))), (qk (qk (qk (qn qp (qn qp (qn qj zg)))))), rfl, rfl, rfl, rfl⟩
 refine zo (T := tt) (N := 53) (rs := []) (fun vs w => by simp) Tryd.func60 rfl rfl rfl (by kernel_rfl) (by kernel_rfl) ?_
 refine kr [22] ?_
 refine qg (fun hb => ?_) (fun hb => ?_)
 ·replace h := qv hb h
  refine kr [22] ?_
  obtain ⟨x1, hx, h⟩ := bind_some h
  refine yt env hx rfl rfl rfl rfl rfl ?_
  refine kr [22] ?_
  exact zd (by kernel_rfl) rfl lQ (H_F_ownW_t22 _ _ _ _ _ _ _ _ _ _ _ h)
 ·replace h := qw hb h
  refine kr [22] ?_
  exact zd (by kernel_rfl) rfl lQ (H_F_ownW_t22 _ _ _ _ _ _ _ _ _ _ _ h)
def F_otherW_t33 (t1 : BA) (o0_1 : Node) (a0 : Int) (a1 : BA) (a2 : LB) (a3 : LN) (o0_3 : Int) (o2 : LB) : Option (LB × LB × LN × Int) :=
 F_ownW o2 o0_1 a0 a1 a2 a3 o0_3 t1 (⟨#[]⟩ : BA) >>= fun x78 =>
 some (x78.1, x78.2, a3, o0_3)
@[reducible] def M_F_otherW_t33 (t1 : BA) (o0_1 : Node) (a0 : Int) (a1 : BA) (a2 : LB) (a3 : LN) (o0_3 : Int) (o2 : LB) (r : LB × LB × LN × Int) : Prop :=
  Ok Tryd.prog G tt 146 6 (Ret Tryd.prog [] (fun y H => j3 Tryd.prog G 6 H y (.tup []) ⟨9, [(0, .var 67 [(.ptr 1 1 0), (.int .i64 o0_1.kind), (.str o0_1.text), (.sl 1 false (o0_1.gaps.map sc)), (.sl 4 false (o0_1.kids.map Node.cells)), (.int .i64 a0), (.str a1), (.bs 1 4 7 0 r.2.1.length), (.bs 4 5 8 0 r.2.2.1.length), (.int .i64 r.2.2.2)]), (1, .var 45 [(.fn 32 [(.ptr 2 2 0)])]), (2, .var 22 [(.bs 1 3 6 0 r.1.length)]), (6, .row 9 (r.1.map sc).flatten), (7, .row 9 (r.2.1.map sc).flatten), (8, .row 25 (r.2.2.1.map Node.cells).flatten)]⟩)) (.go [] (yq [22, 33] Tryd.f43 33) [] (.n (.ptr 0 0 0) (.n (.str t1) .z .z) .z) 12 [(0, .var 67 [(.ptr 1 1 0), (.int .i64 o0_1.kind), (.str o0_1.text), (.sl 1 false (o0_1.gaps.map sc)), (.sl 4 false (o0_1.kids.map Node.cells)), (.int .i64 a0), (.str a1), (.bs 1 4 10 0 a2.length), (.bs 4 5 11 0 a3.length), (.int .i64 o0_3)]), (1, .var 45 [(.fn 32 [(.ptr 2 2 0)])]), (2, .var 22 [(.bs 1 3 9 0 o2.length)]), (9, .row 9 (o2.map sc).flatten), (10, .row 9 (a2.map sc).flatten), (11, .row 25 (a3.map Node.cells).flatten)])
theorem H_F_otherW_t33 : PC8 M_F_otherW_t33 F_otherW_t33 := fun t1 o0_1 a0 a1 a2 a3 o0_3 o2 r h => by
 rw [F_otherW_t33.eq_def] at h
 refine kr [22, 33] ?_
 obtain ⟨x78, hx, h⟩ := bind_some h
 refine qb (AC.g9 (H_F_ownW _ _ _ _ _ _ _ _ _ _ hx) [0, 1, 2, 3, 4, 5] [0, 1, 2, 9, 10, 11]) ?_
 refine kr [22, 33] ?_
 cases h
 exact qx env rfl (tS [some 0, some 1, some 2, some 3, some 4, some 5] (sV (lS (lS (lS (lS (lS (lS (lS (lS (lS (lS lN)))))))))) (sV (lS lN) (sV (lS lN) (sR qp (sR qp (sR qj qt)))))) (qz qu))
def F_nodeW_t23 (o1 : LB) (o5_1 : Node) (a0 : Int) (a1 : BA) (a2 : LB) (a3 : LN) (o5_3 : Int) : Option (Node × LB) :=
 some ((Node.mk a0 a1 a2 a3), o1)
@[reducible] def M_F_nodeW_t23 (o1 : LB) (o5_1 : Node) (a0 : Int) (a1 : BA) (a2 : LB) (a3 : LN) (o5_3 : Int) (r : Node × LB) : Prop :=
  Ok Tryd.prog G tt 41 3 (Ret Tryd.prog [.cell 8 25] (fun y H => j3 Tryd.prog G 3 H y (.agg (zk r.1)) ⟨4, [(0, .var 45 [(.fn 32 [(.ptr 1 1 0)])]), (1, .var 22 [(.bs 1 2 3 0 r.2.length)]), (3, .row 9 (r.2.map sc).flatten)]⟩)) (.go [] (yq [23, 30] Tryd.f22 23) [] (.n .undef (.n .undef .z (.n .undef (.n (.ptr 5 5 0) .z .z) .z)) (.n .undef (.n .undef (.n (.ptr 4 4 0) .z .z) .z) .z)) 12 [(0, .var 45 [(.fn 32 [(.ptr 1 1 0)])]), (1, .var 22 [(.bs 1 2 11 0 o1.length)]), (11, .row 9 (o1.map sc).flatten), (3, .dead), (4, .var 25 [(.int .i64 0), (.str ⟨#[]⟩), (.sl 1 false (([] : LB).map sc)), (.sl 4 false (([] : LN).map Node.cells))]), (5, .var 67 [(.ptr 0 0 0), (.int .i64 o5_1.kind), (.str o5_1.text), (.sl 1 false (o5_1.gaps.map sc)), (.sl 4 false (o5_1.kids.map Node.cells)), (.int .i64 a0), (.str a1), (.bs 1 6 9 0 a2.length), (.bs 4 7 10 0 a3.length), (.int .i64 o5_3)]), (9, .row 9 (a2.map sc).flatten), (10, .row 25 (a3.map Node.cells).flatten)])
theorem H_F_nodeW_t23 : PC7 M_F_nodeW_t23 F_nodeW_t23 := fun o1 o5_1 a0 a1 a2 a3 o5_3 r h => by
 rw [F_nodeW_t23.eq_def] at h
 refine kr [23, 30] ?_
 cases h
 exact vh env rfl rfl (tS [some 0, some 1, some 2] (sV (lS lN) (sV (lS lN) (sR qp qt))) (vp (resA_agg (y0 (jr (yx rfl) rfl) (y0 (jr (vi rfl) rfl) (y0 (jr (ud qp rfl) rfl) (y0 (jr (ud qj rfl) rfl) resL_nil))))) (by simp)))
def F_nodeW_t30 (o1 : LB) (o5_1 : Node) (a0 : Int) (a1 : BA) (a2 : LB) (a3 : LN) (o5_3 : Int) : Option (Node × LB) :=
 F_nodeW_t23 o1 o5_1 a0 a1 a2 a3 o5_3
@[reducible] def M_F_nodeW_t30 (o1 : LB) (o5_1 : Node) (a0 : Int) (a1 : BA) (a2 : LB) (a3 : LN) (o5_3 : Int) (r : Node × LB) : Prop :=
  Ok Tryd.prog G tt 41 3 (Ret Tryd.prog [.cell 8 25] (fun y H => j3 Tryd.prog G 3 H y (.agg (zk r.1)) ⟨4, [(0, .var 45 [(.fn 32 [(.ptr 1 1 0)])]), (1, .var 22 [(.bs 1 2 3 0 r.2.length)]), (3, .row 9 (r.2.map sc).flatten)]⟩)) (.go [] (yq [23, 30] Tryd.f22 30) [] (.n .undef (.n .undef .z (.n .undef (.n (.ptr 5 5 0) .z .z) .z)) (.n .undef (.n .undef (.n (.ptr 4 4 0) .z .z) .z) .z)) 12 [(0, .var 45 [(.fn 32 [(.ptr 1 1 0)])]), (1, .var 22 [(.bs 1 2 11 0 o1.length)]), (11, .row 9 (o1.map sc).flatten), (3, .dead), (4, .var 25 [(.int .i64 0), (.str ⟨#[]⟩), (.sl 1 false (([] : LB).map sc)), (.sl 4 false (([] : LN).map Node.cells))]), (5, .var 67 [(.ptr 0 0 0), (.int .i64 o5_1.kind), (.str o5_1.text), (.sl 1 false (o5_1.gaps.map sc)), (.sl 4 false (o5_1.kids.map Node.cells)), (.int .i64 a0), (.str a1), (.bs 1 6 9 0 a2.length), (.bs 4 7 10 0 a3.length), (.int .i64 o5_3)]), (9, .row 9 (a2.map sc).flatten), (10, .row 25 (a3.map Node.cells).flatten)])
theorem H_F_nodeW_t30 : PC7 M_F_nodeW_t30 F_nodeW_t30 := fun o1 o5_1 a0 a1 a2 a3 o5_3 r h => by
 rw [F_nodeW_t30.eq_def] at h
 refine kr [23, 30] ?_
 exact zd (by kernel_rfl) rfl lQ (H_F_nodeW_t23 _ _ _ _ _ _ _ _ h)
mutual
def F_nodeW (a0 : LB) (a1 : Node) (a2 : BA) (a3 : Int) : Option (Node × LB) :=
 F_grammar_Group a1.kind >>= fun x1 =>
 if (decide (x1 = (3 : Int))) = true then
  F_expressionW (qa a0) (qa a1) a1.kind a1.text ([] : LB) ([] : LN) (qa a3) (qa a2) >>= fun x2 =>
  F_nodeW_t23 x2.1 (qa a1) a1.kind a1.text x2.2.1 x2.2.2 (qa a3)
 else
  F_grammar_Group a1.kind >>= fun x3 =>
  if (decide (x3 = (2 : Int))) = true then
   F_statementW (qa a0) (qa a1) a1.kind a1.text ([] : LB) ([] : LN) (qa a3) (qa a2) >>= fun x4 =>
   F_nodeW_t30 x4.1 (qa a1) a1.kind a1.text x4.2.1 x4.2.2 (qa a3)
  else
   F_otherW (qa a0) (qa a1) a1.kind a1.text ([] : LB) ([] : LN) (qa a3) (qa a2) >>= fun x5 =>
   F_nodeW_t30 x5.1 (qa a1) a1.kind a1.text x5.2.1 x5.2.2.1 x5.2.2.2
 partial_fixpoint
def F_expressionW (a0 : LB) (a0_n : Node) (a2 : Int) (a3 : BA) (a4 : LB) (a5 : LN) (a6 : Int) (a1 : BA) : Option (LB × LB × LN) :=
 if (decide (a0_n.kind = (20 : Int))) = true then
  F_ownW (qa a0) (qa a0_n) (qa a2) (qa a3) (qa a4) (qa a5) (qa a6) (qa a1) a0_n.text >>= fun x6 =>
  F_ownW x6.1 (qa a0_n) (qa a2) (qa a3) x6.2 (qa a5) (qa a6) (⟨#[]⟩ : BA) (⟨#[40]⟩ : BA) >>= fun x7 =>
  F_restW x7.1 (qa a0_n) (qa a2) (qa a3) x7.2 (qa a5) (qa a6) >>= fun x8 =>
  some (x8.1, x8.2.1, x8.2.2)
 else
  if (decide (a0_n.kind = (21 : Int))) = true then
   F_kidW (qa a0) (qa a0_n) (qa a2) (qa a3) (qa a4) (qa a5) (qa a6) (qa a1) >>= fun x9 =>
   F_ownW x9.1 (qa a0_n) (qa a2) (qa a3) (qa a4) x9.2 (qa a6) (⟨#[]⟩ : BA) (⟨#[46]⟩ : BA) >>= fun x10 =>
   F_ownW x10.1 (qa a0_n) (qa a2) (qa a3) x10.2 x9.2 (qa a6) (⟨#[]⟩ : BA) a0_n.text >>= fun x11 =>
   F_ownW x11.1 (qa a0_n) (qa a2) (qa a3) x11.2 x9.2 (qa a6) (⟨#[]⟩ : BA) (⟨#[40]⟩ : BA) >>= fun x12 =>
   F_restW x12.1 (qa a0_n) (qa a2) (qa a3) x12.2 x9.2 (qa a6) >>= fun x13 =>
   some (x13.1, x13.2.1, x13.2.2)
  else
   if (decide (a0_n.kind = (22 : Int))) = true then
    F_ownW (qa a0) (qa a0_n) (qa a2) (qa a3) (qa a4) (qa a5) (qa a6) (qa a1) (⟨#[110, 101, 119]⟩ : BA) >>= fun x14 =>
    F_ownW x14.1 (qa a0_n) (qa a2) (qa a3) x14.2 (qa a5) (qa a6) (⟨#[32]⟩ : BA) a0_n.text >>= fun x15 =>
    F_ownW x15.1 (qa a0_n) (qa a2) (qa a3) x15.2 (qa a5) (qa a6) (⟨#[]⟩ : BA) (⟨#[40]⟩ : BA) >>= fun x16 =>
    F_ownW x16.1 (qa a0_n) (qa a2) (qa a3) x16.2 (qa a5) (qa a6) (⟨#[]⟩ : BA) (⟨#[41]⟩ : BA) >>= fun x17 =>
    some (x17.1, x17.2, a5)
   else
    if (decide (a0_n.kind = (24 : Int))) = true then
     F_kidW (qa a0) (qa a0_n) (qa a2) (qa a3) (qa a4) (qa a5) (qa a6) (qa a1) >>= fun x18 =>
     F_ownW x18.1 (qa a0_n) (qa a2) (qa a3) (qa a4) x18.2 (qa a6) (⟨#[32]⟩ : BA) a0_n.text >>= fun x19 =>
     F_kidW x19.1 (qa a0_n) (qa a2) (qa a3) x19.2 x18.2 (qa a6) (⟨#[32]⟩ : BA) >>= fun x20 =>
     some (x20.1, x19.2, x20.2)
    else
     if (decide (a0_n.kind = (25 : Int))) = true then
      F_ownW (qa a0) (qa a0_n) (qa a2) (qa a3) (qa a4) (qa a5) (qa a6) (qa a1) a0_n.text >>= fun x21 =>
      F_kidW x21.1 (qa a0_n) (qa a2) (qa a3) x21.2 (qa a5) (qa a6) (⟨#[]⟩ : BA) >>= fun x22 =>
      some (x22.1, x21.2, x22.2)
     else
      if (decide (a0_n.kind = (26 : Int))) = true then
       F_ownW (qa a0) (qa a0_n) (qa a2) (qa a3) (qa a4) (qa a5) (qa a6) (qa a1) (⟨#[40]⟩ : BA) >>= fun x23 =>
       F_kidW x23.1 (qa a0_n) (qa a2) (qa a3) x23.2 (qa a5) (qa a6) (⟨#[]⟩ : BA) >>= fun x24 =>
       F_ownW x24.1 (qa a0_n) (qa a2) (qa a3) x23.2 x24.2 (qa a6) (⟨#[]⟩ : BA) (⟨#[41]⟩ : BA) >>= fun x25 =>
       some (x25.1, x25.2, x24.2)
      else
       F_ownW (qa a0) (qa a0_n) (qa a2) (qa a3) (qa a4) (qa a5) (qa a6) (qa a1) a0_n.text >>= fun x26 =>
       some (x26.1, x26.2, a5)
 partial_fixpoint
def F_statementW (a0 : LB) (a0_n : Node) (a2 : Int) (a3 : BA) (a4 : LB) (a5 : LN) (a6 : Int) (a1 : BA) : Option (LB × LB × LN) :=
 if (decide (a0_n.kind = (10 : Int))) = true then
  F_namedW (qa a0) (qa a0_n) (qa a2) (qa a3) (qa a4) (qa a5) (qa a6) (qa a1) (⟨#[108, 101, 116]⟩ : BA) >>= fun x27 =>
  some (x27.1, x27.2.1, x27.2.2)
 else
  if (decide (a0_n.kind = (11 : Int))) = true then
   F_ownW (qa a0) (qa a0_n) (qa a2) (qa a3) (qa a4) (qa a5) (qa a6) (qa a1) a0_n.text >>= fun x28 =>
   F_ownW x28.1 (qa a0_n) (qa a2) (qa a3) x28.2 (qa a5) (qa a6) (⟨#[32]⟩ : BA) (⟨#[61]⟩ : BA) >>= fun x29 =>
   F_kidW x29.1 (qa a0_n) (qa a2) (qa a3) x29.2 (qa a5) (qa a6) (⟨#[32]⟩ : BA) >>= fun x30 =>
   F_ownW x30.1 (qa a0_n) (qa a2) (qa a3) x29.2 x30.2 (qa a6) (⟨#[]⟩ : BA) (⟨#[59]⟩ : BA) >>= fun x31 =>
   some (x31.1, x31.2, x30.2)
  else
   if (decide (a0_n.kind = (12 : Int))) = true then
    F_ownW (qa a0) (qa a0_n) (qa a2) (qa a3) (qa a4) (qa a5) (qa a6) (qa a1) (⟨#[114, 101, 116, 117, 114, 110]⟩ : BA) >>= fun x32 =>
    F_kidW x32.1 (qa a0_n) (qa a2) (qa a3) x32.2 (qa a5) (qa a6) (⟨#[32]⟩ : BA) >>= fun x33 =>
    F_ownW x33.1 (qa a0_n) (qa a2) (qa a3) x32.2 x33.2 (qa a6) (⟨#[]⟩ : BA) (⟨#[59]⟩ : BA) >>= fun x34 =>
    some (x34.1, x34.2, x33.2)
   else
    if (decide (a0_n.kind = (13 : Int))) = true then
     if (decide (a0_n.kind = (15 : Int))) = true then
      F_statementW_t53 (qa a1) (⟨#[119, 104, 105, 108, 101]⟩ : BA) (qa a0_n) (qa a2) (qa a3) (qa a4) (qa a5) (qa a6) (qa a0)
     else
      F_statementW_t53 (qa a1) (⟨#[105, 102]⟩ : BA) (qa a0_n) (qa a2) (qa a3) (qa a4) (qa a5) (qa a6) (qa a0)
    else
     if (decide (a0_n.kind = (15 : Int))) = true then
      if (decide (a0_n.kind = (15 : Int))) = true then
       F_statementW_t53 (qa a1) (⟨#[119, 104, 105, 108, 101]⟩ : BA) (qa a0_n) (qa a2) (qa a3) (qa a4) (qa a5) (qa a6) (qa a0)
      else
       F_statementW_t53 (qa a1) (⟨#[105, 102]⟩ : BA) (qa a0_n) (qa a2) (qa a3) (qa a4) (qa a5) (qa a6) (qa a0)
     else
      F_kidW (qa a0) (qa a0_n) (qa a2) (qa a3) (qa a4) (qa a5) (qa a6) (qa a1) >>= fun x35 =>
      F_ownW x35.1 (qa a0_n) (qa a2) (qa a3) (qa a4) x35.2 (qa a6) (⟨#[]⟩ : BA) (⟨#[59]⟩ : BA) >>= fun x36 =>
      some (x36.1, x36.2, x35.2)
 partial_fixpoint
def F_otherW (a0 : LB) (a0_n : Node) (a2 : Int) (a3 : BA) (a4 : LB) (a5 : LN) (a6 : Int) (a1 : BA) : Option (LB × LB × LN × Int) :=
 if (decide (a0_n.kind = (1 : Int))) = true then
  F_otherW_l0 a0_n.kids 0 (qa a1) (qa a0_n) (qa a2) (qa a3) (qa a4) (qa a5) (qa a6) (qa a0)
 else
  if (decide (a0_n.kind = (2 : Int))) = true then
   F_ownW (qa a0) (qa a0_n) (qa a2) (qa a3) (qa a4) (qa a5) (qa a6) (qa a1) (⟨#[102, 110]⟩ : BA) >>= fun x37 =>
   F_ownW x37.1 (qa a0_n) (qa a2) (qa a3) x37.2 (qa a5) (qa a6) (⟨#[32]⟩ : BA) a0_n.text >>= fun x38 =>
   F_kidW x38.1 (qa a0_n) (qa a2) (qa a3) x38.2 (qa a5) (qa a6) (⟨#[]⟩ : BA) >>= fun x39 =>
   F_kidW x39.1 (qa a0_n) (qa a2) (qa a3) x38.2 x39.2 (qa a6) (⟨#[32]⟩ : BA) >>= fun x40 =>
   F_kidW x40.1 (qa a0_n) (qa a2) (qa a3) x38.2 x40.2 (qa a6) (⟨#[32]⟩ : BA) >>= fun x41 =>
   some (x41.1, x38.2, x41.2, a6)
  else
   if (decide (a0_n.kind = (3 : Int))) = true then
    F_ownW (qa a0) (qa a0_n) (qa a2) (qa a3) (qa a4) (qa a5) (qa a6) (qa a1) (⟨#[40]⟩ : BA) >>= fun x42 =>
    F_restW x42.1 (qa a0_n) (qa a2) (qa a3) x42.2 (qa a5) (qa a6) >>= fun x43 =>
    some (x43.1, x43.2.1, x43.2.2, a6)
   else
    if (decide (a0_n.kind = (4 : Int))) = true then
     F_ownW (qa a0) (qa a0_n) (qa a2) (qa a3) (qa a4) (qa a5) (qa a6) (qa a1) a0_n.text >>= fun x44 =>
     F_kidW x44.1 (qa a0_n) (qa a2) (qa a3) x44.2 (qa a5) (qa a6) (⟨#[32]⟩ : BA) >>= fun x45 =>
     some (x45.1, x44.2, x45.2, a6)
    else
     if (decide (a0_n.kind = (5 : Int))) = true then
      F_ownW (qa a0) (qa a0_n) (qa a2) (qa a3) (qa a4) (qa a5) (qa a6) (qa a1) a0_n.text >>= fun x46 =>
      some (x46.1, x46.2, a5, a6)
     else
      if (decide (a0_n.kind = (6 : Int))) = true then
       F_ownW (qa a0) (qa a0_n) (qa a2) (qa a3) (qa a4) (qa a5) (qa a6) (qa a1) (⟨#[123]⟩ : BA) >>= fun x47 =>
       F_bodyW x47.1 (qa a0_n) (qa a2) (qa a3) x47.2 (qa a5) (qa a6) (0 : Int) >>= fun x48 =>
       some (x48.1, x48.2.1, x48.2.2.1, x48.2.2.2)
      else
       if (decide (a0_n.kind = (7 : Int))) = true then
        F_ownW (qa a0) (qa a0_n) (qa a2) (qa a3) (qa a4) (qa a5) (qa a6) (qa a1) (⟨#[99, 108, 97, 115, 115]⟩ : BA) >>= fun x49 =>
        F_ownW x49.1 (qa a0_n) (qa a2) (qa a3) x49.2 (qa a5) (qa a6) (⟨#[32]⟩ : BA) a0_n.text >>= fun x50 =>
        F_kidW x50.1 (qa a0_n) (qa a2) (qa a3) x50.2 (qa a5) (qa a6) (⟨#[32]⟩ : BA) >>= fun x51 =>
        F_ownW x51.1 (qa a0_n) (qa a2) (qa a3) x50.2 x51.2 (qa a6) (⟨#[32]⟩ : BA) (⟨#[123]⟩ : BA) >>= fun x52 =>
        F_bodyW x52.1 (qa a0_n) (qa a2) (qa a3) x52.2 x51.2 (qa a6) (1 : Int) >>= fun x53 =>
        some (x53.1, x53.2.1, x53.2.2.1, x53.2.2.2)
       else
        if (decide (a0_n.kind = (8 : Int))) = true then
         if (!decide (a0_n.text = (⟨#[]⟩ : BA))) = true then
          F_ownW (qa a0) (qa a0_n) (qa a2) (qa a3) (qa a4) (qa a5) (qa a6) (qa a1) (⟨#[58]⟩ : BA) >>= fun x54 =>
          F_ownW x54.1 (qa a0_n) (qa a2) (qa a3) x54.2 (qa a5) (qa a6) (⟨#[32]⟩ : BA) a0_n.text >>= fun x55 =>
          some (x55.1, x55.2, a5, a6)
         else
          some (a0, a4, a5, a6)
        else
         if (decide (a0_n.kind = (9 : Int))) = true then
          F_namedW (qa a0) (qa a0_n) (qa a2) (qa a3) (qa a4) (qa a5) (qa a6) (qa a1) (⟨#[99, 111, 110, 115, 116]⟩ : BA) >>= fun x56 =>
          some (x56.1, x56.2.1, x56.2.2, a6)
         else
          if (decide (a0_n.kind = (14 : Int))) = true then
           if (decide ((0 : Int) < ((a0_n.kids.map Node.cells).length : Int))) = true then
            F_ownW (qa a0) (qa a0_n) (qa a2) (qa a3) (qa a4) (qa a5) (qa a6) (qa a1) (⟨#[101, 108, 115, 101]⟩ : BA) >>= fun x57 =>
            F_kidW x57.1 (qa a0_n) (qa a2) (qa a3) x57.2 (qa a5) (qa a6) (⟨#[32]⟩ : BA) >>= fun x58 =>
            some (x58.1, x57.2, x58.2, a6)
           else
            some (a0, a4, a5, a6)
          else
           some (a0, a4, a5, a6)
 partial_fixpoint
def F_restW (a0 : LB) (a0_n : Node) (a1 : Int) (a2 : BA) (a3 : LB) (a4 : LN) (a5 : Int) : Option (LB × LB × LN) :=
 F_restW_l0 (qa true) (qa a0_n) (qa a1) (qa a2) (qa a3) (qa a4) (qa a5) (qa a0)
 partial_fixpoint
def F_kidW (a0 : LB) (a0_n : Node) (a2 : Int) (a3 : BA) (a4 : LB) (a5 : LN) (a6 : Int) (a1 : BA) : Option (LB × LN) :=
 ix a0_n.kids (a5.length : Int) >>= fun x59 =>
 F_nodeW (qa a0) (qa x59) (qa a1) (qa a6) >>= fun x60 =>
 app 72 a5 [x60.1] >>= fun x61 =>
 some (x60.2, x61)
 partial_fixpoint
def F_namedW (a0 : LB) (a0_n : Node) (a3 : Int) (a4 : BA) (a5 : LB) (a6 : LN) (a7 : Int) (a1 : BA) (a2 : BA) : Option (LB × LB × LN) :=
 F_ownW (qa a0) (qa a0_n) (qa a3) (qa a4) (qa a5) (qa a6) (qa a7) (qa a1) (qa a2) >>= fun x62 =>
 F_ownW x62.1 (qa a0_n) (qa a3) (qa a4) x62.2 (qa a6) (qa a7) (⟨#[32]⟩ : BA) a0_n.text >>= fun x63 =>
 F_ownW x63.1 (qa a0_n) (qa a3) (qa a4) x63.2 (qa a6) (qa a7) (⟨#[32]⟩ : BA) (⟨#[61]⟩ : BA) >>= fun x64 =>
 F_kidW x64.1 (qa a0_n) (qa a3) (qa a4) x64.2 (qa a6) (qa a7) (⟨#[32]⟩ : BA) >>= fun x65 =>
 F_ownW x65.1 (qa a0_n) (qa a3) (qa a4) x64.2 x65.2 (qa a7) (⟨#[]⟩ : BA) (⟨#[59]⟩ : BA) >>= fun x66 =>
 some (x66.1, x66.2, x65.2)
 partial_fixpoint
def F_bodyW (a0 : LB) (a0_n : Node) (a2 : Int) (a3 : BA) (a4 : LB) (a5 : LN) (a6 : Int) (a1 : Int) : Option (LB × LB × LN × Int) :=
 F_bodyW_l0 (qa a1) (qa a0_n) (qa a2) (qa a3) (qa a4) (qa a5) (IntKind.i64.wrap (a6 + (1 : Int))) (qa a0)
 partial_fixpoint
def F_statementW_t53 (t1 : BA) (t4 : BA) (o0_1 : Node) (a0 : Int) (a1 : BA) (a2 : LB) (a3 : LN) (o0_3 : Int) (o2 : LB) : Option (LB × LB × LN) :=
 F_ownW (qa o2) (qa o0_1) (qa a0) (qa a1) (qa a2) (qa a3) (qa o0_3) (qa t1) (qa t4) >>= fun x67 =>
 F_statementW_l0 o0_1.kids (qa o0_1) (qa a0) (qa a1) x67.2 (qa a3) (qa o0_3) x67.1
 partial_fixpoint
def F_otherW_l0 (a0 : LN) (j0 : Nat) (t1 : BA) (o0_1 : Node) (a1 : Int) (a2 : BA) (a3 : LB) (a4 : LN) (o0_3 : Int) (o2 : LB) : Option (LB × LB × LN × Int) :=
 match a0 with
 | [] =>
   if (decide ((0 : Int) < ((o0_1.kids.map Node.cells).length : Int))) = true then
    F_otherW_t33 (⟨#[10]⟩ : BA) (qa o0_1) (qa a1) (qa a2) (qa a3) (qa a4) (qa o0_3) (qa o2)
   else
    F_otherW_t33 (qa t1) (qa o0_1) (qa a1) (qa a2) (qa a3) (qa a4) (qa o0_3) (qa o2)
 | x_0 :: a0 =>
   if (decide ((0 : Int) < ((j0 : Nat) : Int))) = true then
    F_otherW_t22 (qa a0) (qa j0) (⟨#[10, 10]⟩ : BA) (qa o0_1) (qa a1) (qa a2) (qa a3) (qa a4) (qa o0_3) (qa o2)
   else
    F_otherW_t22 (qa a0) (qa j0) (qa t1) (qa o0_1) (qa a1) (qa a2) (qa a3) (qa a4) (qa o0_3) (qa o2)
 partial_fixpoint
def F_restW_l0 (t2 : Bool) (o0_1 : Node) (a0 : Int) (a1 : BA) (a2 : LB) (a3 : LN) (o0_3 : Int) (o2 : LB) : Option (LB × LB × LN) :=
 if (decide ((a3.length : Int) < ((o0_1.kids.map Node.cells).length : Int))) = true then
  if t2 = true then
   F_kidW (qa o2) (qa o0_1) (qa a0) (qa a1) (qa a2) (qa a3) (qa o0_3) (⟨#[]⟩ : BA) >>= fun x68 =>
   F_restW_b1 (qa o0_1) (qa a0) (qa a1) (qa a2) x68.2 (qa o0_3) x68.1
  else
   F_ownW (qa o2) (qa o0_1) (qa a0) (qa a1) (qa a2) (qa a3) (qa o0_3) (⟨#[]⟩ : BA) (⟨#[44]⟩ : BA) >>= fun x69 =>
   F_kidW x69.1 (qa o0_1) (qa a0) (qa a1) x69.2 (qa a3) (qa o0_3) (⟨#[32]⟩ : BA) >>= fun x70 =>
   F_restW_b1 (qa o0_1) (qa a0) (qa a1) x69.2 x70.2 (qa o0_3) x70.1
 else
  F_ownW (qa o2) (qa o0_1) (qa a0) (qa a1) (qa a2) (qa a3) (qa o0_3) (⟨#[]⟩ : BA) (⟨#[41]⟩ : BA) >>= fun x71 =>
  some (x71.1, x71.2, a3)
 partial_fixpoint
def F_bodyW_l0 (t1 : Int) (o0_1 : Node) (a0 : Int) (a1 : BA) (a2 : LB) (a3 : LN) (o0_3 : Int) (o2 : LB) : Option (LB × LB × LN × Int) :=
 if (decide ((a3.length : Int) < ((o0_1.kids.map Node.cells).length : Int))) = true then
  F_print_line (qa o0_3) >>= fun x72 =>
  F_kidW (qa o2) (qa o0_1) (qa a0) (qa a1) (qa a2) (qa a3) (qa o0_3) (qa x72) >>= fun x73 =>
  F_bodyW_l0 (qa t1) (qa o0_1) (qa a0) (qa a1) (qa a2) x73.2 (qa o0_3) x73.1
 else
  if (decide (t1 < ((o0_1.kids.map Node.cells).length : Int))) = true then
   F_print_line (IntKind.i64.wrap (o0_3 - (1 : Int))) >>= fun x74 =>
   F_ownW (qa o2) (qa o0_1) (qa a0) (qa a1) (qa a2) (qa a3) (IntKind.i64.wrap (o0_3 - (1 : Int))) (qa x74) (⟨#[125]⟩ : BA) >>= fun x75 =>
   some (x75.1, x75.2, a3, (IntKind.i64.wrap (o0_3 - (1 : Int))))
  else
   F_ownW (qa o2) (qa o0_1) (qa a0) (qa a1) (qa a2) (qa a3) (IntKind.i64.wrap (o0_3 - (1 : Int))) (⟨#[]⟩ : BA) (⟨#[125]⟩ : BA) >>= fun x76 =>
   some (x76.1, x76.2, a3, (IntKind.i64.wrap (o0_3 - (1 : Int))))
 partial_fixpoint
def F_statementW_l0 (a0 : LN) (o0_1 : Node) (a1 : Int) (a2 : BA) (a3 : LB) (a4 : LN) (o0_3 : Int) (o2 : LB) : Option (LB × LB × LN) :=
 match a0 with
 | [] =>
   some (o2, a3, a4)
 | x_0 :: a0 =>
   F_kidW (qa o2) (qa o0_1) (qa a1) (qa a2) (qa a3) (qa a4) (qa o0_3) (⟨#[32]⟩ : BA) >>= fun x77 =>
   F_statementW_l0 (qa a0) (qa o0_1) (qa a1) (qa a2) (qa a3) x77.2 (qa o0_3) x77.1
 partial_fixpoint
def F_otherW_t22 (a0 : LN) (j0 : Nat) (t1 : BA) (o0_1 : Node) (a1 : Int) (a2 : BA) (a3 : LB) (a4 : LN) (o0_3 : Int) (o2 : LB) : Option (LB × LB × LN × Int) :=
 F_kidW (qa o2) (qa o0_1) (qa a1) (qa a2) (qa a3) (qa a4) (qa o0_3) (qa t1) >>= fun x79 =>
 F_otherW_l0 (qa a0) (j0 + 1) (qa t1) (qa o0_1) (qa a1) (qa a2) (qa a3) x79.2 (qa o0_3) x79.1
 partial_fixpoint
def F_restW_b1 (o0_1 : Node) (a0 : Int) (a1 : BA) (a2 : LB) (a3 : LN) (o0_3 : Int) (o2 : LB) : Option (LB × LB × LN) :=
 F_restW_l0 (qa false) (qa o0_1) (qa a0) (qa a1) (qa a2) (qa a3) (qa o0_3) (qa o2)
 partial_fixpoint
end
@[reducible] def M_F_nodeW (a0 : LB) (a1 : Node) (a2 : BA) (a3 : Int) (r : Node × LB) : Prop :=
  AC Tryd.prog G 22 [(.ptr 0 0 0), (.agg (zk a1)), (.str a2), (.int .i64 a3)] 3 [(0, .var 45 [(.fn 32 [(.ptr 1 1 0)])]), (1, .var 22 [(.bs 1 2 2 0 a0.length)]), (2, .row 9 (a0.map sc).flatten)] (.agg (zk r.1)) 4 [(0, .var 45 [(.fn 32 [(.ptr 1 1 0)])]), (1, .var 22 [(.bs 1 2 3 0 r.2.length)]), (3, .row 9 (r.2.map sc).flatten)]
@[reducible] def M_F_expressionW (a0 : LB) (a0_n : Node) (a2 : Int) (a3 : BA) (a4 : LB) (a5 : LN) (a6 : Int) (a1 : BA) (r : LB × LB × LN) : Prop :=
  AC Tryd.prog G 41 [(.ptr 0 0 0), (.str a1)] 6 [(0, .var 67 [(.ptr 1 1 0), (.int .i64 a0_n.kind), (.str a0_n.text), (.sl 1 false (a0_n.gaps.map sc)), (.sl 4 false (a0_n.kids.map Node.cells)), (.int .i64 a2), (.str a3), (.bs 1 4 4 0 a4.length), (.bs 4 5 5 0 a5.length), (.int .i64 a6)]), (1, .var 45 [(.fn 32 [(.ptr 2 2 0)])]), (2, .var 22 [(.bs 1 3 3 0 a0.length)]), (3, .row 9 (a0.map sc).flatten), (4, .row 9 (a4.map sc).flatten), (5, .row 25 (a5.map Node.cells).flatten)] (.tup []) 9 [(0, .var 67 [(.ptr 1 1 0), (.int .i64 a0_n.kind), (.str a0_n.text), (.sl 1 false (a0_n.gaps.map sc)), (.sl 4 false (a0_n.kids.map Node.cells)), (.int .i64 a2), (.str a3), (.bs 1 4 7 0 r.2.1.length), (.bs 4 5 8 0 r.2.2.length), (.int .i64 a6)]), (1, .var 45 [(.fn 32 [(.ptr 2 2 0)])]), (2, .var 22 [(.bs 1 3 6 0 r.1.length)]), (6, .row 9 (r.1.map sc).flatten), (7, .row 9 (r.2.1.map sc).flatten), (8, .row 25 (r.2.2.map Node.cells).flatten)]
@[reducible] def M_F_statementW (a0 : LB) (a0_n : Node) (a2 : Int) (a3 : BA) (a4 : LB) (a5 : LN) (a6 : Int) (a1 : BA) (r : LB × LB × LN) : Prop :=
  AC Tryd.prog G 42 [(.ptr 0 0 0), (.str a1)] 6 [(0, .var 67 [(.ptr 1 1 0), (.int .i64 a0_n.kind), (.str a0_n.text), (.sl 1 false (a0_n.gaps.map sc)), (.sl 4 false (a0_n.kids.map Node.cells)), (.int .i64 a2), (.str a3), (.bs 1 4 4 0 a4.length), (.bs 4 5 5 0 a5.length), (.int .i64 a6)]), (1, .var 45 [(.fn 32 [(.ptr 2 2 0)])]), (2, .var 22 [(.bs 1 3 3 0 a0.length)]), (3, .row 9 (a0.map sc).flatten), (4, .row 9 (a4.map sc).flatten), (5, .row 25 (a5.map Node.cells).flatten)] (.tup []) 9 [(0, .var 67 [(.ptr 1 1 0), (.int .i64 a0_n.kind), (.str a0_n.text), (.sl 1 false (a0_n.gaps.map sc)), (.sl 4 false (a0_n.kids.map Node.cells)), (.int .i64 a2), (.str a3), (.bs 1 4 7 0 r.2.1.length), (.bs 4 5 8 0 r.2.2.length), (.int .i64 a6)]), (1, .var 45 [(.fn 32 [(.ptr 2 2 0)])]), (2, .var 22 [(.bs 1 3 6 0 r.1.length)]), (6, .row 9 (r.1.map sc).flatten), (7, .row 9 (r.2.1.map sc).flatten), (8, .row 25 (r.2.2.map Node.cells).flatten)]
@[reducible] def M_F_otherW (a0 : LB) (a0_n : Node) (a2 : Int) (a3 : BA) (a4 : LB) (a5 : LN) (a6 : Int) (a1 : BA) (r : LB × LB × LN × Int) : Prop :=
  AC Tryd.prog G 43 [(.ptr 0 0 0), (.str a1)] 6 [(0, .var 67 [(.ptr 1 1 0), (.int .i64 a0_n.kind), (.str a0_n.text), (.sl 1 false (a0_n.gaps.map sc)), (.sl 4 false (a0_n.kids.map Node.cells)), (.int .i64 a2), (.str a3), (.bs 1 4 4 0 a4.length), (.bs 4 5 5 0 a5.length), (.int .i64 a6)]), (1, .var 45 [(.fn 32 [(.ptr 2 2 0)])]), (2, .var 22 [(.bs 1 3 3 0 a0.length)]), (3, .row 9 (a0.map sc).flatten), (4, .row 9 (a4.map sc).flatten), (5, .row 25 (a5.map Node.cells).flatten)] (.tup []) 9 [(0, .var 67 [(.ptr 1 1 0), (.int .i64 a0_n.kind), (.str a0_n.text), (.sl 1 false (a0_n.gaps.map sc)), (.sl 4 false (a0_n.kids.map Node.cells)), (.int .i64 a2), (.str a3), (.bs 1 4 7 0 r.2.1.length), (.bs 4 5 8 0 r.2.2.1.length), (.int .i64 r.2.2.2)]), (1, .var 45 [(.fn 32 [(.ptr 2 2 0)])]), (2, .var 22 [(.bs 1 3 6 0 r.1.length)]), (6, .row 9 (r.1.map sc).flatten), (7, .row 9 (r.2.1.map sc).flatten), (8, .row 25 (r.2.2.1.map Node.cells).flatten)]
@[reducible] def M_F_restW (a0 : LB) (a0_n : Node) (a1 : Int) (a2 : BA) (a3 : LB) (a4 : LN) (a5 : Int) (r : LB × LB × LN) : Prop :=
  AC Tryd.prog G 61 [(.ptr 0 0 0)] 6 [(0, .var 67 [(.ptr 1 1 0), (.int .i64 a0_n.kind), (.str a0_n.text), (.sl 1 false (a0_n.gaps.map sc)), (.sl 4 false (a0_n.kids.map Node.cells)), (.int .i64 a1), (.str a2), (.bs 1 4 4 0 a3.length), (.bs 4 5 5 0 a4.length), (.int .i64 a5)]), (1, .var 45 [(.fn 32 [(.ptr 2 2 0)])]), (2, .var 22 [(.bs 1 3 3 0 a0.length)]), (3, .row 9 (a0.map sc).flatten), (4, .row 9 (a3.map sc).flatten), (5, .row 25 (a4.map Node.cells).flatten)] (.tup []) 9 [(0, .var 67 [(.ptr 1 1 0), (.int .i64 a0_n.kind), (.str a0_n.text), (.sl 1 false (a0_n.gaps.map sc)), (.sl 4 false (a0_n.kids.map Node.cells)), (.int .i64 a1), (.str a2), (.bs 1 4 7 0 r.2.1.length), (.bs 4 5 8 0 r.2.2.length), (.int .i64 a5)]), (1, .var 45 [(.fn 32 [(.ptr 2 2 0)])]), (2, .var 22 [(.bs 1 3 6 0 r.1.length)]), (6, .row 9 (r.1.map sc).flatten), (7, .row 9 (r.2.1.map sc).flatten), (8, .row 25 (r.2.2.map Node.cells).flatten)]
@[reducible] def M_F_kidW (a0 : LB) (a0_n : Node) (a2 : Int) (a3 : BA) (a4 : LB) (a5 : LN) (a6 : Int) (a1 : BA) (r : LB × LN) : Prop :=
  AC Tryd.prog G 62 [(.ptr 0 0 0), (.str a1)] 6 [(0, .var 67 [(.ptr 1 1 0), (.int .i64 a0_n.kind), (.str a0_n.text), (.sl 1 false (a0_n.gaps.map sc)), (.sl 4 false (a0_n.kids.map Node.cells)), (.int .i64 a2), (.str a3), (.bs 1 4 4 0 a4.length), (.bs 4 5 5 0 a5.length), (.int .i64 a6)]), (1, .var 45 [(.fn 32 [(.ptr 2 2 0)])]), (2, .var 22 [(.bs 1 3 3 0 a0.length)]), (3, .row 9 (a0.map sc).flatten), (4, .row 9 (a4.map sc).flatten), (5, .row 25 (a5.map Node.cells).flatten)] (.tup []) 8 [(0, .var 67 [(.ptr 1 1 0), (.int .i64 a0_n.kind), (.str a0_n.text), (.sl 1 false (a0_n.gaps.map sc)), (.sl 4 false (a0_n.kids.map Node.cells)), (.int .i64 a2), (.str a3), (.bs 1 4 4 0 a4.length), (.bs 4 5 7 0 r.2.length), (.int .i64 a6)]), (1, .var 45 [(.fn 32 [(.ptr 2 2 0)])]), (2, .var 22 [(.bs 1 3 6 0 r.1.length)]), (6, .row 9 (r.1.map sc).flatten), (4, .row 9 (a4.map sc).flatten), (7, .row 25 (r.2.map Node.cells).flatten)]
@[reducible] def M_F_namedW (a0 : LB) (a0_n : Node) (a3 : Int) (a4 : BA) (a5 : LB) (a6 : LN) (a7 : Int) (a1 : BA) (a2 : BA) (r : LB × LB × LN) : Prop :=
  AC Tryd.prog G 63 [(.ptr 0 0 0), (.str a1), (.str a2)] 6 [(0, .var 67 [(.ptr 1 1 0), (.int .i64 a0_n.kind), (.str a0_n.text), (.sl 1 false (a0_n.gaps.map sc)), (.sl 4 false (a0_n.kids.map Node.cells)), (.int .i64 a3), (.str a4), (.bs 1 4 4 0 a5.length), (.bs 4 5 5 0 a6.length), (.int .i64 a7)]), (1, .var 45 [(.fn 32 [(.ptr 2 2 0)])]), (2, .var 22 [(.bs 1 3 3 0 a0.length)]), (3, .row 9 (a0.map sc).flatten), (4, .row 9 (a5.map sc).flatten), (5, .row 25 (a6.map Node.cells).flatten)] (.tup []) 9 [(0, .var 67 [(.ptr 1 1 0), (.int .i64 a0_n.kind), (.str a0_n.text), (.sl 1 false (a0_n.gaps.map sc)), (.sl 4 false (a0_n.kids.map Node.cells)), (.int .i64 a3), (.str a4), (.bs 1 4 7 0 r.2.1.length), (.bs 4 5 8 0 r.2.2.length), (.int .i64 a7)]), (1, .var 45 [(.fn 32 [(.ptr 2 2 0)])]), (2, .var 22 [(.bs 1 3 6 0 r.1.length)]), (6, .row 9 (r.1.map sc).flatten), (7, .row 9 (r.2.1.map sc).flatten), (8, .row 25 (r.2.2.map Node.cells).flatten)]
@[reducible] def M_F_bodyW (a0 : LB) (a0_n : Node) (a2 : Int) (a3 : BA) (a4 : LB) (a5 : LN) (a6 : Int) (a1 : Int) (r : LB × LB × LN × Int) : Prop :=
  AC Tryd.prog G 64 [(.ptr 0 0 0), (.int .i64 a1)] 6 [(0, .var 67 [(.ptr 1 1 0), (.int .i64 a0_n.kind), (.str a0_n.text), (.sl 1 false (a0_n.gaps.map sc)), (.sl 4 false (a0_n.kids.map Node.cells)), (.int .i64 a2), (.str a3), (.bs 1 4 4 0 a4.length), (.bs 4 5 5 0 a5.length), (.int .i64 a6)]), (1, .var 45 [(.fn 32 [(.ptr 2 2 0)])]), (2, .var 22 [(.bs 1 3 3 0 a0.length)]), (3, .row 9 (a0.map sc).flatten), (4, .row 9 (a4.map sc).flatten), (5, .row 25 (a5.map Node.cells).flatten)] (.tup []) 9 [(0, .var 67 [(.ptr 1 1 0), (.int .i64 a0_n.kind), (.str a0_n.text), (.sl 1 false (a0_n.gaps.map sc)), (.sl 4 false (a0_n.kids.map Node.cells)), (.int .i64 a2), (.str a3), (.bs 1 4 7 0 r.2.1.length), (.bs 4 5 8 0 r.2.2.1.length), (.int .i64 r.2.2.2)]), (1, .var 45 [(.fn 32 [(.ptr 2 2 0)])]), (2, .var 22 [(.bs 1 3 6 0 r.1.length)]), (6, .row 9 (r.1.map sc).flatten), (7, .row 9 (r.2.1.map sc).flatten), (8, .row 25 (r.2.2.1.map Node.cells).flatten)]
@[reducible] def M_F_statementW_t53 (t1 : BA) (t4 : BA) (o0_1 : Node) (a0 : Int) (a1 : BA) (a2 : LB) (a3 : LN) (o0_3 : Int) (o2 : LB) (r : LB × LB × LN) : Prop :=
  Ok Tryd.prog G tt 69 6 (Ret Tryd.prog [] (fun y H => j3 Tryd.prog G 6 H y (.tup []) ⟨9, [(0, .var 67 [(.ptr 1 1 0), (.int .i64 o0_1.kind), (.str o0_1.text), (.sl 1 false (o0_1.gaps.map sc)), (.sl 4 false (o0_1.kids.map Node.cells)), (.int .i64 a0), (.str a1), (.bs 1 4 7 0 r.2.1.length), (.bs 4 5 8 0 r.2.2.length), (.int .i64 o0_3)]), (1, .var 45 [(.fn 32 [(.ptr 2 2 0)])]), (2, .var 22 [(.bs 1 3 6 0 r.1.length)]), (6, .row 9 (r.1.map sc).flatten), (7, .row 9 (r.2.1.map sc).flatten), (8, .row 25 (r.2.2.map Node.cells).flatten)]⟩)) (.go [] (yq [53] Tryd.f42 53) [] (.n (.ptr 0 0 0) (.n (.str t1) .z .z) (.n .undef (.n (.str t4) .z .z) .z)) 9 [(0, .var 67 [(.ptr 1 1 0), (.int .i64 o0_1.kind), (.str o0_1.text), (.sl 1 false (o0_1.gaps.map sc)), (.sl 4 false (o0_1.kids.map Node.cells)), (.int .i64 a0), (.str a1), (.bs 1 4 7 0 a2.length), (.bs 4 5 8 0 a3.length), (.int .i64 o0_3)]), (1, .var 45 [(.fn 32 [(.ptr 2 2 0)])]), (2, .var 22 [(.bs 1 3 6 0 o2.length)]), (6, .row 9 (o2.map sc).flatten), (7, .row 9 (a2.map sc).flatten), (8, .row 25 (a3.map Node.cells).flatten)])
@[reducible] def M_F_otherW_l0 (a0 : LN) (j0 : Nat) (t1 : BA) (o0_1 : Node) (a1 : Int) (a2 : BA) (a3 : LB) (a4 : LN) (o0_3 : Int) (o2 : LB) (r : LB × LB × LN × Int) : Prop :=
  ∀ (l0 : LN), l0.drop j0 = a0 → j0 ≤ l0.length → l0.length ≤ 9223372036854775807 → Ok Tryd.prog G tt 146 6 (Ret Tryd.prog [] (fun y H => j3 Tryd.prog G 6 H y (.tup []) ⟨9, [(0, .var 67 [(.ptr 1 1 0), (.int .i64 o0_1.kind), (.str o0_1.text), (.sl 1 false (o0_1.gaps.map sc)), (.sl 4 false (o0_1.kids.map Node.cells)), (.int .i64 a1), (.str a2), (.bs 1 4 7 0 r.2.1.length), (.bs 4 5 8 0 r.2.2.1.length), (.int .i64 r.2.2.2)]), (1, .var 45 [(.fn 32 [(.ptr 2 2 0)])]), (2, .var 22 [(.bs 1 3 6 0 r.1.length)]), (6, .row 9 (r.1.map sc).flatten), (7, .row 9 (r.2.1.map sc).flatten), (8, .row 25 (r.2.2.1.map Node.cells).flatten)]⟩)) (.again (ja [22, 33] Tryd.f43 0).1 (ja [22, 33] Tryd.f43 0).2 (.n (.ptr 0 0 0) (.n (.str t1) .z (.n .undef (.n .undef (.n (.int .i64 ((l0.map Node.cells).length : Int)) .z .z) .z) .z)) (.n .undef (.n .undef (.n .undef (.n (.sl 4 false (l0.map Node.cells)) .z .z) .z) .z) (.n .undef (.n .undef (.n (.int .i64 ((j0 : Nat) : Int)) .z .z) .z) .z))) 9 [(0, .var 67 [(.ptr 1 1 0), (.int .i64 o0_1.kind), (.str o0_1.text), (.sl 1 false (o0_1.gaps.map sc)), (.sl 4 false (o0_1.kids.map Node.cells)), (.int .i64 a1), (.str a2), (.bs 1 4 7 0 a3.length), (.bs 4 5 8 0 a4.length), (.int .i64 o0_3)]), (1, .var 45 [(.fn 32 [(.ptr 2 2 0)])]), (2, .var 22 [(.bs 1 3 6 0 o2.length)]), (6, .row 9 (o2.map sc).flatten), (7, .row 9 (a3.map sc).flatten), (8, .row 25 (a4.map Node.cells).flatten)])
@[reducible] def M_F_restW_l0 (t2 : Bool) (o0_1 : Node) (a0 : Int) (a1 : BA) (a2 : LB) (a3 : LN) (o0_3 : Int) (o2 : LB) (r : LB × LB × LN) : Prop :=
  Ok Tryd.prog G tt 25 6 (Ret Tryd.prog [] (fun y H => j3 Tryd.prog G 6 H y (.tup []) ⟨9, [(0, .var 67 [(.ptr 1 1 0), (.int .i64 o0_1.kind), (.str o0_1.text), (.sl 1 false (o0_1.gaps.map sc)), (.sl 4 false (o0_1.kids.map Node.cells)), (.int .i64 a0), (.str a1), (.bs 1 4 7 0 r.2.1.length), (.bs 4 5 8 0 r.2.2.length), (.int .i64 o0_3)]), (1, .var 45 [(.fn 32 [(.ptr 2 2 0)])]), (2, .var 22 [(.bs 1 3 6 0 r.1.length)]), (6, .row 9 (r.1.map sc).flatten), (7, .row 9 (r.2.1.map sc).flatten), (8, .row 25 (r.2.2.map Node.cells).flatten)]⟩)) (.again (ja [1000001] Tryd.f61 0).1 (ja [1000001] Tryd.f61 0).2 (.n (.ptr 0 0 0) .z (.n (.bool t2) .z .z)) 9 [(0, .var 67 [(.ptr 1 1 0), (.int .i64 o0_1.kind), (.str o0_1.text), (.sl 1 false (o0_1.gaps.map sc)), (.sl 4 false (o0_1.kids.map Node.cells)), (.int .i64 a0), (.str a1), (.bs 1 4 7 0 a2.length), (.bs 4 5 8 0 a3.length), (.int .i64 o0_3)]), (1, .var 45 [(.fn 32 [(.ptr 2 2 0)])]), (2, .var 22 [(.bs 1 3 6 0 o2.length)]), (6, .row 9 (o2.map sc).flatten), (7, .row 9 (a2.map sc).flatten), (8, .row 25 (a3.map Node.cells).flatten)])
@[reducible] def M_F_bodyW_l0 (t1 : Int) (o0_1 : Node) (a0 : Int) (a1 : BA) (a2 : LB) (a3 : LN) (o0_3 : Int) (o2 : LB) (r : LB × LB × LN × Int) : Prop :=
  Ok Tryd.prog G tt 55 6 (Ret Tryd.prog [] (fun y H => j3 Tryd.prog G 6 H y (.tup []) ⟨9, [(0, .var 67 [(.ptr 1 1 0), (.int .i64 o0_1.kind), (.str o0_1.text), (.sl 1 false (o0_1.gaps.map sc)), (.sl 4 false (o0_1.kids.map Node.cells)), (.int .i64 a0), (.str a1), (.bs 1 4 7 0 r.2.1.length), (.bs 4 5 8 0 r.2.2.1.length), (.int .i64 r.2.2.2)]), (1, .var 45 [(.fn 32 [(.ptr 2 2 0)])]), (2, .var 22 [(.bs 1 3 6 0 r.1.length)]), (6, .row 9 (r.1.map sc).flatten), (7, .row 9 (r.2.1.map sc).flatten), (8, .row 25 (r.2.2.1.map Node.cells).flatten)]⟩)) (.again (ja [] Tryd.f64 0).1 (ja [] Tryd.f64 0).2 (.n (.ptr 0 0 0) (.n (.int .i64 t1) .z .z) .z) 9 [(0, .var 67 [(.ptr 1 1 0), (.int .i64 o0_1.kind), (.str o0_1.text), (.sl 1 false (o0_1.gaps.map sc)), (.sl 4 false (o0_1.kids.map Node.cells)), (.int .i64 a0), (.str a1), (.bs 1 4 7 0 a2.length), (.bs 4 5 8 0 a3.length), (.int .i64 o0_3)]), (1, .var 45 [(.fn 32 [(.ptr 2 2 0)])]), (2, .var 22 [(.bs 1 3 6 0 o2.length)]), (6, .row 9 (o2.map sc).flatten), (7, .row 9 (a2.map sc).flatten), (8, .row 25 (a3.map Node.cells).flatten)])
@[reducible] def M_F_statementW_l0 (a0 : LN) (o0_1 : Node) (a1 : Int) (a2 : BA) (a3 : LB) (a4 : LN) (o0_3 : Int) (o2 : LB) (r : LB × LB × LN) : Prop :=
  ∀ (l0 : LN) (j0 : Nat), l0.drop j0 = a0 → j0 ≤ l0.length → l0.length ≤ 9223372036854775807 → Ok Tryd.prog G tt 69 6 (Ret Tryd.prog [] (fun y H => j3 Tryd.prog G 6 H y (.tup []) ⟨9, [(0, .var 67 [(.ptr 1 1 0), (.int .i64 o0_1.kind), (.str o0_1.text), (.sl 1 false (o0_1.gaps.map sc)), (.sl 4 false (o0_1.kids.map Node.cells)), (.int .i64 a1), (.str a2), (.bs 1 4 7 0 r.2.1.length), (.bs 4 5 8 0 r.2.2.length), (.int .i64 o0_3)]), (1, .var 45 [(.fn 32 [(.ptr 2 2 0)])]), (2, .var 22 [(.bs 1 3 6 0 r.1.length)]), (6, .row 9 (r.1.map sc).flatten), (7, .row 9 (r.2.1.map sc).flatten), (8, .row 25 (r.2.2.map Node.cells).flatten)]⟩)) (.again (ja [53] Tryd.f42 0).1 (ja [53] Tryd.f42 0).2 (.n (.ptr 0 0 0) (.n .undef (.n .undef (.n .undef (.n .undef (.n .undef (.n (.int .i64 ((l0.map Node.cells).length : Int)) .z .z) .z) .z) .z) .z) .z) (.n .undef (.n .undef (.n .undef (.n .undef (.n .undef (.n (.int .i64 ((j0 : Nat) : Int)) .z .z) .z) .z) .z) .z) (.n .undef .z (.n .undef .z (.n .undef .z (.n (.sl 4 false (l0.map Node.cells)) .z .z)))))) 14 [(0, .var 67 [(.ptr 1 1 0), (.int .i64 o0_1.kind), (.str o0_1.text), (.sl 1 false (o0_1.gaps.map sc)), (.sl 4 false (o0_1.kids.map Node.cells)), (.int .i64 a1), (.str a2), (.bs 1 4 12 0 a3.length), (.bs 4 5 13 0 a4.length), (.int .i64 o0_3)]), (1, .var 45 [(.fn 32 [(.ptr 2 2 0)])]), (2, .var 22 [(.bs 1 3 11 0 o2.length)]), (11, .row 9 (o2.map sc).flatten), (12, .row 9 (a3.map sc).flatten), (13, .row 25 (a4.map Node.cells).flatten)])
@[reducible] def M_F_otherW_t22 (a0 : LN) (j0 : Nat) (t1 : BA) (o0_1 : Node) (a1 : Int) (a2 : BA) (a3 : LB) (a4 : LN) (o0_3 : Int) (o2 : LB) (r : LB × LB × LN × Int) : Prop :=
  ∀ (l0 : LN), l0.drop (j0 + 1) = a0 → j0 + 1 ≤ l0.length → l0.length ≤ 9223372036854775807 → Ok Tryd.prog G tt 146 6 (Ret Tryd.prog [] (fun y H => j3 Tryd.prog G 6 H y (.tup []) ⟨9, [(0, .var 67 [(.ptr 1 1 0), (.int .i64 o0_1.kind), (.str o0_1.text), (.sl 1 false (o0_1.gaps.map sc)), (.sl 4 false (o0_1.kids.map Node.cells)), (.int .i64 a1), (.str a2), (.bs 1 4 7 0 r.2.1.length), (.bs 4 5 8 0 r.2.2.1.length), (.int .i64 r.2.2.2)]), (1, .var 45 [(.fn 32 [(.ptr 2 2 0)])]), (2, .var 22 [(.bs 1 3 6 0 r.1.length)]), (6, .row 9 (r.1.map sc).flatten), (7, .row 9 (r.2.1.map sc).flatten), (8, .row 25 (r.2.2.1.map Node.cells).flatten)]⟩)) (.go [] (yq [22, 33] Tryd.f43 22) [] (.n (.ptr 0 0 0) (.n (.str t1) .z (.n .undef (.n .undef (.n (.int .i64 ((l0.map Node.cells).length : Int)) .z .z) .z) .z)) (.n .undef (.n .undef (.n .undef (.n (.sl 4 false (l0.map Node.cells)) .z .z) .z) .z) (.n .undef (.n .undef (.n (.int .i64 ((j0 : Nat) : Int)) .z .z) .z) .z))) 12 [(0, .var 67 [(.ptr 1 1 0), (.int .i64 o0_1.kind), (.str o0_1.text), (.sl 1 false (o0_1.gaps.map sc)), (.sl 4 false (o0_1.kids.map Node.cells)), (.int .i64 a1), (.str a2), (.bs 1 4 10 0 a3.length), (.bs 4 5 11 0 a4.length), (.int .i64 o0_3)]), (1, .var 45 [(.fn 32 [(.ptr 2 2 0)])]), (2, .var 22 [(.bs 1 3 9 0 o2.length)]), (9, .row 9 (o2.map sc).flatten), (10, .row 9 (a3.map sc).flatten), (11, .row 25 (a4.map Node.cells).flatten)])
@[reducible] def M_F_restW_b1 (o0_1 : Node) (a0 : Int) (a1 : BA) (a2 : LB) (a3 : LN) (o0_3 : Int) (o2 : LB) (r : LB × LB × LN) : Prop :=
  Ok Tryd.prog G tt 25 6 (Ret Tryd.prog [] (fun y H => j3 Tryd.prog G 6 H y (.tup []) ⟨9, [(0, .var 67 [(.ptr 1 1 0), (.int .i64 o0_1.kind), (.str o0_1.text), (.sl 1 false (o0_1.gaps.map sc)), (.sl 4 false (o0_1.kids.map Node.cells)), (.int .i64 a0), (.str a1), (.bs 1 4 7 0 r.2.1.length), (.bs 4 5 8 0 r.2.2.length), (.int .i64 o0_3)]), (1, .var 45 [(.fn 32 [(.ptr 2 2 0)])]), (2, .var 22 [(.bs 1 3 6 0 r.1.length)]), (6, .row 9 (r.1.map sc).flatten), (7, .row 9 (r.2.1.map sc).flatten), (8, .row 25 (r.2.2.map Node.cells).flatten)]⟩)) (.go [] (blockOf [1000001] Tryd.f61 1) [] (.n (.ptr 0 0 0) .z .z) 14 [(0, .var 67 [(.ptr 1 1 0), (.int .i64 o0_1.kind), (.str o0_1.text), (.sl 1 false (o0_1.gaps.map sc)), (.sl 4 false (o0_1.kids.map Node.cells)), (.int .i64 a0), (.str a1), (.bs 1 4 12 0 a2.length), (.bs 4 5 13 0 a3.length), (.int .i64 o0_3)]), (1, .var 45 [(.fn 32 [(.ptr 2 2 0)])]), (2, .var 22 [(.bs 1 3 11 0 o2.length)]), (11, .row 9 (o2.map sc).flatten), (12, .row 9 (a2.map sc).flatten), (13, .row 25 (a3.map Node.cells).flatten)])
theorem ALL_F_nodeW : PC4 M_F_nodeW F_nodeW ∧ PC8 M_F_otherW F_otherW ∧ PC9 M_F_namedW F_namedW ∧ PC8 M_F_kidW F_kidW ∧ PC8 M_F_bodyW F_bodyW ∧ PC8 M_F_bodyW_l0 F_bodyW_l0 ∧ PC7 M_F_restW F_restW ∧ PC8 M_F_restW_l0 F_restW_l0 ∧ PC7 M_F_restW_b1 F_restW_b1 ∧ PC10 M_F_otherW_l0 F_otherW_l0 ∧ PC10 M_F_otherW_t22 F_otherW_t22 ∧ PC8 M_F_statementW F_statementW ∧ PC9 M_F_statementW_t53 F_statementW_t53 ∧ PC8 M_F_statementW_l0 F_statementW_l0 ∧ PC8 M_F_expressionW F_expressionW := by
 refine F_nodeW.mutual_partial_correctness M_F_nodeW M_F_otherW M_F_namedW M_F_kidW M_F_bodyW M_F_bodyW_l0 M_F_restW M_F_restW_l0 M_F_restW_b1 M_F_otherW_l0 M_F_otherW_t22 M_F_statementW M_F_statementW_t53 M_F_statementW_l0 M_F_expressionW (fun F_otherW F_statementW F_expressionW H_F_otherW H_F_statementW H_F_expressionW a0 a1 a2 a3 r h => ?_) (fun F_namedW F_kidW F_bodyW F_restW F_otherW_l0 H_F_namedW H_F_kidW H_F_bodyW H_F_restW H_F_otherW_l0 a0 a0_n a2 a3 a4 a5 a6 a1 r h => ?_) (fun F_kidW H_F_kidW a0 a0_n a3 a4 a5 a6 a7 a1 a2 r h => ?_) (fun F_nodeW H_F_nodeW a0 a0_n a2 a3 a4 a5 a6 a1 r h => ?_) (fun F_bodyW_l0 H_F_bodyW_l0 a0 a0_n a2 a3 a4 a5 a6 a1 r h => ?_) (fun F_kidW F_bodyW_l0 H_F_kidW H_F_bodyW_l0 t1 o0_1 a0 a1 a2 a3 o0_3 o2 r h => ?_) (fun F_restW_l0 H_F_restW_l0 a0 a0_n a1 a2 a3 a4 a5 r h => ?_) (fun F_kidW F_restW_b1 H_F_kidW H_F_restW_b1 t2 o0_1 a0 a1 a2 a3 o0_3 o2 r h => ?_) (fun F_restW_l0 H_F_restW_l0 o0_1 a0 a1 a2 a3 o0_3 o2 r h => ?_) (fun F_otherW_t22 H_F_otherW_t22 a0 j0 t1 o0_1 a1 a2 a3 a4 o0_3 o2 r h => ?_) (fun F_kidW F_otherW_l0 H_F_kidW H_F_otherW_l0 a0 j0 t1 o0_1 a1 a2 a3 a4 o0_3 o2 r h => ?_) (fun F_namedW F_kidW F_statementW_t53 H_F_namedW H_F_kidW H_F_statementW_t53 a0 a0_n a2 a3 a4 a5 a6 a1 r h => ?_) (fun F_statementW_l0 H_F_statementW_l0 t1 t4 o0_1 a0 a1 a2 a3 o0_3 o2 r h => ?_) (fun F_kidW F_statementW_l0 H_F_kidW H_F_statementW_l0 a0 o0_1 a1 a2 a3 a4 o0_3 o2 r h => ?_) (fun F_kidW F_restW H_F_kidW H_F_restW a0 a0_n a2 a3 a4 a5 a6 a1 r h => ?_)
 ·unfold qa at h
  refine ⟨?_, (q8 rfl rfl (q8 rfl rfl (ze qp rfl zr))), (qk (qk (qn qp zg))), (q9 rfl (q9 rfl (zf qp zt))), (qk (qk (qn qp zg))), rfl, rfl, rfl, rfl⟩
  refine zo (T := tt) (N := 41) (rs := [.cell 8 25]) (fun vs w => by simp) Tryd.func22 rfl rfl rfl (by kernel_rfl) (by kernel_rfl) ?_
  refine kr [23, 30] ?_
  obtain ⟨x1, hx, h⟩ := bind_some h
  refine ql (H_F_grammar_Group _ _ hx) ?_
  refine kr [23, 30] ?_
  refine qg (fun hb => ?_) (fun hb => ?_)
  ·replace h := qv hb h
   refine kr [23, 30] ?_
   obtain ⟨x2, hx, h⟩ := bind_some h
   refine qb (ACalls.ghost (e := 9) (ACalls.ghost (e := 25) (ACalls.wkg (AC.go (objs := [(0, .var 45 [(.fn 32 [(.ptr 1 1 0)])]), (1, .var 22 [(.bs 1 2 2 0 a0.length)]), (2, .row 9 (a0.map sc).flatten), (3, .var 25 (zk a1)), (4, .var 25 [(.int .i64 0), (.str ⟨#[]⟩), (.sl 0 true []), (.sl 0 true [])]), (5, .var 67 [(.ptr 0 0 0), (.int .i64 a1.kind), (.str a1.text), (.sl 1 false (a1.gaps.map sc)), (.sl 4 false (a1.kids.map Node.cells)), (.int .i64 a1.kind), (.str a1.text), (.bs 1 6 6 0 ([] : LB).length), (.bs 4 7 7 0 ([] : LN).length), (.int .i64 a3)]), (6, .row 9 (([] : LB).map sc).flatten), (7, .row 25 (([] : LN).map Node.cells).flatten)]) (xs := [(.ptr 5 5 0), (.str a2)]) (H_F_expressionW _ _ _ _ _ _ _ _ _ hx) [5, 0, 1, 2, 6, 7] [5, 0, 1, 2, 6, 7] rfl rfl rfl rfl rfl rfl rfl rfl rfl) (zq (jd _) (zq (jd _) yv)) (zi (zi (zi (zi (zi (y9 (qy (q7 _) (qy (q7 _) (qy (q7 _) (qy (q7 _) (qy (q7 _) (qy (q7 _) (qy (q7 _) (qy (jx rfl) (qy (jx rfl) (qy (q7 _) wb)))))))))) (ya _)))))))))) ?_
   refine kr [23, 30] ?_
   exact zd (by kernel_rfl) rfl lQ (H_F_nodeW_t23 _ _ _ _ _ _ _ _ h)
  ·replace h := qw hb h
   refine kr [23, 30] ?_
   obtain ⟨x3, hx, h⟩ := bind_some h
   refine ql (H_F_grammar_Group _ _ hx) ?_
   refine kr [23, 30] ?_
   refine qg (fun hb => ?_) (fun hb => ?_)
   ·replace h := qv hb h
    refine kr [23, 30] ?_
    obtain ⟨x4, hx, h⟩ := bind_some h
    refine qb (ACalls.ghost (e := 9) (ACalls.ghost (e := 25) (ACalls.wkg (AC.go (objs := [(0, .var 45 [(.fn 32 [(.ptr 1 1 0)])]), (1, .var 22 [(.bs 1 2 2 0 a0.length)]), (2, .row 9 (a0.map sc).flatten), (3, .var 25 (zk a1)), (4, .var 25 [(.int .i64 0), (.str ⟨#[]⟩), (.sl 0 true []), (.sl 0 true [])]), (5, .var 67 [(.ptr 0 0 0), (.int .i64 a1.kind), (.str a1.text), (.sl 1 false (a1.gaps.map sc)), (.sl 4 false (a1.kids.map Node.cells)), (.int .i64 a1.kind), (.str a1.text), (.bs 1 6 6 0 ([] : LB).length), (.bs 4 7 7 0 ([] : LN).length), (.int .i64 a3)]), (6, .row 9 (([] : LB).map sc).flatten), (7, .row 25 (([] : LN).map Node.cells).flatten)]) (xs := [(.ptr 5 5 0), (.str a2)]) (H_F_statementW _ _ _ _ _ _ _ _ _ hx) [5, 0, 1, 2, 6, 7] [5, 0, 1, 2, 6, 7] rfl rfl rfl rfl rfl rfl rfl rfl rfl) (zq (jd _) (zq (jd _) yv)) (zi (zi (zi (zi (zi (y9 (qy (q7 _) (qy (q7 _) (qy (q7 _) (qy (q7 _) (qy (q7 _) (qy (q7 _) (qy (q7 _) (qy (jx rfl) (qy (jx rfl) (qy (q7 _) wb)))))))))) (ya _)))))))))) ?_
    refine kr [23, 30] ?_
    exact zd (by kernel_rfl) rfl lQ (H_F_nodeW_t30 _ _ _ _ _ _ _ _ h)
   ·replace h := qw hb h
    refine kr [23, 30] ?_
    obtain ⟨x5, hx, h⟩ := bind_some h
    refine qb (ACalls.ghost (e := 9) (ACalls.ghost (e := 25) (ACalls.wkg (AC.go (objs := [(0, .var 45 [(.fn 32 [(.ptr 1 1 0)])]), (1, .var 22 [(.bs 1 2 2 0 a0.length)]), (2, .row 9 (a0.map sc).flatten), (3, .var 25 (zk a1)), (4, .var 25 [(.int .i64 0), (.str ⟨#[]⟩), (.sl 0 true []), (.sl 0 true [])]), (5, .var 67 [(.ptr 0 0 0), (.int .i64 a1.kind), (.str a1.text), (.sl 1 false (a1.gaps.map sc)), (.sl 4 false (a1.kids.map Node.cells)), (.int .i64 a1.kind), (.str a1.text), (.bs 1 6 6 0 ([] : LB).length), (.bs 4 7 7 0 ([] : LN).length), (.int .i64 a3)]), (6, .row 9 (([] : LB).map sc).flatten), (7, .row 25 (([] : LN).map Node.cells).flatten)]) (xs := [(.ptr 5 5 0), (.str a2)]) (H_F_otherW _ _ _ _ _ _ _ _ _ hx) [5, 0, 1, 2, 6, 7] [5, 0, 1, 2, 6, 7] rfl rfl rfl rfl rfl rfl rfl rfl rfl) (zq (jd _) (zq (jd _) yv)) (zi (zi (zi (zi (zi (y9 (qy (q7 _) (qy (q7 _) (qy (q7 _) (qy (q7 _) (qy (q7 _) (qy (q7 _) (qy (q7 _) (qy (jx rfl) (qy (jx rfl) (qy (q7 _) wb)))))))))) (ya _)))))))))) ?_
    refine kr [23, 30] ?_
    exact zd (by kernel_rfl) rfl lQ (H_F_nodeW_t30 _ _ _ _ _ _ _ _ h)
 ·unfold qa at h
  refine ⟨?_, (q8 rfl rfl (q8 rfl rfl (q8 rfl rfl (ze qp rfl (ze qp rfl (ze qj rfl zr)))))), (qk (qk (qk (qn qp (qn qp (qn qj zg)))))), (q9 rfl (q9 rfl (q9 rfl (zf qp (zf qp (zf qj zt)))))), (qk (qk (qk (qn qp (qn qp (qn qj zg)))))), rfl, rfl, rfl, rfl⟩
  refine zo (T := tt) (N := 146) (rs := []) (fun vs w => by simp) Tryd.func43 rfl rfl rfl (by kernel_rfl) (by kernel_rfl) ?_
  refine kr [22, 33] ?_
  refine qg (fun hb => ?_) (fun hb => ?_)
  ·replace h := qv hb h
   refine kr [22, 33] ?_
   refine Zr 16 rfl (fun hm => ?_)
   exact z7 (by kernel_rfl) lQ (H_F_otherW_l0 _ _ _ _ _ _ _ _ _ _ _ h a0_n.kids rfl (Nat.zero_le _) (wy hm))
  ·replace h := qw hb h
   refine kr [22, 33] ?_
   refine qg (fun hb => ?_) (fun hb => ?_)
   ·replace h := qv hb h
    refine kr [22, 33] ?_
    obtain ⟨x37, hx, h⟩ := bind_some h
    refine qb (AC.g9 (H_F_ownW _ _ _ _ _ _ _ _ _ _ hx) [0, 1, 2, 3, 4, 5] [0, 1, 2, 3, 4, 5]) ?_
    refine kr [22, 33] ?_
    obtain ⟨x38, hx, h⟩ := bind_some h
    refine qb (AC.g9 (H_F_ownW _ _ _ _ _ _ _ _ _ _ hx) [0, 1, 2, 3, 4, 5] [0, 1, 2, 6, 7, 5]) ?_
    refine kr [22, 33] ?_
    obtain ⟨x39, hx, h⟩ := bind_some h
    refine qb (AC.g9 (H_F_kidW _ _ _ _ _ _ _ _ _ hx) [0, 1, 2, 3, 4, 5] [0, 1, 2, 8, 9, 5]) ?_
    refine kr [22, 33] ?_
    obtain ⟨x40, hx, h⟩ := bind_some h
    refine qb (AC.g9 (H_F_kidW _ _ _ _ _ _ _ _ _ hx) [0, 1, 2, 3, 4, 5] [0, 1, 2, 10, 9, 11]) ?_
    refine kr [22, 33] ?_
    obtain ⟨x41, hx, h⟩ := bind_some h
    refine qb (AC.g9 (H_F_kidW _ _ _ _ _ _ _ _ _ hx) [0, 1, 2, 3, 4, 5] [0, 1, 2, 12, 9, 13]) ?_
    refine kr [22, 33] ?_
    cases h
    exact qx env rfl (tS [some 0, some 1, some 2, some 3, some 4, some 5] (sV (lS (lS (lS (lS (lS (lS (lS (lS (lS (lS lN)))))))))) (sV (lS lN) (sV (lS lN) (sR qp (sR qp (sR qj qt)))))) (qz qu))
   ·replace h := qw hb h
    refine kr [22, 33] ?_
    refine qg (fun hb => ?_) (fun hb => ?_)
    ·replace h := qv hb h
     refine kr [22, 33] ?_
     obtain ⟨x42, hx, h⟩ := bind_some h
     refine qb (AC.g9 (H_F_ownW _ _ _ _ _ _ _ _ _ _ hx) [0, 1, 2, 3, 4, 5] [0, 1, 2, 3, 4, 5]) ?_
     refine kr [22, 33] ?_
     obtain ⟨x43, hx, h⟩ := bind_some h
     refine qb (AC.g9 (H_F_restW _ _ _ _ _ _ _ _ hx) [0, 1, 2, 3, 4, 5] [0, 1, 2, 6, 7, 5]) ?_
     refine kr [22, 33] ?_
     cases h
     exact qx env rfl (tS [some 0, some 1, some 2, some 3, some 4, some 5] (sV (lS (lS (lS (lS (lS (lS (lS (lS (lS (lS lN)))))))))) (sV (lS lN) (sV (lS lN) (sR qp (sR qp (sR qj qt)))))) (qz qu))
    ·replace h := qw hb h
     refine kr [22, 33] ?_
     refine qg (fun hb => ?_) (fun hb => ?_)
     ·replace h := qv hb h
      refine kr [22, 33] ?_
      obtain ⟨x44, hx, h⟩ := bind_some h
      refine qb (AC.g9 (H_F_ownW _ _ _ _ _ _ _ _ _ _ hx) [0, 1, 2, 3, 4, 5] [0, 1, 2, 3, 4, 5]) ?_
      refine kr [22, 33] ?_
      obtain ⟨x45, hx, h⟩ := bind_some h
      refine qb (AC.g9 (H_F_kidW _ _ _ _ _ _ _ _ _ hx) [0, 1, 2, 3, 4, 5] [0, 1, 2, 6, 7, 5]) ?_
      refine kr [22, 33] ?_
      cases h
      exact qx env rfl (tS [some 0, some 1, some 2, some 3, some 4, some 5] (sV (lS (lS (lS (lS (lS (lS (lS (lS (lS (lS lN)))))))))) (sV (lS lN) (sV (lS lN) (sR qp (sR qp (sR qj qt)))))) (qz qu))
     ·replace h := qw hb h
      refine kr [22, 33] ?_
      refine qg (fun hb => ?_) (fun hb => ?_)
      ·replace h := qv hb h
       refine kr [22, 33] ?_
       obtain ⟨x46, hx, h⟩ := bind_some h
       refine qb (AC.g9 (H_F_ownW _ _ _ _ _ _ _ _ _ _ hx) [0, 1, 2, 3, 4, 5] [0, 1, 2, 3, 4, 5]) ?_
       refine kr [22, 33] ?_
       cases h
       exact qx env rfl (tS [some 0, some 1, some 2, some 3, some 4, some 5] (sV (lS (lS (lS (lS (lS (lS (lS (lS (lS (lS lN)))))))))) (sV (lS lN) (sV (lS lN) (sR qp (sR qp (sR qj qt)))))) (qz qu))
      ·replace h := qw hb h
       refine kr [22, 33] ?_
       refine qg (fun hb => ?_) (fun hb => ?_)
       ·replace h := qv hb h
        refine kr [22, 33] ?_
        obtain ⟨x47, hx, h⟩ := bind_some h
        refine qb (AC.g9 (H_F_ownW _ _ _ _ _ _ _ _ _ _ hx) [0, 1, 2, 3, 4, 5] [0, 1, 2, 3, 4, 5]) ?_
        refine kr [22, 33] ?_
        obtain ⟨x48, hx, h⟩ := bind_some h
        refine qb (AC.g9 (H_F_bodyW _ _ _ _ _ _ _ _ _ hx) [0, 1, 2, 3, 4, 5] [0, 1, 2, 6, 7, 5]) ?_
        refine kr [22, 33] ?_
        cases h
        exact qx env rfl (tS [some 0, some 1, some 2, some 3, some 4, some 5] (sV (lS (lS (lS (lS (lS (lS (lS (lS (lS (lS lN)))))))))) (sV (lS lN) (sV (lS lN) (sR qp (sR qp (sR qj qt)))))) (qz qu))
       ·replace h := qw hb h
        refine kr [22, 33] ?_
        refine qg (fun hb => ?_) (fun hb => ?_)
        ·replace h := qv hb h
         refine kr [22, 33] ?_
         obtain ⟨x49, hx, h⟩ := bind_some h
         refine qb (AC.g9 (H_F_ownW _ _ _ _ _ _ _ _ _ _ hx) [0, 1, 2, 3, 4, 5] [0, 1, 2, 3, 4, 5]) ?_
         refine kr [22, 33] ?_
         obtain ⟨x50, hx, h⟩ := bind_some h
         refine qb (AC.g9 (H_F_ownW _ _ _ _ _ _ _ _ _ _ hx) [0, 1, 2, 3, 4, 5] [0, 1, 2, 6, 7, 5]) ?_
         refine kr [22, 33] ?_
         obtain ⟨x51, hx, h⟩ := bind_some h
         refine qb (AC.g9 (H_F_kidW _ _ _ _ _ _ _ _ _ hx) [0, 1, 2, 3, 4, 5] [0, 1, 2, 8, 9, 5]) ?_
         refine kr [22, 33] ?_
         obtain ⟨x52, hx, h⟩ := bind_some h
         refine qb (AC.g9 (H_F_ownW _ _ _ _ _ _ _ _ _ _ hx) [0, 1, 2, 3, 4, 5] [0, 1, 2, 10, 9, 11]) ?_
         refine kr [22, 33] ?_
         obtain ⟨x53, hx, h⟩ := bind_some h
         refine qb (AC.g9 (H_F_bodyW _ _ _ _ _ _ _ _ _ hx) [0, 1, 2, 3, 4, 5] [0, 1, 2, 12, 13, 11]) ?_
         refine kr [22, 33] ?_
         cases h
         exact qx env rfl (tS [some 0, some 1, some 2, some 3, some 4, some 5] (sV (lS (lS (lS (lS (lS (lS (lS (lS (lS (lS lN)))))))))) (sV (lS lN) (sV (lS lN) (sR qp (sR qp (sR qj qt)))))) (qz qu))
        ·replace h := qw hb h
         refine kr [22, 33] ?_
         refine qg (fun hb => ?_) (fun hb => ?_)
         ·replace h := qv hb h
          refine kr [22, 33] ?_
          refine qg (fun hb => ?_) (fun hb => ?_)
          ·replace h := qv hb h
           refine kr [22, 33] ?_
           obtain ⟨x54, hx, h⟩ := bind_some h
           refine qb (AC.g9 (H_F_ownW _ _ _ _ _ _ _ _ _ _ hx) [0, 1, 2, 3, 4, 5] [0, 1, 2, 3, 4, 5]) ?_
           refine kr [22, 33] ?_
           obtain ⟨x55, hx, h⟩ := bind_some h
           refine qb (AC.g9 (H_F_ownW _ _ _ _ _ _ _ _ _ _ hx) [0, 1, 2, 3, 4, 5] [0, 1, 2, 6, 7, 5]) ?_
           refine kr [22, 33] ?_
           cases h
           exact qx env rfl (tS [some 0, some 1, some 2, some 3, some 4, some 5] (sV (lS (lS (lS (lS (lS (lS (lS (lS (lS (lS lN)))))))))) (sV (lS lN) (sV (lS lN) (sR qp (sR qp (sR qj qt)))))) (qz qu))
          ·replace h := qw hb h
           refine kr [22, 33] ?_
           cases h
           exact qx env rfl (tS [some 0, some 1, some 2, some 3, some 4, some 5] (sV (lS (lS (lS (lS (lS (lS (lS (lS (lS (lS lN)))))))))) (sV (lS lN) (sV (lS lN) (sR qp (sR qp (sR qj qt)))))) (qz qu))
         ·replace h := qw hb h
          refine kr [22, 33] ?_
          refine qg (fun hb => ?_) (fun hb => ?_)
          ·replace h := qv hb h
           refine kr [22, 33] ?_
           obtain ⟨x56, hx, h⟩ := bind_some h
           refine qb (AC.g9 (H_F_namedW _ _ _ _ _ _ _ _ _ _ hx) [0, 1, 2, 3, 4, 5] [0, 1, 2, 3, 4, 5]) ?_
           refine kr [22, 33] ?_
           cases h
           exact qx env rfl (tS [some 0, some 1, some 2, some 3, some 4, some 5] (sV (lS (lS (lS (lS (lS (lS (lS (lS (lS (lS lN)))))))))) (sV (lS lN) (sV (lS lN) (sR qp (sR qp (sR qj qt)))))) (qz qu))
          ·replace h := qw hb h
           refine kr [22, 33] ?_
           refine qg (fun hb => ?_) (fun hb => ?_)
           ·replace h := qv hb h
            refine kr [22, 33] ?_
            refine qg (fun hb => ?_) (fun hb => ?_)
            ·replace h := qv hb h
             refine kr [22, 33] ?_
             obtain ⟨x57, hx, h⟩ := bind_some h
             refine qb (AC.g9 (H_F_ownW _ _ _ _ _ _ _ _ _ _ hx) [0, 1, 2, 3, 4, 5] [0, 1, 2, 3, 4, 5]) ?_
             refine kr [22, 33] ?_
             obtain ⟨x58, hx, h⟩ := bind_some h
             refine qb (AC.g9 (H_F_kidW _ _ _ _ _ _ _ _ _ hx) [0, 1, 2, 3, 4, 5] [0, 1, 2, 6, 7, 5]) ?_
             refine kr [22, 33] ?_
             cases h
             exact qx env rfl (tS [some 0, some 1, some 2, some 3, some 4, some 5] (sV (lS (lS (lS (lS (lS (lS (lS (lS (lS (lS lN)))))))))) (sV (lS lN) (sV (lS lN) (sR qp (sR qp (sR qj qt)))))) (qz qu))
            ·replace h := qw hb h
             refine kr [22, 33] ?_
             cases h
             exact qx env rfl (tS [some 0, some 1, some 2, some 3, some 4, some 5] (sV (lS (lS (lS (lS (lS (lS (lS (lS (lS (lS lN)))))))))) (sV (lS lN) (sV (lS lN) (sR qp (sR qp (sR qj qt)))))) (qz qu))
           ·replace h := qw hb h
            refine kr [22, 33] ?_
            cases h
            exact qx env rfl (tS [some 0, some 1, some 2, some 3, some 4, some 5] (sV (lS (lS (lS (lS (lS (lS (lS (lS (lS (lS lN)))))))))) (sV (lS lN) (sV (lS lN) (sR qp (sR qp (sR qj qt)))))) (qz qu))
 ·unfold qa at h
  refine ⟨?_, (q8 rfl rfl (q8 rfl rfl (q8 rfl rfl (ze qp rfl (ze qp rfl (ze qj rfl zr)))))), (qk (qk (qk (qn qp (qn qp (qn qj zg)))))), (q9 rfl (q9 rfl (q9 rfl (zf qp (zf qp (zf qj zt)))))), (qk (qk (qk (qn qp (qn qp (qn qj zg)))))), rfl, rfl, rfl, rfl⟩
  refine zo (T := tt) (N := 23) (rs := []) (fun vs w => by simp) Tryd.func63 rfl rfl rfl (by kernel_rfl) (by kernel_rfl) ?_
  refine kr [] ?_
  obtain ⟨x62, hx, h⟩ := bind_some h
  refine qb (AC.g9 (H_F_ownW _ _ _ _ _ _ _ _ _ _ hx) [0, 1, 2, 3, 4, 5] [0, 1, 2, 3, 4, 5]) ?_
  refine kr [] ?_
  obtain ⟨x63, hx, h⟩ := bind_some h
  refine qb (AC.g9 (H_F_ownW _ _ _ _ _ _ _ _ _ _ hx) [0, 1, 2, 3, 4, 5] [0, 1, 2, 6, 7, 5]) ?_
  refine kr [] ?_
  obtain ⟨x64, hx, h⟩ := bind_some h
  refine qb (AC.g9 (H_F_ownW _ _ _ _ _ _ _ _ _ _ hx) [0, 1, 2, 3, 4, 5] [0, 1, 2, 8, 9, 5]) ?_
  refine kr [] ?_
  obtain ⟨x65, hx, h⟩ := bind_some h
  refine qb (AC.g9 (H_F_kidW _ _ _ _ _ _ _ _ _ hx) [0, 1, 2, 3, 4, 5] [0, 1, 2, 10, 11, 5]) ?_
  refine kr [] ?_
  obtain ⟨x66, hx, h⟩ := bind_some h
  refine qb (AC.g9 (H_F_ownW _ _ _ _ _ _ _ _ _ _ hx) [0, 1, 2, 3, 4, 5] [0, 1, 2, 12, 11, 13]) ?_
  refine kr [] ?_
  cases h
  exact qx env rfl (tS [some 0, some 1, some 2, some 3, some 4, some 5] (sV (lS (lS (lS (lS (lS (lS (lS (lS (lS (lS lN)))))))))) (sV (lS lN) (sV (lS lN) (sR qp (sR qp (sR qj qt)))))) (qz qu))
 ·unfold qa at h
  refine ⟨?_, (q8 rfl rfl (q8 rfl rfl (q8 rfl rfl (ze qp rfl (ze qp rfl (ze qj rfl zr)))))), (qk (qk (qk (qn qp (qn qp (qn qj zg)))))), (q9 rfl (q9 rfl (q9 rfl (zf qp (zf qp (zf qj zt)))))), (qk (qk (qk (qn qp (qn qp (qn qj zg)))))), rfl, rfl, rfl, rfl⟩
  refine zo (T := tt) (N := 41) (rs := []) (fun vs w => by simp) Tryd.func62 rfl rfl rfl (by kernel_rfl) (by kernel_rfl) ?_
  refine kr [] ?_
  obtain ⟨x59, hx, h⟩ := bind_some h
  refine yt env hx rfl rfl rfl rfl (Node.cells_eq x59) ?_
  refine kr [] ?_
  obtain ⟨x60, hx, h⟩ := bind_some h
  refine qb (AC.g9 (H_F_nodeW _ _ _ _ _ hx) [1, 2, 3] [1, 2, 3]) ?_
  refine kr [] ?_
  obtain ⟨x61, hx, h⟩ := bind_some h
  have hz_x61 := hx
  refine Ok_appOZ (C := Node.cells) env hx rfl rfl Node.cells_len rfl rfl rfl rfl rfl (by decide) rfl rfl rfl ?_
  refine kr [] ?_
  refine Ok_ixB env rfl rfl rfl rfl (Int.natCast_nonneg _) (app_last hz_x61) ?_
  refine kr [] ?_
  refine Ok_storeZ hz_x61 qj rfl rfl (Node.cells_eq x60.1).symm rfl rfl rfl ?_
  refine kr [] ?_
  cases h
  exact qx env rfl (tS [some 0, some 1, some 2, some 3, some 4, some 5] (sV (lS (lS (lS (lS (lS (lS (lS (lS (lS (lS lN)))))))))) (sV (lS lN) (sV (lS lN) (sR qp (sR qp (sR qj qt)))))) (qz qu))
 ·unfold qa at h
  refine ⟨?_, (q8 rfl rfl (q8 rfl rfl (q8 rfl rfl (ze qp rfl (ze qp rfl (ze qj rfl zr)))))), (qk (qk (qk (qn qp (qn qp (qn qj zg)))))), (q9 rfl (q9 rfl (q9 rfl (zf qp (zf qp (zf qj zt)))))), (qk (qk (qk (qn qp (qn qp (qn qj zg)))))), rfl, rfl, rfl, rfl⟩
  refine zo (T := tt) (N := 55) (rs := []) (fun vs w => by simp) Tryd.func64 rfl rfl rfl (by kernel_rfl) (by kernel_rfl) ?_
  refine kr [] ?_
  exact z7 (by kernel_rfl) lQ (H_F_bodyW_l0 _ _ _ _ _ _ _ _ _ h)
 ·unfold qa at h
  refine ji ?_
  refine kr [] ?_
  refine qg (fun hb => ?_) (fun hb => ?_)
  ·replace h := qv hb h
   refine kr [] ?_
   obtain ⟨x72, hx, h⟩ := bind_some h
   refine ql (H_F_print_line _ _ hx) ?_
   refine kr [] ?_
   obtain ⟨x73, hx, h⟩ := bind_some h
   refine qb (AC.g9 (H_F_kidW _ _ _ _ _ _ _ _ _ hx) [0, 1, 2, 3, 4, 5] [0, 1, 2, 6, 7, 8]) ?_
   refine kr [] ?_
   exact zx (by kernel_rfl) lQ (H_F_bodyW_l0 _ _ _ _ _ _ _ _ _ h)
  ·replace h := qw hb h
   refine kr [] ?_
   refine qg (fun hb => ?_) (fun hb => ?_)
   ·replace h := qv hb h
    refine kr [] ?_
    obtain ⟨x74, hx, h⟩ := bind_some h
    refine ql (H_F_print_line _ _ hx) ?_
    refine kr [] ?_
    obtain ⟨x75, hx, h⟩ := bind_some h
    refine qb (AC.g9 (H_F_ownW _ _ _ _ _ _ _ _ _ _ hx) [0, 1, 2, 3, 4, 5] [0, 1, 2, 6, 7, 8]) ?_
    refine kr [] ?_
    cases h
    exact qx env rfl (tS [some 0, some 1, some 2, some 3, some 4, some 5] (sV (lS (lS (lS (lS (lS (lS (lS (lS (lS (lS lN)))))))))) (sV (lS lN) (sV (lS lN) (sR qp (sR qp (sR qj qt)))))) (qz qu))
   ·replace h := qw hb h
    refine kr [] ?_
    obtain ⟨x76, hx, h⟩ := bind_some h
    refine qb (AC.g9 (H_F_ownW _ _ _ _ _ _ _ _ _ _ hx) [0, 1, 2, 3, 4, 5] [0, 1, 2, 6, 7, 8]) ?_
    refine kr [] ?_
    cases h
    exact qx env rfl (tS [some 0, some 1, some 2, some 3, some 4, some 5] (sV (lS (lS (lS (lS (lS (lS (lS (lS (lS (lS lN)))))))))) (sV (lS lN) (sV (lS lN) (sR qp (sR qp (sR qj qt)))))) (qz qu))
 ·unfold qa at h
  refine ⟨?_, (q8 rfl rfl (q8 rfl rfl (q8 rfl rfl (ze qp rfl (ze qp rfl (ze qj rfl zr)))))), (qk (qk (qk (qn qp (qn qp (qn qj zg)))))), (q9 rfl (q9 rfl (q9 rfl (zf qp (zf qp (zf qj zt)))))), (qk (qk (qk (qn qp (qn qp (qn qj zg)))))), rfl, rfl, rfl, rfl⟩
  refine zo (T := tt) (N := 25) (rs := []) (fun vs w => by simp) Tryd.func61 rfl rfl rfl (by kernel_rfl) (by kernel_rfl) ?_
  refine kr [1000001] ?_
  exact z7 (by kernel_rfl) lQ (H_F_restW_l0 _ _ _ _ _ _ _ _ _ h)
 ·unfold qa at h
  refine ji ?_
  refine kr [1000001] ?_
  refine qg (fun hb => ?_) (fun hb => ?_)
  ·replace h := qv hb h
   refine kr [1000001] ?_
   refine qg (fun hb => ?_) (fun hb => ?_)
   ·replace h := qv hb h
    refine kr [1000001] ?_
    obtain ⟨x68, hx, h⟩ := bind_some h
    refine qb (AC.g9 (H_F_kidW _ _ _ _ _ _ _ _ _ hx) [0, 1, 2, 3, 4, 5] [0, 1, 2, 6, 7, 8]) ?_
    refine kr [1000001] ?_
    exact zd (by kernel_rfl) rfl lQ (H_F_restW_b1 _ _ _ _ _ _ _ _ h)
   ·replace h := qw hb h
    refine kr [1000001] ?_
    obtain ⟨x69, hx, h⟩ := bind_some h
    refine qb (AC.g9 (H_F_ownW _ _ _ _ _ _ _ _ _ _ hx) [0, 1, 2, 3, 4, 5] [0, 1, 2, 6, 7, 8]) ?_
    refine kr [1000001] ?_
    obtain ⟨x70, hx, h⟩ := bind_some h
    refine qb (AC.g9 (H_F_kidW _ _ _ _ _ _ _ _ _ hx) [0, 1, 2, 3, 4, 5] [0, 1, 2, 9, 10, 8]) ?_
    refine kr [1000001] ?_
    exact zd (by kernel_rfl) rfl lQ (H_F_restW_b1 _ _ _ _ _ _ _ _ h)
  ·replace h := qw hb h
   refine kr [1000001] ?_
   obtain ⟨x71, hx, h⟩ := bind_some h
   refine qb (AC.g9 (H_F_ownW _ _ _ _ _ _ _ _ _ _ hx) [0, 1, 2, 3, 4, 5] [0, 1, 2, 6, 7, 8]) ?_
   refine kr [1000001] ?_
   cases h
   exact qx env rfl (tS [some 0, some 1, some 2, some 3, some 4, some 5] (sV (lS (lS (lS (lS (lS (lS (lS (lS (lS (lS lN)))))))))) (sV (lS lN) (sV (lS lN) (sR qp (sR qp (sR qj qt)))))) (qz qu))
 ·unfold qa at h
  refine kr [1000001] ?_
  exact zx (by kernel_rfl) lQ (H_F_restW_l0 _ _ _ _ _ _ _ _ _ h)
 ·unfold qa at h
  intro l0 hl0 hj0 hm0
  refine ji ?_
  cases a0 with
  | nil =>
    have hb := uz (C := Node.cells) hl0 hj0
    refine kr [22, 33] ?_
    refine qi hb ?_
    refine kr [22, 33] ?_
    refine qg (fun hb => ?_) (fun hb => ?_)
    ·replace h := qv hb h
     refine kr [22, 33] ?_
     exact zd (by kernel_rfl) rfl lQ (H_F_otherW_t33 _ _ _ _ _ _ _ _ _ h)
    ·replace h := qw hb h
     refine kr [22, 33] ?_
     exact zd (by kernel_rfl) rfl lQ (H_F_otherW_t33 _ _ _ _ _ _ _ _ _ h)
  | cons x_0 a0 =>
    obtain ⟨hb, hx0, hd0, hk0, hw0⟩ := wx (C := Node.cells) hl0 hm0
    refine kr [22, 33] ?_
    refine qh hb ?_
    refine kr [22, 33] ?_
    refine qg (fun hb => ?_) (fun hb => ?_)
    ·replace h := qv hb h
     refine kr [22, 33] ?_
     exact zd (by kernel_rfl) rfl lQ (H_F_otherW_t22 _ _ _ _ _ _ _ _ _ _ _ h l0 hd0 hk0 hm0)
    ·replace h := qw hb h
     refine kr [22, 33] ?_
     exact zd (by kernel_rfl) rfl lQ (H_F_otherW_t22 _ _ _ _ _ _ _ _ _ _ _ h l0 hd0 hk0 hm0)
 ·unfold qa at h
  intro l0 hd0 hk0 hm0
  have hw0 := range_w hk0 hm0
  refine kr [22, 33] ?_
  obtain ⟨x79, hx, h⟩ := bind_some h
  refine qb (AC.g9 (H_F_kidW _ _ _ _ _ _ _ _ _ hx) [0, 1, 2, 3, 4, 5] [0, 1, 2, 9, 10, 11]) ?_
  refine kr [22, 33] ?_
  exact zx (by kernel_rfl) (vv (Zk rfl) (Nat.le_of_ble_eq_true rfl) (by simp only [hw0]; simp <;> (repeat' apply And.intro) <;> first | rfl | exact fun x a _ h => (qj.all a x h).2 | exact fun x a _ h => (qp.all a x h).2) (by simp <;> (repeat' apply And.intro) <;> first | rfl | exact fun x a _ h => (qj.all a x h).2 | exact fun x a _ h => (qp.all a x h).2)) (H_F_otherW_l0 _ _ _ _ _ _ _ _ _ _ _ h l0 hd0 hk0 hm0)
 ·unfold qa at h
  refine ⟨?_, (q8 rfl rfl (q8 rfl rfl (q8 rfl rfl (ze qp rfl (ze qp rfl (ze qj rfl zr)))))), (qk (qk (qk (qn qp (qn qp (qn qj zg)))))), (q9 rfl (q9 rfl (q9 rfl (zf qp (zf qp (zf qj zt)))))), (qk (qk (qk (qn qp (qn qp (qn qj zg)))))), rfl, rfl, rfl, rfl⟩
  refine zo (T := tt) (N := 69) (rs := []) (fun vs w => by simp) Tryd.func42 rfl rfl rfl (by kernel_rfl) (by kernel_rfl) ?_
  refine kr [53] ?_
  refine qg (fun hb => ?_) (fun hb => ?_)
  ·replace h := qv hb h
   refine kr [53] ?_
   obtain ⟨x27, hx, h⟩ := bind_some h
   refine qb (AC.g9 (H_F_namedW _ _ _ _ _ _ _ _ _ _ hx) [0, 1, 2, 3, 4, 5] [0, 1, 2, 3, 4, 5]) ?_
   refine kr [53] ?_
   cases h
   exact qx env rfl (tS [some 0, some 1, some 2, some 3, some 4, some 5] (sV (lS (lS (lS (lS (lS (lS (lS (lS (lS (lS lN)))))))))) (sV (lS lN) (sV (lS lN) (sR qp (sR qp (sR qj qt)))))) (qz qu))
  ·replace h := qw hb h
   refine kr [53] ?_
   refine qg (fun hb => ?_) (fun hb => ?_)
   ·replace h := qv hb h
    refine kr [53] ?_
    obtain ⟨x28, hx, h⟩ := bind_some h
    refine qb (AC.g9 (H_F_ownW _ _ _ _ _ _ _ _ _ _ hx) [0, 1, 2, 3, 4, 5] [0, 1, 2, 3, 4, 5]) ?_
    refine kr [53] ?_
    obtain ⟨x29, hx, h⟩ := bind_some h
    refine qb (AC.g9 (H_F_ownW _ _ _ _ _ _ _ _ _ _ hx) [0, 1, 2, 3, 4, 5] [0, 1, 2, 6, 7, 5]) ?_
    refine kr [53] ?_
    obtain ⟨x30, hx, h⟩ := bind_some h
    refine qb (AC.g9 (H_F_kidW _ _ _ _ _ _ _ _ _ hx) [0, 1, 2, 3, 4, 5] [0, 1, 2, 8, 9, 5]) ?_
    refine kr [53] ?_
    obtain ⟨x31, hx, h⟩ := bind_some h
    refine qb (AC.g9 (H_F_ownW _ _ _ _ _ _ _ _ _ _ hx) [0, 1, 2, 3, 4, 5] [0, 1, 2, 10, 9, 11]) ?_
    refine kr [53] ?_
    cases h
    exact qx env rfl (tS [some 0, some 1, some 2, some 3, some 4, some 5] (sV (lS (lS (lS (lS (lS (lS (lS (lS (lS (lS lN)))))))))) (sV (lS lN) (sV (lS lN) (sR qp (sR qp (sR qj qt)))))) (qz qu))
   ·replace h := qw hb h
    refine kr [53] ?_
    refine qg (fun hb => ?_) (fun hb => ?_)
    ·replace h := qv hb h
     refine kr [53] ?_
     obtain ⟨x32, hx, h⟩ := bind_some h
     refine qb (AC.g9 (H_F_ownW _ _ _ _ _ _ _ _ _ _ hx) [0, 1, 2, 3, 4, 5] [0, 1, 2, 3, 4, 5]) ?_
     refine kr [53] ?_
     obtain ⟨x33, hx, h⟩ := bind_some h
     refine qb (AC.g9 (H_F_kidW _ _ _ _ _ _ _ _ _ hx) [0, 1, 2, 3, 4, 5] [0, 1, 2, 6, 7, 5]) ?_
     refine kr [53] ?_
     obtain ⟨x34, hx, h⟩ := bind_some h
     refine qb (AC.g9 (H_F_ownW _ _ _ _ _ _ _ _ _ _ hx) [0, 1, 2, 3, 4, 5] [0, 1, 2, 8, 7, 9]) ?_
     refine kr [53] ?_
     cases h
     exact qx env rfl (tS [some 0, some 1, some 2, some 3, some 4, some 5] (sV (lS (lS (lS (lS (lS (lS (lS (lS (lS (lS lN)))))))))) (sV (lS lN) (sV (lS lN) (sR qp (sR qp (sR qj qt)))))) (qz qu))
    ·replace h := qw hb h
     refine kr [53] ?_
     refine qg (fun hb => ?_) (fun hb => ?_)
     ·replace h := qv hb h
      refine kr [53] ?_
      refine qg (fun hb => ?_) (fun hb => ?_)
      ·replace h := qv hb h
       refine kr [53] ?_
       exact zd (by kernel_rfl) rfl lQ (H_F_statementW_t53 _ _ _ _ _ _ _ _ _ _ h)
      ·replace h := qw hb h
       refine kr [53] ?_
       exact zd (by kernel_rfl) rfl lQ (H_F_statementW_t53 _ _ _ _ _ _ _ _ _ _ h)
     ·replace h := qw hb h
      refine kr [53] ?_
      refine qg (fun hb => ?_) (fun hb => ?_)
      ·replace h := qv hb h
       refine kr [53] ?_
       refine qg (fun hb => ?_) (fun hb => ?_)
       ·replace h := qv hb h
        refine kr [53] ?_
        exact zd (by kernel_rfl) rfl lQ (H_F_statementW_t53 _ _ _ _ _ _ _ _ _ _ h)
       ·replace h := qw hb h
        refine kr [53] ?_
        exact zd (by kernel_rfl) rfl lQ (H_F_statementW_t53 _ _ _ _ _ _ _ _ _ _ h)
      ·replace h := qw hb h
       refine kr [53] ?_
       obtain ⟨x35, hx, h⟩ := bind_some h
       refine qb (AC.g9 (H_F_kidW _ _ _ _ _ _ _ _ _ hx) [0, 1, 2, 3, 4, 5] [0, 1, 2, 3, 4, 5]) ?_
       refine kr [53] ?_
       obtain ⟨x36, hx, h⟩ := bind_some h
       refine qb (AC.g9 (H_F_ownW _ _ _ _ _ _ _ _ _ _ hx) [0, 1, 2, 3, 4, 5] [0, 1, 2, 6, 4, 7]) ?_
       refine kr [53] ?_
       cases h
       exact qx env rfl (tS [some 0, some 1, some 2, some 3, some 4, some 5] (sV (lS (lS (lS (lS (lS (lS (lS (lS (lS (lS lN)))))))))) (sV (lS lN) (sV (lS lN) (sR qp (sR qp (sR qj qt)))))) (qz qu))
 ·unfold qa at h
  refine kr [53] ?_
  obtain ⟨x67, hx, h⟩ := bind_some h
  refine qb (AC.g9 (H_F_ownW _ _ _ _ _ _ _ _ _ _ hx) [0, 1, 2, 3, 4, 5] [0, 1, 2, 6, 7, 8]) ?_
  refine kr [53] ?_
  refine Zr 62 rfl (fun hm => ?_)
  exact z7 (by kernel_rfl) lQ (H_F_statementW_l0 _ _ _ _ _ _ _ _ _ h o0_1.kids 0 rfl (Nat.zero_le _) (wy hm))
 ·unfold qa at h
  intro l0 j0 hl0 hj0 hm0
  refine ji ?_
  cases a0 with
  | nil =>
    have hb := uz (C := Node.cells) hl0 hj0
    refine kr [53] ?_
    refine qi hb ?_
    refine kr [53] ?_
    cases h
    exact qx env rfl (tS [some 0, some 1, some 2, some 3, some 4, some 5] (sV (lS (lS (lS (lS (lS (lS (lS (lS (lS (lS lN)))))))))) (sV (lS lN) (sV (lS lN) (sR qp (sR qp (sR qj qt)))))) (qz qu))
  | cons x_0 a0 =>
    obtain ⟨hb, hx0, hd0, hk0, hw0⟩ := wx (C := Node.cells) hl0 hm0
    refine kr [53] ?_
    refine qh hb ?_
    refine kr [53] ?_
    obtain ⟨x77, hx, h⟩ := bind_some h
    refine qb (AC.g9 (H_F_kidW _ _ _ _ _ _ _ _ _ hx) [0, 1, 2, 3, 4, 5] [0, 1, 2, 11, 12, 13]) ?_
    refine kr [53] ?_
    exact zx (by kernel_rfl) (vv (Zk rfl) (Nat.le_of_ble_eq_true rfl) (by simp only [hw0]; simp <;> (repeat' apply And.intro) <;> first | rfl | exact fun x a _ h => (qj.all a x h).2 | exact fun x a _ h => (qp.all a x h).2) (by simp <;> (repeat' apply And.intro) <;> first | rfl | exact fun x a _ h => (qj.all a x h).2 | exact fun x a _ h => (qp.all a x h).2)) (H_F_statementW_l0 _ _ _ _ _ _ _ _ _ h l0 (j0 + 1) hd0 hk0 hm0)
 ·unfold qa at h
  refine ⟨?_, (q8 rfl rfl (q8 rfl rfl (q8 rfl rfl (ze qp rfl (ze qp rfl (ze qj rfl zr)))))), (qk (qk (qk (qn qp (qn qp (qn qj zg)))))), (q9 rfl (q9 rfl (q9 rfl (zf qp (zf qp (zf qj zt)))))), (qk (qk (qk (qn qp (qn qp (qn qj zg)))))), rfl, rfl, rfl, rfl⟩
  refine zo (T := tt) (N := 100) (rs := []) (fun vs w => by simp) Tryd.func41 rfl rfl rfl (by kernel_rfl) (by kernel_rfl) ?_
  refine kr [] ?_
  refine qg (fun hb => ?_) (fun hb => ?_)
  ·replace h := qv hb h
   refine kr [] ?_
   obtain ⟨x6, hx, h⟩ := bind_some h
   refine qb (AC.g9 (H_F_ownW _ _ _ _ _ _ _ _ _ _ hx) [0, 1, 2, 3, 4, 5] [0, 1, 2, 3, 4, 5]) ?_
   refine kr [] ?_
   obtain ⟨x7, hx, h⟩ := bind_some h
   refine qb (AC.g9 (H_F_ownW _ _ _ _ _ _ _ _ _ _ hx) [0, 1, 2, 3, 4, 5] [0, 1, 2, 6, 7, 5]) ?_
   refine kr [] ?_
   obtain ⟨x8, hx, h⟩ := bind_some h
   refine qb (AC.g9 (H_F_restW _ _ _ _ _ _ _ _ hx) [0, 1, 2, 3, 4, 5] [0, 1, 2, 8, 9, 5]) ?_
   refine kr [] ?_
   cases h
   exact qx env rfl (tS [some 0, some 1, some 2, some 3, some 4, some 5] (sV (lS (lS (lS (lS (lS (lS (lS (lS (lS (lS lN)))))))))) (sV (lS lN) (sV (lS lN) (sR qp (sR qp (sR qj qt)))))) (qz qu))
  ·replace h := qw hb h
   refine kr [] ?_
   refine qg (fun hb => ?_) (fun hb => ?_)
   ·replace h := qv hb h
    refine kr [] ?_
    obtain ⟨x9, hx, h⟩ := bind_some h
    refine qb (AC.g9 (H_F_kidW _ _ _ _ _ _ _ _ _ hx) [0, 1, 2, 3, 4, 5] [0, 1, 2, 3, 4, 5]) ?_
    refine kr [] ?_
    obtain ⟨x10, hx, h⟩ := bind_some h
    refine qb (AC.g9 (H_F_ownW _ _ _ _ _ _ _ _ _ _ hx) [0, 1, 2, 3, 4, 5] [0, 1, 2, 6, 4, 7]) ?_
    refine kr [] ?_
    obtain ⟨x11, hx, h⟩ := bind_some h
    refine qb (AC.g9 (H_F_ownW _ _ _ _ _ _ _ _ _ _ hx) [0, 1, 2, 3, 4, 5] [0, 1, 2, 8, 9, 7]) ?_
    refine kr [] ?_
    obtain ⟨x12, hx, h⟩ := bind_some h
    refine qb (AC.g9 (H_F_ownW _ _ _ _ _ _ _ _ _ _ hx) [0, 1, 2, 3, 4, 5] [0, 1, 2, 10, 11, 7]) ?_
    refine kr [] ?_
    obtain ⟨x13, hx, h⟩ := bind_some h
    refine qb (AC.g9 (H_F_restW _ _ _ _ _ _ _ _ hx) [0, 1, 2, 3, 4, 5] [0, 1, 2, 12, 13, 7]) ?_
    refine kr [] ?_
    cases h
    exact qx env rfl (tS [some 0, some 1, some 2, some 3, some 4, some 5] (sV (lS (lS (lS (lS (lS (lS (lS (lS (lS (lS lN)))))))))) (sV (lS lN) (sV (lS lN) (sR qp (sR qp (sR qj qt)))))) (qz qu))
   ·replace h := qw hb h
    refine kr [] ?_
    refine qg (fun hb => ?_) (fun hb => ?_)
    ·replace h := qv hb h
     refine kr [] ?_
     obtain ⟨x14, hx, h⟩ := bind_some h
     refine qb (AC.g9 (H_F_ownW _ _ _ _ _ _ _ _ _ _ hx) [0, 1, 2, 3, 4, 5] [0, 1, 2, 3, 4, 5]) ?_
     refine kr [] ?_
     obtain ⟨x15, hx, h⟩ := bind_some h
     refine qb (AC.g9 (H_F_ownW _ _ _ _ _ _ _ _ _ _ hx) [0, 1, 2, 3, 4, 5] [0, 1, 2, 6, 7, 5]) ?_
     refine kr [] ?_
     obtain ⟨x16, hx, h⟩ := bind_some h
     refine qb (AC.g9 (H_F_ownW _ _ _ _ _ _ _ _ _ _ hx) [0, 1, 2, 3, 4, 5] [0, 1, 2, 8, 9, 5]) ?_
     refine kr [] ?_
     obtain ⟨x17, hx, h⟩ := bind_some h
     refine qb (AC.g9 (H_F_ownW _ _ _ _ _ _ _ _ _ _ hx) [0, 1, 2, 3, 4, 5] [0, 1, 2, 10, 11, 5]) ?_
     refine kr [] ?_
     cases h
     exact qx env rfl (tS [some 0, some 1, some 2, some 3, some 4, some 5] (sV (lS (lS (lS (lS (lS (lS (lS (lS (lS (lS lN)))))))))) (sV (lS lN) (sV (lS lN) (sR qp (sR qp (sR qj qt)))))) (qz qu))
    ·replace h := qw hb h
     refine kr [] ?_
     refine qg (fun hb => ?_) (fun hb => ?_)
     ·replace h := qv hb h
      refine kr [] ?_
      obtain ⟨x18, hx, h⟩ := bind_some h
      refine qb (AC.g9 (H_F_kidW _ _ _ _ _ _ _ _ _ hx) [0, 1, 2, 3, 4, 5] [0, 1, 2, 3, 4, 5]) ?_
      refine kr [] ?_
      obtain ⟨x19, hx, h⟩ := bind_some h
      refine qb (AC.g9 (H_F_ownW _ _ _ _ _ _ _ _ _ _ hx) [0, 1, 2, 3, 4, 5] [0, 1, 2, 6, 4, 7]) ?_
      refine kr [] ?_
      obtain ⟨x20, hx, h⟩ := bind_some h
      refine qb (AC.g9 (H_F_kidW _ _ _ _ _ _ _ _ _ hx) [0, 1, 2, 3, 4, 5] [0, 1, 2, 8, 9, 7]) ?_
      refine kr [] ?_
      cases h
      exact qx env rfl (tS [some 0, some 1, some 2, some 3, some 4, some 5] (sV (lS (lS (lS (lS (lS (lS (lS (lS (lS (lS lN)))))))))) (sV (lS lN) (sV (lS lN) (sR qp (sR qp (sR qj qt)))))) (qz qu))
     ·replace h := qw hb h
      refine kr [] ?_
      refine qg (fun hb => ?_) (fun hb => ?_)
      ·replace h := qv hb h
       refine kr [] ?_
       obtain ⟨x21, hx, h⟩ := bind_some h
       refine qb (AC.g9 (H_F_ownW _ _ _ _ _ _ _ _ _ _ hx) [0, 1, 2, 3, 4, 5] [0, 1, 2, 3, 4, 5]) ?_
       refine kr [] ?_
       obtain ⟨x22, hx, h⟩ := bind_some h
       refine qb (AC.g9 (H_F_kidW _ _ _ _ _ _ _ _ _ hx) [0, 1, 2, 3, 4, 5] [0, 1, 2, 6, 7, 5]) ?_
       refine kr [] ?_
       cases h
       exact qx env rfl (tS [some 0, some 1, some 2, some 3, some 4, some 5] (sV (lS (lS (lS (lS (lS (lS (lS (lS (lS (lS lN)))))))))) (sV (lS lN) (sV (lS lN) (sR qp (sR qp (sR qj qt)))))) (qz qu))
      ·replace h := qw hb h
       refine kr [] ?_
       refine qg (fun hb => ?_) (fun hb => ?_)
       ·replace h := qv hb h
        refine kr [] ?_
        obtain ⟨x23, hx, h⟩ := bind_some h
        refine qb (AC.g9 (H_F_ownW _ _ _ _ _ _ _ _ _ _ hx) [0, 1, 2, 3, 4, 5] [0, 1, 2, 3, 4, 5]) ?_
        refine kr [] ?_
        obtain ⟨x24, hx, h⟩ := bind_some h
        refine qb (AC.g9 (H_F_kidW _ _ _ _ _ _ _ _ _ hx) [0, 1, 2, 3, 4, 5] [0, 1, 2, 6, 7, 5]) ?_
        refine kr [] ?_
        obtain ⟨x25, hx, h⟩ := bind_some h
        refine qb (AC.g9 (H_F_ownW _ _ _ _ _ _ _ _ _ _ hx) [0, 1, 2, 3, 4, 5] [0, 1, 2, 8, 7, 9]) ?_
        refine kr [] ?_
        cases h
        exact qx env rfl (tS [some 0, some 1, some 2, some 3, some 4, some 5] (sV (lS (lS (lS (lS (lS (lS (lS (lS (lS (lS lN)))))))))) (sV (lS lN) (sV (lS lN) (sR qp (sR qp (sR qj qt)))))) (qz qu))
       ·replace h := qw hb h
        refine kr [] ?_
        obtain ⟨x26, hx, h⟩ := bind_some h
        refine qb (AC.g9 (H_F_ownW _ _ _ _ _ _ _ _ _ _ hx) [0, 1, 2, 3, 4, 5] [0, 1, 2, 3, 4, 5]) ?_
        refine kr [] ?_
        cases h
        exact qx env rfl (tS [some 0, some 1, some 2, some 3, some 4, some 5] (sV (lS (lS (lS (lS (lS (lS (lS (lS (lS (lS lN)))))))))) (sV (lS lN) (sV (lS lN) (sR qp (sR qp (sR qj qt)))))) (qz qu))
theorem H_F_nodeW : PC4 M_F_nodeW F_nodeW := ALL_F_nodeW.1
theorem H_F_otherW : PC8 M_F_otherW F_otherW := ALL_F_nodeW.2.1
theorem H_F_namedW : PC9 M_F_namedW F_namedW := ALL_F_nodeW.2.2.1
theorem H_F_kidW : PC8 M_F_kidW F_kidW := ALL_F_nodeW.2.2.2.1
theorem H_F_bodyW : PC8 M_F_bodyW F_bodyW := ALL_F_nodeW.2.2.2.2.1
theorem H_F_bodyW_l0 : PC8 M_F_bodyW_l0 F_bodyW_l0 := ALL_F_nodeW.2.2.2.2.2.1
theorem H_F_restW : PC7 M_F_restW F_restW := ALL_F_nodeW.2.2.2.2.2.2.1
theorem H_F_restW_l0 : PC8 M_F_restW_l0 F_restW_l0 := ALL_F_nodeW.2.2.2.2.2.2.2.1
theorem H_F_restW_b1 : PC7 M_F_restW_b1 F_restW_b1 := ALL_F_nodeW.2.2.2.2.2.2.2.2.1
theorem H_F_otherW_l0 : PC10 M_F_otherW_l0 F_otherW_l0 := ALL_F_nodeW.2.2.2.2.2.2.2.2.2.1
theorem H_F_otherW_t22 : PC10 M_F_otherW_t22 F_otherW_t22 := ALL_F_nodeW.2.2.2.2.2.2.2.2.2.2.1
theorem H_F_statementW : PC8 M_F_statementW F_statementW := ALL_F_nodeW.2.2.2.2.2.2.2.2.2.2.2.1
theorem H_F_statementW_t53 : PC9 M_F_statementW_t53 F_statementW_t53 := ALL_F_nodeW.2.2.2.2.2.2.2.2.2.2.2.2.1
theorem H_F_statementW_l0 : PC8 M_F_statementW_l0 F_statementW_l0 := ALL_F_nodeW.2.2.2.2.2.2.2.2.2.2.2.2.2.1
theorem H_F_expressionW : PC8 M_F_expressionW F_expressionW := ALL_F_nodeW.2.2.2.2.2.2.2.2.2.2.2.2.2.2
def F_print_Words (a0 : Node) : Option (LB × Int) :=
 F_grammar_Check a0 >>= fun x1 =>
 if (!decide (x1 = (0 : Int))) = true then
  some (([] : LB), x1)
 else
  F_nodeW ([] : LB) a0 (⟨#[]⟩ : BA) (0 : Int) >>= fun x2 =>
  some (x2.2, (0 : Int))
@[reducible] def M_F_print_Words (a0 : Node) (r : LB × Int) : Prop :=
  Fn Tryd.prog G 13 [(.agg (zk a0))] (.tup [(.sl 1 false (r.1.map sc)), (.int .i64 r.2)])
theorem H_F_print_Words : PC1 M_F_print_Words F_print_Words := fun a0 r h => by
 rw [F_print_Words.eq_def] at h
 refine zh (T := tt) (N := 19) (rs := [.tmp 2, .tmp 3]) (fun vs w => by simp) Tryd.func13 rfl rfl rfl rfl (by kernel_rfl) (z6 rfl) (zn _ rfl) ?_
 refine kr [] ?_
 obtain ⟨x1, hx, h⟩ := bind_some h
 refine ql (H_F_grammar_Check _ _ hx) ?_
 refine kr [] ?_
 refine qg (fun hb => ?_) (fun hb => ?_)
 ·replace h := qv hb h
  refine kr [] ?_
  cases h
  exact zj env rfl rfl (Qs (viewT_tup (w5 (Z9 (Ja (.inr rfl)) (by simp)) (w5 (Z9 (yx rfl) (by simp)) Ym))))
 ·replace h := qw hb h
  refine kr [] ?_
  obtain ⟨x2, hx, h⟩ := bind_some h
  refine qb (ACalls.ghost (e := 9) (ACalls.wkg (AC.go (objs := [(0, .var 25 (zk a0)), (1, .var 22 [(.bs 1 3 3 0 ([] : LB).length)]), (2, .var 45 [(.fn 32 [(.ptr 1 1 0)])]), (3, .row 9 (([] : LB).map sc).flatten)]) (xs := [(.ptr 2 2 0), (.agg (zk a0)), (.str (⟨#[]⟩ : BA)), (.int .i64 (0 : Int))]) (H_F_nodeW _ _ _ _ _ hx) [2, 1, 3] [2, 1, 3] rfl rfl rfl rfl rfl rfl rfl rfl rfl) (zq (jd _) (zq (jd _) (zq (jd _) (zq (jd _) yv)))) (zi (y9 (qy (jx rfl) wb) (ya _))))) ?_
  refine kr [] ?_
  cases h
  exact zj env rfl rfl (Qs (viewT_tup (w5 (Z9 (ud qp rfl) (by simp)) (w5 (Z9 (yx rfl) (by simp)) Ym))))
def F_L8_sum (a0 : BA) : Option Node :=
 some (Node.mk (24 : Int) a0 ([] : LB) ([(Node.mk (17 : Int) (⟨#[49]⟩ : BA) ([] : LB) ([] : LN)), (Node.mk (17 : Int) (⟨#[50]⟩ : BA) ([] : LB) ([] : LN))]))
@[reducible] def M_F_L8_sum (a0 : BA) (r : Node) : Prop :=
  Fn Tryd.prog G 19 [(.str a0)] (.agg (zk r))
theorem H_F_L8_sum : PC1 M_F_L8_sum F_L8_sum := fun a0 r h => by
 rw [F_L8_sum.eq_def] at h
 refine zh (T := tt) (N := 8) (rs := [.cell 2 25]) (fun vs w => by simp) Tryd.func19 rfl rfl rfl rfl (by kernel_rfl) (z6 rfl) (zn _ rfl) ?_
 refine kr [] ?_
 cases h
 exact zj env rfl rfl (Qs (viewT_one (view_agg (yh (yx rfl) (yh (vi rfl) (yh (Ja (.inr rfl)) (yh (view1_slL (.inl rfl) (show Z6 _ (List.map Node.cells [(Node.mk (17 : Int) (⟨#[49]⟩ : BA) ([] : LB) ([] : LN)), (Node.mk (17 : Int) (⟨#[50]⟩ : BA) ([] : LB) ([] : LN))]) from (by simp only [List.map_cons, List.map_nil, Node.cells_eq]; exact (Yl (yw (Qq _) (yw (Qq _) (yw (wk0_sl (.inr rfl)) (yw (wk0_sl (.inr rfl)) wk0L_nil)))) (Yl (yw (Qq _) (yw (Qq _) (yw (wk0_sl (.inr rfl)) (yw (wk0_sl (.inr rfl)) wk0L_nil)))) wk0LL_nil))))) viewL_nil))))) (by simp)))
def F_L8_sums1 (s : BA) : Option Node := some (sumN s)
theorem H_F_L8_sums1 (s : BA) (r : Node) (h : F_L8_sums1 s = some r) : AC Tryd.prog G 19 [.str s] 1 [(0, .row 25 [])] (.agg [.int .i64 r.kind, .str r.text, .sl 1 false (r.gaps.map sc), .bs 4 0 1 0 r.kids.length]) 2 [(1, .row 25 (r.kids.map Node.cells).flatten)] := by
 cases h; exact AC_sum s
def F_L8_awake  : Option Bool :=
 F_L8_sum (⟨#[43]⟩ : BA) >>= fun x1 =>
 F_print_Words (Node.mk x1.kind x1.text ([(⟨#[]⟩ : BA)]) x1.kids) >>= fun x2 =>
 F_print_Text (Node.mk x1.kind x1.text ([(⟨#[]⟩ : BA)]) x1.kids) >>= fun x3 =>
 F_print_Plain (Node.mk x1.kind x1.text ([(⟨#[]⟩ : BA)]) x1.kids) >>= fun x4 =>
 F_print_Text (Node.mk (12 : Int) (⟨#[]⟩) ([] : LB) ([(Node.mk (17 : Int) (⟨#[49]⟩ : BA) ([(⟨#[]⟩ : BA)]) ([] : LN))])) >>= fun x5 =>
 F_L8_sum (⟨#[63]⟩ : BA) >>= fun x6 =>
 F_print_Text x6 >>= fun x7 =>
 F_print_Layout (Node.mk x1.kind x1.text ([(⟨#[]⟩ : BA)]) x1.kids) >>= fun x8 =>
 F_L8_sums1 (⟨#[47]⟩ : BA) >>= fun x9 =>
 ix x9.kids (1 : Int) >>= fun x10 =>
 F_print_Text (Node.mk x9.kind x9.text x9.gaps (x9.kids.set (1 : Int).toNat (Node.mk x10.kind x10.text ([(⟨#[47, 47, 32, 99, 10]⟩ : BA)]) x10.kids))) >>= fun x11 =>
 if (decide (x2.2 = (0 : Int))) = true then
  if (decide (((x2.1.map sc).length : Int) = (3 : Int))) = true then
   ix x2.1 (1 : Int) >>= fun x12 =>
   if (decide (x12 = (⟨#[43]⟩ : BA))) = true then
    if (decide (x3.2 = (0 : Int))) = true then
     if (decide (x3.1 = (⟨#[49, 43, 32, 50]⟩ : BA))) = true then
      if (decide (x4.2 = (0 : Int))) = true then
       if (decide (x4.1 = (⟨#[49, 32, 43, 32, 50]⟩ : BA))) = true then
        if (decide (x5.2 = (0 : Int))) = true then
         if (decide (x5.1 = (⟨#[114, 101, 116, 117, 114, 110, 32, 49, 59]⟩ : BA))) = true then
          if (decide (x7.2 = (7 : Int))) = true then
           if (decide (x8.2 = (0 : Int))) = true then
            if (decide (((x8.1.gaps.map sc).length : Int) = (1 : Int))) = true then
             ix x8.1.gaps (0 : Int) >>= fun x13 =>
             if (decide (x13 = (⟨#[32]⟩ : BA))) = true then
              if (decide (x11.2 = (0 : Int))) = true then
               some (decide (x11.1 = (⟨#[49, 32, 47, 32, 47, 47, 32, 99, 10, 50]⟩ : BA)))
              else
               some false
             else
              some false
            else
             some false
           else
            some false
          else
           some false
         else
          some false
        else
         some false
       else
        some false
      else
       some false
     else
      some false
    else
     some false
   else
    some false
  else
   some false
 else
  some false
@[reducible] def M_F_L8_awake  (r : Bool) : Prop :=
  Fn Tryd.prog G 7 [] (.bool r)
theorem H_F_L8_awake : PC0 M_F_L8_awake F_L8_awake := fun  r h => by
 rw [F_L8_awake.eq_def] at h
 refine zh (T := tt) (N := 130) (rs := [.tmp 0]) (fun vs w => by simp) Tryd.func7 rfl rfl rfl rfl (by kernel_rfl) (z6 rfl) (zn _ rfl) ?_
 refine kr [2000010] ?_
 obtain ⟨x1, hx, h⟩ := bind_some h
 refine ql (H_F_L8_sum _ _ hx) ?_
 refine kr [2000010] ?_
 obtain ⟨x2, hx, h⟩ := bind_some h
 refine ql (Fn.wk (H_F_print_Words _ _ hx) (Qp (wk_agg (jm (jn _) (jm (jn _) (jm (Yk (.inl rfl)) (jm (jn _) J4))))) Z4)) ?_
 refine kr [2000010] ?_
 obtain ⟨x3, hx, h⟩ := bind_some h
 refine ql (Fn.wk (H_F_print_Text _ _ hx) (Qp (wk_agg (jm (jn _) (jm (jn _) (jm (Yk (.inl rfl)) (jm (jn _) J4))))) Z4)) ?_
 refine kr [2000010] ?_
 obtain ⟨x4, hx, h⟩ := bind_some h
 refine ql (Fn.wk (H_F_print_Plain _ _ hx) (Qp (wk_agg (jm (jn _) (jm (jn _) (jm (Yk (.inl rfl)) (jm (jn _) J4))))) Z4)) ?_
 refine kr [2000010] ?_
 obtain ⟨x5, hx, h⟩ := bind_some h
 refine ql (Fn.wk (H_F_print_Text _ _ hx) (Qp (wk_agg (jm (jn _) (jm (jn _) (jm (Yk (.inr rfl)) (jm (wk_slL (.inl rfl) (show Z6 _ (List.map Node.cells [(Node.mk (17 : Int) (⟨#[49]⟩ : BA) ([(⟨#[]⟩ : BA)]) ([] : LN))]) from (by simp only [List.map_cons, List.map_nil, Node.cells_eq]; exact (Yl (yw (Qq _) (yw (Qq _) (yw (wk0_sl (.inl rfl)) (yw (wk0_sl (.inr rfl)) wk0L_nil)))) wk0LL_nil)))) J4))))) Z4)) ?_
 refine kr [2000010] ?_
 obtain ⟨x6, hx, h⟩ := bind_some h
 refine ql (H_F_L8_sum _ _ hx) ?_
 refine kr [2000010] ?_
 obtain ⟨x7, hx, h⟩ := bind_some h
 refine ql (H_F_print_Text _ _ hx) ?_
 refine kr [2000010] ?_
 obtain ⟨x8, hx, h⟩ := bind_some h
 refine ql (Fn.wk (H_F_print_Layout _ _ hx) (Qp (wk_agg (jm (jn _) (jm (jn _) (jm (Yk (.inl rfl)) (jm (jn _) J4))))) Z4)) ?_
 refine kr [2000010] ?_
 obtain ⟨x9, hx, h⟩ := bind_some h
 refine qb (ACalls.ghost (e := 25) (AC.g9 (H_F_L8_sums1 _ _ hx) [2] [2])) ?_
 refine kr [2000010] ?_
 obtain ⟨x10, hx, h⟩ := bind_some h
 have he_x10 := hx
 refine Ok_ixB env rfl rfl rfl rfl (ix_nn hx) (ix_lt hx) ?_
 refine kr [2000010] ?_
 refine Ok_storeBR (fo := 2) he_x10 qj rfl rfl rfl rfl rfl rfl ?_
 refine kr [2000010] ?_
 refine Ok_rowW 2 3 25 (cs' := ((x9.kids.set (1 : Int).toNat (Node.mk x10.kind x10.text ([(⟨#[47, 47, 32, 99, 10]⟩ : BA)]) x10.kids)).map Node.cells).flatten) rfl rfl (wkL_setR (by rw [Node.cells_eq, Node.cells_eq]; exact (jm (jn _) (jm (jn _) (jm (Yk (.inl rfl)) (jm (jn _) J4)))))) ?_
 refine Ok_viewFB (l := (x9.kids.set (1 : Int).toNat (Node.mk x10.kind x10.text ([(⟨#[47, 47, 32, 99, 10]⟩ : BA)]) x10.kids))) 3 3 2 qj rfl rfl (by simp only [List.length_set]; rfl) rfl rfl rfl ?_
 refine Ok_bar_on ?_
 refine kr [2000010] ?_
 obtain ⟨x11, hx, h⟩ := bind_some h
 refine ql (H_F_print_Text _ _ hx) ?_
 refine kr [2000010] ?_
 refine qm (fun hb => ?_) (fun hb => ?_)
 ·replace h := qv hb h
  refine kr [2000010] ?_
  refine qm (fun hb => ?_) (fun hb => ?_)
  ·replace h := qv hb h
   refine kr [2000010] ?_
   obtain ⟨x12, hx, h⟩ := bind_some h
   refine yt env hx rfl rfl rfl rfl rfl ?_
   refine kr [2000010] ?_
   refine qm (fun hb => ?_) (fun hb => ?_)
   ·replace h := qv hb h
    refine kr [2000010] ?_
    refine qm (fun hb => ?_) (fun hb => ?_)
    ·replace h := qv hb h
     refine kr [2000010] ?_
     refine qm (fun hb => ?_) (fun hb => ?_)
     ·replace h := qv hb h
      refine kr [2000010] ?_
      refine qm (fun hb => ?_) (fun hb => ?_)
      ·replace h := qv hb h
       refine kr [2000010] ?_
       refine qm (fun hb => ?_) (fun hb => ?_)
       ·replace h := qv hb h
        refine kr [2000010] ?_
        refine qm (fun hb => ?_) (fun hb => ?_)
        ·replace h := qv hb h
         refine kr [2000010] ?_
         refine qm (fun hb => ?_) (fun hb => ?_)
         ·replace h := qv hb h
          refine kr [2000010] ?_
          refine qm (fun hb => ?_) (fun hb => ?_)
          ·replace h := qv hb h
           refine kr [2000010] ?_
           refine qm (fun hb => ?_) (fun hb => ?_)
           ·replace h := qv hb h
            refine kr [2000010] ?_
            refine qm (fun hb => ?_) (fun hb => ?_)
            ·replace h := qv hb h
             refine kr [2000010] ?_
             obtain ⟨x13, hx, h⟩ := bind_some h
             refine yt env hx rfl rfl rfl rfl rfl ?_
             refine kr [2000010] ?_
             refine qm (fun hb => ?_) (fun hb => ?_)
             ·replace h := qv hb h
              refine kr [2000010] ?_
              refine qm (fun hb => ?_) (fun hb => ?_)
              ·replace h := qv hb h
               refine kr [2000010] ?_
               cases h
               exact kf
              ·replace h := qw hb h
               refine kr [2000010] ?_
               cases h
               exact kf
             ·replace h := qw hb h
              refine kr [2000010] ?_
              cases h
              exact kf
            ·replace h := qw hb h
             refine kr [2000010] ?_
             cases h
             exact kf
           ·replace h := qw hb h
            refine kr [2000010] ?_
            cases h
            exact kf
          ·replace h := qw hb h
           refine kr [2000010] ?_
           cases h
           exact kf
         ·replace h := qw hb h
          refine kr [2000010] ?_
          cases h
          exact kf
        ·replace h := qw hb h
         refine kr [2000010] ?_
         cases h
         exact kf
       ·replace h := qw hb h
        refine kr [2000010] ?_
        cases h
        exact kf
      ·replace h := qw hb h
       refine kr [2000010] ?_
       cases h
       exact kf
     ·replace h := qw hb h
      refine kr [2000010] ?_
      cases h
      exact kf
    ·replace h := qw hb h
     refine kr [2000010] ?_
     cases h
     exact kf
   ·replace h := qw hb h
    refine kr [2000010] ?_
    cases h
    exact kf
  ·replace h := qw hb h
   refine kr [2000010] ?_
   cases h
   exact kf
 ·replace h := qw hb h
  refine kr [2000010] ?_
  cases h
  exact kf
mutual
def F_R6_Same (a0 : Node) (a1 : Node) : Option Bool :=
 if (!decide (a0.kind = a1.kind)) = true then
  some false
 else
  if (!decide (a0.text = a1.text)) = true then
   some false
  else
   if (!decide (((a0.kids.map Node.cells).length : Int) = ((a1.kids.map Node.cells).length : Int))) = true then
    some false
   else
    F_R6_Same_l0 (0 : Int) (qa a0) (qa a1)
 partial_fixpoint
def F_R6_Same_l0 (t5 : Int) (o0 : Node) (o1 : Node) : Option Bool :=
 if (decide (t5 < ((o0.kids.map Node.cells).length : Int))) = true then
  ix o0.kids t5 >>= fun x1 =>
  ix o1.kids t5 >>= fun x2 =>
  F_R6_Same (qa x1) (qa x2) >>= fun x3 =>
  if (!x3) = true then
   some false
  else
   F_R6_Same_l0 (IntKind.i64.wrap (t5 + (1 : Int))) (qa o0) (qa o1)
 else
  some true
 partial_fixpoint
end
@[reducible] def M_F_R6_Same (a0 : Node) (a1 : Node) (r : Bool) : Prop :=
  Fn Tryd.prog G 9 [(.agg (zk a0)), (.agg (zk a1))] (.bool r)
@[reducible] def M_F_R6_Same_l0 (t5 : Int) (o0 : Node) (o1 : Node) (r : Bool) : Prop :=
  Ok Tryd.prog G tt 46 0 (Ret Tryd.prog [.tmp 4] (fun y H => Told Tryd.prog G H y (.bool r))) (.again (ja [] Tryd.f9 0).1 (ja [] Tryd.f9 0).2 (.n .undef (.n .undef (.n (.ptr 1 1 0) .z .z) (.n (.int .i64 t5) .z .z)) (.n (.ptr 0 0 0) .z .z)) 2 [(0, .var 25 (zk o0)), (1, .var 25 (zk o1))])
theorem ALL_F_R6_Same : PC2 M_F_R6_Same F_R6_Same ∧ PC3 M_F_R6_Same_l0 F_R6_Same_l0 := by
 refine F_R6_Same.mutual_partial_correctness M_F_R6_Same M_F_R6_Same_l0 (fun F_R6_Same_l0 H_F_R6_Same_l0 a0 a1 r h => ?_) (fun F_R6_Same F_R6_Same_l0 H_F_R6_Same H_F_R6_Same_l0 t5 o0 o1 r h => ?_)
 ·unfold qa at h
  refine zh (T := tt) (N := 46) (rs := [.tmp 4]) (fun vs w => by simp) Tryd.func9 rfl rfl rfl rfl (by kernel_rfl) (z6 rfl) (zn _ rfl) ?_
  refine kr [] ?_
  refine qr (fun hb => ?_) (fun hb => ?_)
  ·replace h := qw hb h
   refine kr [] ?_
   refine qr (fun hb => ?_) (fun hb => ?_)
   ·replace h := qw hb h
    refine kr [] ?_
    refine qg (fun hb => ?_) (fun hb => ?_)
    ·replace h := qv hb h
     refine kr [] ?_
     cases h
     exact kf
    ·replace h := qw hb h
     refine kr [] ?_
     exact z7 (by kernel_rfl) lA (H_F_R6_Same_l0 _ _ _ _ h)
   ·replace h := qv hb h
    refine kr [] ?_
    cases h
    exact kf
  ·replace h := qv hb h
   refine kr [] ?_
   cases h
   exact kf
 ·unfold qa at h
  refine ji ?_
  refine kr [] ?_
  refine qg (fun hb => ?_) (fun hb => ?_)
  ·replace h := qv hb h
   refine kr [] ?_
   obtain ⟨x1, hx, h⟩ := bind_some h
   refine yt env hx rfl rfl rfl rfl (Node.cells_eq x1) ?_
   refine kr [] ?_
   obtain ⟨x2, hx, h⟩ := bind_some h
   refine yt env hx rfl rfl rfl rfl (Node.cells_eq x2) ?_
   refine kr [] ?_
   obtain ⟨x3, hx, h⟩ := bind_some h
   refine ql (H_F_R6_Same _ _ _ hx) ?_
   refine kr [] ?_
   refine qg (fun hb => ?_) (fun hb => ?_)
   ·replace h := qv hb h
    refine kr [] ?_
    cases h
    exact kf
   ·replace h := qw hb h
    refine kr [] ?_
    exact zx (by kernel_rfl) lA (H_F_R6_Same_l0 _ _ _ _ h)
  ·replace h := qw hb h
   refine kr [] ?_
   cases h
   exact kf
theorem H_F_R6_Same : PC2 M_F_R6_Same F_R6_Same := ALL_F_R6_Same.1
theorem H_F_R6_Same_l0 : PC3 M_F_R6_Same_l0 F_R6_Same_l0 := ALL_F_R6_Same.2
def F_R3_Strings_l0 (t0 : LB) (t1 : LB) (t5 : Int) : Option Bool :=
 if (decide (t5 < ((t0.map sc).length : Int))) = true then
  ix t0 t5 >>= fun x1 =>
  ix t1 t5 >>= fun x2 =>
  if (!decide (x1 = x2)) = true then
   some false
  else
   F_R3_Strings_l0 (qa t0) (qa t1) (IntKind.i64.wrap (t5 + (1 : Int)))
 else
  some true
 partial_fixpoint
@[reducible] def M_F_R3_Strings_l0 (t0 : LB) (t1 : LB) (t5 : Int) (r : Bool) : Prop :=
  Ok Tryd.prog G tt 26 0 (Ret Tryd.prog [.tmp 4] (fun y H => Told Tryd.prog G H y (.bool r))) (.again (ja [] Tryd.f31 0).1 (ja [] Tryd.f31 0).2 (.n (.sl 1 false (t0.map sc)) (.n (.sl 1 false (t1.map sc)) .z (.n (.int .i64 t5) .z .z)) .z) 0 [])
theorem H_F_R3_Strings_l0 : PC3 M_F_R3_Strings_l0 F_R3_Strings_l0 := by
 refine F_R3_Strings_l0.partial_correctness M_F_R3_Strings_l0 (fun F_R3_Strings_l0 H_F_R3_Strings_l0 t0 t1 t5 r h => ?_)
 ·unfold qa at h
  refine ji ?_
  refine kr [] ?_
  refine qg (fun hb => ?_) (fun hb => ?_)
  ·replace h := qv hb h
   refine kr [] ?_
   obtain ⟨x1, hx, h⟩ := bind_some h
   refine yt env hx rfl rfl rfl rfl rfl ?_
   refine kr [] ?_
   obtain ⟨x2, hx, h⟩ := bind_some h
   refine yt env hx rfl rfl rfl rfl rfl ?_
   refine kr [] ?_
   refine qg (fun hb => ?_) (fun hb => ?_)
   ·replace h := qv hb h
    refine kr [] ?_
    cases h
    exact kf
   ·replace h := qw hb h
    refine kr [] ?_
    exact zx (by kernel_rfl) lA (H_F_R3_Strings_l0 _ _ _ _ h)
  ·replace h := qw hb h
   refine kr [] ?_
   cases h
   exact kf
def F_R3_Strings (a0 : LB) (a1 : LB) : Option Bool :=
 if (!decide (((a0.map sc).length : Int) = ((a1.map sc).length : Int))) = true then
  some false
 else
  F_R3_Strings_l0 a0 a1 (0 : Int)
@[reducible] def M_F_R3_Strings (a0 : LB) (a1 : LB) (r : Bool) : Prop :=
  Fn Tryd.prog G 31 [(.sl 1 false (a0.map sc)), (.sl 1 false (a1.map sc))] (.bool r)
theorem H_F_R3_Strings : PC2 M_F_R3_Strings F_R3_Strings := fun a0 a1 r h => by
 rw [F_R3_Strings.eq_def] at h
 refine zh (T := tt) (N := 26) (rs := [.tmp 4]) (fun vs w => by simp) Tryd.func31 rfl rfl rfl rfl (by kernel_rfl) (z6 rfl) (zn _ rfl) ?_
 refine kr [] ?_
 refine qg (fun hb => ?_) (fun hb => ?_)
 ·replace h := qv hb h
  refine kr [] ?_
  cases h
  exact kf
 ·replace h := qw hb h
  refine kr [] ?_
  exact z7 (by kernel_rfl) lA (H_F_R3_Strings_l0 _ _ _ _ h)
mutual
def F_R6_Equal (a0 : Node) (a1 : Node) : Option Bool :=
 if (!decide (a0.kind = a1.kind)) = true then
  some false
 else
  if (!decide (a0.text = a1.text)) = true then
   some false
  else
   F_R3_Strings a0.gaps a1.gaps >>= fun x1 =>
   if (!x1) = true then
    some false
   else
    if (!decide (((a0.kids.map Node.cells).length : Int) = ((a1.kids.map Node.cells).length : Int))) = true then
     some false
    else
     F_R6_Equal_l0 (0 : Int) (qa a0) (qa a1)
 partial_fixpoint
def F_R6_Equal_l0 (t5 : Int) (o0 : Node) (o1 : Node) : Option Bool :=
 if (decide (t5 < ((o0.kids.map Node.cells).length : Int))) = true then
  ix o0.kids t5 >>= fun x2 =>
  ix o1.kids t5 >>= fun x3 =>
  F_R6_Equal (qa x2) (qa x3) >>= fun x4 =>
  if (!x4) = true then
   some false
  else
   F_R6_Equal_l0 (IntKind.i64.wrap (t5 + (1 : Int))) (qa o0) (qa o1)
 else
  some true
 partial_fixpoint
end
@[reducible] def M_F_R6_Equal (a0 : Node) (a1 : Node) (r : Bool) : Prop :=
  Fn Tryd.prog G 12 [(.agg (zk a0)), (.agg (zk a1))] (.bool r)
@[reducible] def M_F_R6_Equal_l0 (t5 : Int) (o0 : Node) (o1 : Node) (r : Bool) : Prop :=
  Ok Tryd.prog G tt 54 0 (Ret Tryd.prog [.tmp 4] (fun y H => Told Tryd.prog G H y (.bool r))) (.again (ja [] Tryd.f12 0).1 (ja [] Tryd.f12 0).2 (.n .undef (.n .undef (.n (.ptr 1 1 0) .z .z) (.n (.int .i64 t5) .z .z)) (.n (.ptr 0 0 0) .z .z)) 2 [(0, .var 25 (zk o0)), (1, .var 25 (zk o1))])
theorem ALL_F_R6_Equal : PC2 M_F_R6_Equal F_R6_Equal ∧ PC3 M_F_R6_Equal_l0 F_R6_Equal_l0 := by
 refine F_R6_Equal.mutual_partial_correctness M_F_R6_Equal M_F_R6_Equal_l0 (fun F_R6_Equal_l0 H_F_R6_Equal_l0 a0 a1 r h => ?_) (fun F_R6_Equal F_R6_Equal_l0 H_F_R6_Equal H_F_R6_Equal_l0 t5 o0 o1 r h => ?_)
 ·unfold qa at h
  refine zh (T := tt) (N := 54) (rs := [.tmp 4]) (fun vs w => by simp) Tryd.func12 rfl rfl rfl rfl (by kernel_rfl) (z6 rfl) (zn _ rfl) ?_
  refine kr [] ?_
  refine qr (fun hb => ?_) (fun hb => ?_)
  ·replace h := qw hb h
   refine kr [] ?_
   refine qr (fun hb => ?_) (fun hb => ?_)
   ·replace h := qw hb h
    refine kr [] ?_
    obtain ⟨x1, hx, h⟩ := bind_some h
    refine ql (H_F_R3_Strings _ _ _ hx) ?_
    refine kr [] ?_
    refine qr (fun hb => ?_) (fun hb => ?_)
    ·replace h := qw hb h
     refine kr [] ?_
     refine qg (fun hb => ?_) (fun hb => ?_)
     ·replace h := qv hb h
      refine kr [] ?_
      cases h
      exact kf
     ·replace h := qw hb h
      refine kr [] ?_
      exact z7 (by kernel_rfl) lA (H_F_R6_Equal_l0 _ _ _ _ h)
    ·replace h := qv hb h
     refine kr [] ?_
     cases h
     exact kf
   ·replace h := qv hb h
    refine kr [] ?_
    cases h
    exact kf
  ·replace h := qv hb h
   refine kr [] ?_
   cases h
   exact kf
 ·unfold qa at h
  refine ji ?_
  refine kr [] ?_
  refine qg (fun hb => ?_) (fun hb => ?_)
  ·replace h := qv hb h
   refine kr [] ?_
   obtain ⟨x2, hx, h⟩ := bind_some h
   refine yt env hx rfl rfl rfl rfl (Node.cells_eq x2) ?_
   refine kr [] ?_
   obtain ⟨x3, hx, h⟩ := bind_some h
   refine yt env hx rfl rfl rfl rfl (Node.cells_eq x3) ?_
   refine kr [] ?_
   obtain ⟨x4, hx, h⟩ := bind_some h
   refine ql (H_F_R6_Equal _ _ _ hx) ?_
   refine kr [] ?_
   refine qg (fun hb => ?_) (fun hb => ?_)
   ·replace h := qv hb h
    refine kr [] ?_
    cases h
    exact kf
   ·replace h := qw hb h
    refine kr [] ?_
    exact zx (by kernel_rfl) lA (H_F_R6_Equal_l0 _ _ _ _ h)
  ·replace h := qw hb h
   refine kr [] ?_
   cases h
   exact kf
theorem H_F_R6_Equal : PC2 M_F_R6_Equal F_R6_Equal := ALL_F_R6_Equal.1
theorem H_F_R6_Equal_l0 : PC3 M_F_R6_Equal_l0 F_R6_Equal_l0 := ALL_F_R6_Equal.2
def F_L8_PrintLayout (a0 : Node) : Option Bool :=
 F_L8_small a0 >>= fun x1 =>
 if (!x1) = true then
  F_L8_awake >>= fun x12 =>
  some x12
 else
  F_R7_Check a0 >>= fun x2 =>
  if (!decide (x2 = (0 : Int))) = true then
   F_L8_awake >>= fun x3 =>
   some x3
  else
   F_print_Layout a0 >>= fun x4 =>
   if (!decide (x4.2 = (0 : Int))) = true then
    some false
   else
    F_R6_Same x4.1 a0 >>= fun x5 =>
    if (!x5) = true then
     some false
    else
     F_R7_Check x4.1 >>= fun x6 =>
     if (!decide (x6 = (0 : Int))) = true then
      some false
     else
      F_print_Layout x4.1 >>= fun x7 =>
      F_print_Text x4.1 >>= fun x8 =>
      F_print_Plain a0 >>= fun x9 =>
      if (decide (x7.2 = (0 : Int))) = true then
       F_R6_Equal x4.1 x7.1 >>= fun x10 =>
       if x10 = true then
        if (decide (x8.2 = x9.2)) = true then
         if (decide (x8.1 = x9.1)) = true then
          F_L8_awake >>= fun x11 =>
          some x11
         else
          some false
        else
         some false
       else
        some false
      else
       some false
@[reducible] def M_F_L8_PrintLayout (a0 : Node) (r : Bool) : Prop :=
  Fn Tryd.prog G 3 [(.agg (zk a0))] (.bool r)
theorem H_F_L8_PrintLayout : PC1 M_F_L8_PrintLayout F_L8_PrintLayout := fun a0 r h => by
 rw [F_L8_PrintLayout.eq_def] at h
 refine zh (T := tt) (N := 73) (rs := [.tmp 2]) (fun vs w => by simp) Tryd.func3 rfl rfl rfl rfl (by kernel_rfl) (z6 rfl) (zn _ rfl) ?_
 refine kr [] ?_
 obtain ⟨x1, hx, h⟩ := bind_some h
 refine ql (H_F_L8_small _ _ hx) ?_
 refine kr [] ?_
 refine qr (fun hb => ?_) (fun hb => ?_)
 ·replace h := qw hb h
  refine kr [] ?_
  obtain ⟨x2, hx, h⟩ := bind_some h
  refine ql (H_F_R7_Check _ _ hx) ?_
  refine kr [] ?_
  refine qg (fun hb => ?_) (fun hb => ?_)
  ·replace h := qv hb h
   refine kr [] ?_
   obtain ⟨x3, hx, h⟩ := bind_some h
   refine ql (H_F_L8_awake _ hx) ?_
   refine kr [] ?_
   cases h
   exact kf
  ·replace h := qw hb h
   refine kr [] ?_
   obtain ⟨x4, hx, h⟩ := bind_some h
   refine ql (H_F_print_Layout _ _ hx) ?_
   refine kr [] ?_
   refine qr (fun hb => ?_) (fun hb => ?_)
   ·replace h := qw hb h
    refine kr [] ?_
    obtain ⟨x5, hx, h⟩ := bind_some h
    refine ql (H_F_R6_Same _ _ _ hx) ?_
    refine kr [] ?_
    refine qr (fun hb => ?_) (fun hb => ?_)
    ·replace h := qw hb h
     refine kr [] ?_
     obtain ⟨x6, hx, h⟩ := bind_some h
     refine ql (H_F_R7_Check _ _ hx) ?_
     refine kr [] ?_
     refine qg (fun hb => ?_) (fun hb => ?_)
     ·replace h := qv hb h
      refine kr [] ?_
      cases h
      exact kf
     ·replace h := qw hb h
      refine kr [] ?_
      obtain ⟨x7, hx, h⟩ := bind_some h
      refine ql (H_F_print_Layout _ _ hx) ?_
      refine kr [] ?_
      obtain ⟨x8, hx, h⟩ := bind_some h
      refine ql (H_F_print_Text _ _ hx) ?_
      refine kr [] ?_
      obtain ⟨x9, hx, h⟩ := bind_some h
      refine ql (H_F_print_Plain _ _ hx) ?_
      refine kr [] ?_
      refine qm (fun hb => ?_) (fun hb => ?_)
      ·replace h := qv hb h
       refine kr [] ?_
       obtain ⟨x10, hx, h⟩ := bind_some h
       refine ql (H_F_R6_Equal _ _ _ hx) ?_
       refine kr [] ?_
       refine qm (fun hb => ?_) (fun hb => ?_)
       ·replace h := qv hb h
        refine kr [] ?_
        refine qm (fun hb => ?_) (fun hb => ?_)
        ·replace h := qv hb h
         refine kr [] ?_
         refine qm (fun hb => ?_) (fun hb => ?_)
         ·replace h := qv hb h
          refine kr [] ?_
          obtain ⟨x11, hx, h⟩ := bind_some h
          refine ql (H_F_L8_awake _ hx) ?_
          refine kr [] ?_
          cases h
          exact kf
         ·replace h := qw hb h
          refine kr [] ?_
          cases h
          exact kf
        ·replace h := qw hb h
         refine kr [] ?_
         cases h
         exact kf
       ·replace h := qw hb h
        refine kr [] ?_
        cases h
        exact kf
      ·replace h := qw hb h
       refine kr [] ?_
       cases h
       exact kf
    ·replace h := qv hb h
     refine kr [] ?_
     cases h
     exact kf
   ·replace h := qv hb h
    refine kr [] ?_
    cases h
    exact kf
 ·replace h := qv hb h
  refine kr [] ?_
  obtain ⟨x12, hx, h⟩ := bind_some h
  refine ql (H_F_L8_awake _ hx) ?_
  refine kr [] ?_
  cases h
  exact kf
mutual
def F_R6_lists2 (a0 : LN) (a1 : Node) : Option LN :=
 app 72 a0 ([a1]) >>= fun x2 =>
 F_R6_lists2_l0 (qa x2) (0 : Int) (qa a1)
 partial_fixpoint
def F_R6_lists2_l0 (t0 : LN) (t5 : Int) (o2 : Node) : Option LN :=
 if (decide (t5 < ((o2.kids.map Node.cells).length : Int))) = true then
  ix o2.kids t5 >>= fun x5 =>
  F_R6_lists2 (qa t0) (qa x5) >>= fun x6 =>
  F_R6_lists2_l0 (qa x6) (IntKind.i64.wrap (t5 + (1 : Int))) (qa o2)
 else
  some t0
 partial_fixpoint
end
@[reducible] def M_F_R6_lists2 (a0 : LN) (a1 : Node) (r : LN) : Prop :=
  AC Tryd.prog G 33 [(.bs 4 0 0 0 a0.length), (.agg (zk a1))] 2 [(0, .row 25 (a0.map Node.cells).flatten), (1, .row 25 [])] (.bs 4 1 2 0 r.length) 3 [(0, .row 25 []), (2, .row 25 (r.map Node.cells).flatten)]
@[reducible] def M_F_R6_lists2_l0 (t0 : LN) (t5 : Int) (o2 : Node) (r : LN) : Prop :=
  Ok Tryd.prog G tt 25 2 (Ret Tryd.prog [.tmp 4] (fun y H => j3 Tryd.prog G 2 H y (.bs 4 1 2 0 r.length) ⟨3, [(0, .row 25 []), (2, .row 25 (r.map Node.cells).flatten)]⟩)) (.again (ja [] Tryd.f33 0).1 (ja [] Tryd.f33 0).2 (.n (.bs 4 0 4 0 t0.length) (.n .undef (.n (.ptr 2 2 0) .z .z) (.n (.int .i64 t5) .z .z)) .z) 5 [(4, .row 25 (t0.map Node.cells).flatten), (1, .dead), (2, .var 25 (zk o2))])
theorem ALL_F_R6_lists2 : PC2 M_F_R6_lists2 F_R6_lists2 ∧ PC3 M_F_R6_lists2_l0 F_R6_lists2_l0 := by
 refine F_R6_lists2.mutual_partial_correctness M_F_R6_lists2 M_F_R6_lists2_l0 (fun F_R6_lists2_l0 H_F_R6_lists2_l0 a0 a1 r h => ?_) (fun F_R6_lists2 F_R6_lists2_l0 H_F_R6_lists2 H_F_R6_lists2_l0 t0 t5 o2 r h => ?_)
 ·unfold qa at h
  refine ⟨?_, (ze qj rfl (frOs_gh rfl zr)), (qn qj (clOs_gh zg)), (unOs_gh (zf qj zt)), (clOs_gh (qn qj zg)), rfl, rfl, rfl, rfl⟩
  refine zo (T := tt) (N := 25) (rs := [.tmp 4]) (fun vs w => by simp) Tryd.func33 rfl rfl rfl (by kernel_rfl) (by kernel_rfl) ?_
  refine kr [] ?_
  obtain ⟨x2, hx, h⟩ := bind_some h
  have hp_x2 := Zp hx (by simp)
  refine Qd (C := Node.cells) env hx rfl (show _ = AV.sl _ _ (List.map Node.cells [a1]) from (by simp only [List.map_cons, List.map_nil, Node.cells_eq]; rfl)) (by simp) Node.cells_len rfl rfl rfl rfl rfl (by decide) rfl rfl rfl ?_
  refine kr [] ?_
  exact z7 (by kernel_rfl) lQ (H_F_R6_lists2_l0 _ _ _ _ h)
 ·unfold qa at h
  refine ji ?_
  refine kr [] ?_
  refine qg (fun hb => ?_) (fun hb => ?_)
  ·replace h := qv hb h
   refine kr [] ?_
   obtain ⟨x5, hx, h⟩ := bind_some h
   refine yt env hx rfl rfl rfl rfl (Node.cells_eq x5) ?_
   refine kr [] ?_
   obtain ⟨x6, hx, h⟩ := bind_some h
   refine qb (ACalls.ghost (e := 25) (AC.g9 (H_F_R6_lists2 _ _ _ hx) [0, 3] [4, 5])) ?_
   refine kr [] ?_
   exact zx (by kernel_rfl) (less_selR [some 3, none, some 2] rfl rfl rfl (by simp <;> (repeat' apply And.intro) <;> first | rfl | exact fun x a _ h => (qj.all a x h).2) (selOs2_row qj rfl rfl (selOs2_no rfl (selOs2_var rfl rfl (w7 rfl rfl (w7 rfl rfl (w7 rfl rfl (w7 rfl rfl leC2_nil)))) selOs2_nil)))) (H_F_R6_lists2_l0 _ _ _ _ h)
  ·replace h := qw hb h
   refine kr [] ?_
   cases h
   exact vh env rfl rfl (tS [none, some 0] (selOs_no rfl rfl (sR qj qt)) (vp (u5 (res1_own rfl rfl rfl) (by simp)) (by simp)))
theorem H_F_R6_lists2 : PC2 M_F_R6_lists2 F_R6_lists2 := ALL_F_R6_lists2.1
theorem H_F_R6_lists2_l0 : PC3 M_F_R6_lists2_l0 F_R6_lists2_l0 := ALL_F_R6_lists2.2
def F_R6_lists1_l0 (t0 : LN) (t5 : Int) (o1 : Node) : Option LN :=
 if (decide (t5 < ((o1.kids.map Node.cells).length : Int))) = true then
  ix o1.kids t5 >>= fun x3 =>
  F_R6_lists2 (qa t0) (qa x3) >>= fun x4 =>
  F_R6_lists1_l0 (qa x4) (IntKind.i64.wrap (t5 + (1 : Int))) (qa o1)
 else
  some t0
 partial_fixpoint
@[reducible] def M_F_R6_lists1_l0 (t0 : LN) (t5 : Int) (o1 : Node) (r : LN) : Prop :=
  Ok Tryd.prog G tt 25 1 (Ret Tryd.prog [.tmp 4] (fun y H => j3 Tryd.prog G 1 H y (.sl 4 false (r.map Node.cells)) ⟨1, [(0, .row 25 [])]⟩)) (.again (ja [] Tryd.f33 0).1 (ja [] Tryd.f33 0).2 (.n (.bs 4 0 3 0 t0.length) (.n .undef (.n (.ptr 1 1 0) .z .z) (.n (.int .i64 t5) .z .z)) .z) 4 [(3, .row 25 (t0.map Node.cells).flatten), (1, .var 25 (zk o1))])
theorem H_F_R6_lists1_l0 : PC3 M_F_R6_lists1_l0 F_R6_lists1_l0 := by
 refine F_R6_lists1_l0.partial_correctness M_F_R6_lists1_l0 (fun F_R6_lists1_l0 H_F_R6_lists1_l0 t0 t5 o1 r h => ?_)
 ·unfold qa at h
  refine ji ?_
  refine kr [] ?_
  refine qg (fun hb => ?_) (fun hb => ?_)
  ·replace h := qv hb h
   refine kr [] ?_
   obtain ⟨x3, hx, h⟩ := bind_some h
   refine yt env hx rfl rfl rfl rfl (Node.cells_eq x3) ?_
   refine kr [] ?_
   obtain ⟨x4, hx, h⟩ := bind_some h
   refine qb (ACalls.ghost (e := 25) (AC.g9 (H_F_R6_lists2 _ _ _ hx) [0, 2] [3, 4])) ?_
   refine kr [] ?_
   exact zx (by kernel_rfl) (less_selR [some 2, some 1] rfl rfl rfl (by simp <;> (repeat' apply And.intro) <;> first | rfl | exact fun x a _ h => (qj.all a x h).2) (selOs2_row qj rfl rfl (selOs2_var rfl rfl (w7 rfl rfl (w7 rfl rfl (w7 rfl rfl (w7 rfl rfl leC2_nil)))) selOs2_nil))) (H_F_R6_lists1_l0 _ _ _ _ h)
  ·replace h := qw hb h
   refine kr [] ?_
   cases h
   exact vh env rfl rfl (tS [none] (selOs_no rfl rfl qt) (vp (u5 (jr (ud qj rfl) rfl) (by simp)) (by simp)))
def F_R6_lists1 (a0 : LN) (a1 : Node) : Option LN :=
 app 72 a0 ([a1]) >>= fun x1 =>
 F_R6_lists1_l0 x1 (0 : Int) a1
@[reducible] def M_F_R6_lists1 (a0 : LN) (a1 : Node) (r : LN) : Prop :=
  AC Tryd.prog G 33 [(.bs 4 0 0 0 a0.length), (.agg (zk a1))] 1 [(0, .row 25 (a0.map Node.cells).flatten)] (.sl 4 false (r.map Node.cells)) 1 [(0, .row 25 [])]
theorem H_F_R6_lists1 : PC2 M_F_R6_lists1 F_R6_lists1 := fun a0 a1 r h => by
 rw [F_R6_lists1.eq_def] at h
 refine ⟨?_, (ze qj rfl zr), (qn qj zg), (unOs_gh zt), (clOs_gh zg), rfl, rfl, rfl, rfl⟩
 refine zo (T := tt) (N := 25) (rs := [.tmp 4]) (fun vs w => by simp) Tryd.func33 rfl rfl rfl (by kernel_rfl) (by kernel_rfl) ?_
 refine kr [] ?_
 obtain ⟨x1, hx, h⟩ := bind_some h
 have hp_x1 := Zp hx (by simp)
 refine Qd (C := Node.cells) env hx rfl (show _ = AV.sl _ _ (List.map Node.cells [a1]) from (by simp only [List.map_cons, List.map_nil, Node.cells_eq]; rfl)) (by simp) Node.cells_len rfl rfl rfl rfl rfl (by decide) rfl rfl rfl ?_
 refine kr [] ?_
 exact z7 (by kernel_rfl) lQ (H_F_R6_lists1_l0 _ _ _ _ h)
def F_R6_List (a0 : Node) : Option LN :=
 F_R6_lists1 ([] : LN) a0 >>= fun x1 =>
 some x1
@[reducible] def M_F_R6_List (a0 : Node) (r : LN) : Prop :=
  Fn Tryd.prog G 14 [(.agg (zk a0))] (.sl 4 false (r.map Node.cells))
theorem H_F_R6_List : PC1 M_F_R6_List F_R6_List := fun a0 r h => by
 rw [F_R6_List.eq_def] at h
 refine zh (T := tt) (N := 7) (rs := [.tmp 2]) (fun vs w => by simp) Tryd.func14 rfl rfl rfl rfl (by kernel_rfl) (z6 rfl) (zn _ rfl) ?_
 refine kr [] ?_
 obtain ⟨x1, hx, h⟩ := bind_some h
 refine qb (ACalls.ghost (e := 25) (ACalls.wkg (AC.go (objs := [(0, .var 25 (zk a0)), (1, .row 25 (([] : LN).map Node.cells).flatten)]) (xs := [(.bs 4 1 1 0 ([] : LN).length), (.agg (zk a0))]) (H_F_R6_lists1 _ _ _ hx) [1] [1] rfl rfl rfl rfl rfl rfl rfl rfl rfl) (zq (jx rfl) (zq (jd _) yv)) (ya _))) ?_
 refine kr [] ?_
 cases h
 exact kf
def F_L8_PrintNumbers_l0 (t4 : Int) (t5 : LB) (t6 : Int) (t7 : LN) (t8 : Int) (t9 : Int) : Option Bool :=
 if (decide (t9 < ((t7.map Node.cells).length : Int))) = true then
  ix t7 t9 >>= fun x8 =>
  F_R7_Own (qa x8) >>= fun x9 =>
  ix t7 t9 >>= fun x10 =>
  if (!decide (((x10.gaps.map sc).length : Int) = x9)) = true then
   some false
  else
   F_L8_PrintNumbers_l0 (qa t4) (qa t5) (qa t6) (qa t7) (IntKind.i64.wrap (t8 + x9)) (IntKind.i64.wrap (t9 + (1 : Int)))
 else
  if (decide (t4 = (0 : Int))) = true then
   if (decide (t6 = (0 : Int))) = true then
    if (decide (((t5.map sc).length : Int) = t8)) = true then
     F_L8_awake >>= fun x11 =>
     some x11
    else
     some false
   else
    some false
  else
   some false
 partial_fixpoint
@[reducible] def M_F_L8_PrintNumbers_l0 (t4 : Int) (t5 : LB) (t6 : Int) (t7 : LN) (t8 : Int) (t9 : Int) (r : Bool) : Prop :=
  Ok Tryd.prog G tt 69 0 (Ret Tryd.prog [.tmp 2] (fun y H => Told Tryd.prog G H y (.bool r))) (.again (ja [] Tryd.f4 0).1 (ja [] Tryd.f4 0).2 (.n .undef (.n .undef (.n .undef (.n (.sl 4 false (t7.map Node.cells)) .z .z) .z) (.n (.sl 1 false (t5.map sc)) (.n (.int .i64 t9) .z .z) .z)) (.n .undef (.n (.int .i64 t4) (.n (.int .i64 t8) .z .z) .z) (.n (.int .i64 t6) .z .z))) 2 [])
theorem H_F_L8_PrintNumbers_l0 : PC6 M_F_L8_PrintNumbers_l0 F_L8_PrintNumbers_l0 := by
 refine F_L8_PrintNumbers_l0.partial_correctness M_F_L8_PrintNumbers_l0 (fun F_L8_PrintNumbers_l0 H_F_L8_PrintNumbers_l0 t4 t5 t6 t7 t8 t9 r h => ?_)
 ·unfold qa at h
  refine ji ?_
  refine kr [] ?_
  refine qg (fun hb => ?_) (fun hb => ?_)
  ·replace h := qv hb h
   refine kr [] ?_
   obtain ⟨x8, hx, h⟩ := bind_some h
   refine yt env hx rfl rfl rfl rfl (Node.cells_eq x8) ?_
   refine kr [] ?_
   obtain ⟨x9, hx, h⟩ := bind_some h
   refine ql (H_F_R7_Own _ _ hx) ?_
   refine kr [] ?_
   obtain ⟨x10, hx, h⟩ := bind_some h
   refine yt env hx rfl rfl rfl rfl (Node.cells_eq x10) ?_
   refine kr [] ?_
   refine qg (fun hb => ?_) (fun hb => ?_)
   ·replace h := qv hb h
    refine kr [] ?_
    cases h
    exact kf
   ·replace h := qw hb h
    refine kr [] ?_
    exact zx (by kernel_rfl) lA (H_F_L8_PrintNumbers_l0 _ _ _ _ _ _ _ h)
  ·replace h := qw hb h
   refine kr [] ?_
   refine qm (fun hb => ?_) (fun hb => ?_)
   ·replace h := qv hb h
    refine kr [] ?_
    refine qm (fun hb => ?_) (fun hb => ?_)
    ·replace h := qv hb h
     refine kr [] ?_
     refine qm (fun hb => ?_) (fun hb => ?_)
     ·replace h := qv hb h
      refine kr [] ?_
      obtain ⟨x11, hx, h⟩ := bind_some h
      refine ql (H_F_L8_awake _ hx) ?_
      refine kr [] ?_
      cases h
      exact kf
     ·replace h := qw hb h
      refine kr [] ?_
      cases h
      exact kf
    ·replace h := qw hb h
     refine kr [] ?_
     cases h
     exact kf
   ·replace h := qw hb h
    refine kr [] ?_
    cases h
    exact kf
def F_L8_PrintNumbers (a0 : Node) : Option Bool :=
 F_L8_small a0 >>= fun x1 =>
 if (!x1) = true then
  F_L8_awake >>= fun x7 =>
  some x7
 else
  F_R7_Check a0 >>= fun x2 =>
  if (!decide (x2 = (0 : Int))) = true then
   F_L8_awake >>= fun x3 =>
   some x3
  else
   F_print_Layout a0 >>= fun x4 =>
   F_print_Words a0 >>= fun x5 =>
   F_R6_List x4.1 >>= fun x6 =>
   F_L8_PrintNumbers_l0 x4.2 x5.1 x5.2 x6 (0 : Int) (0 : Int)
@[reducible] def M_F_L8_PrintNumbers (a0 : Node) (r : Bool) : Prop :=
  Fn Tryd.prog G 4 [(.agg (zk a0))] (.bool r)
theorem H_F_L8_PrintNumbers : PC1 M_F_L8_PrintNumbers F_L8_PrintNumbers := fun a0 r h => by
 rw [F_L8_PrintNumbers.eq_def] at h
 refine zh (T := tt) (N := 69) (rs := [.tmp 2]) (fun vs w => by simp) Tryd.func4 rfl rfl rfl rfl (by kernel_rfl) (z6 rfl) (zn _ rfl) ?_
 refine kr [] ?_
 obtain ⟨x1, hx, h⟩ := bind_some h
 refine ql (H_F_L8_small _ _ hx) ?_
 refine kr [] ?_
 refine qr (fun hb => ?_) (fun hb => ?_)
 ·replace h := qw hb h
  refine kr [] ?_
  obtain ⟨x2, hx, h⟩ := bind_some h
  refine ql (H_F_R7_Check _ _ hx) ?_
  refine kr [] ?_
  refine qg (fun hb => ?_) (fun hb => ?_)
  ·replace h := qv hb h
   refine kr [] ?_
   obtain ⟨x3, hx, h⟩ := bind_some h
   refine ql (H_F_L8_awake _ hx) ?_
   refine kr [] ?_
   cases h
   exact kf
  ·replace h := qw hb h
   refine kr [] ?_
   obtain ⟨x4, hx, h⟩ := bind_some h
   refine ql (H_F_print_Layout _ _ hx) ?_
   refine kr [] ?_
   obtain ⟨x5, hx, h⟩ := bind_some h
   refine ql (H_F_print_Words _ _ hx) ?_
   refine kr [] ?_
   obtain ⟨x6, hx, h⟩ := bind_some h
   refine ql (H_F_R6_List _ _ hx) ?_
   refine kr [] ?_
   exact z7 (by kernel_rfl) lA (H_F_L8_PrintNumbers_l0 _ _ _ _ _ _ _ h)
 ·replace h := qv hb h
  refine kr [] ?_
  obtain ⟨x7, hx, h⟩ := bind_some h
  refine ql (H_F_L8_awake _ hx) ?_
  refine kr [] ?_
  cases h
  exact kf
end Go.Proofs.YtbdhekefhcjhaaaDoorW.Ex.Gr
