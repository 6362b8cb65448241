/- The functions of the program's layer 9 and of its references, printed as functions on numbers, strings, lists and trees, with the proofs that they are what the code computes. Conditions: those in each theorem. -/
import Derived.Test.YtigmilhpeodhbaaGreatDoorGh
import Derived.Test.YtigmilhpeodhbaaGreatDoorYa
import Derived.Test.YtigmilhpeodhbaaGreatDoorExZ
import Derived.Test.YtigmilhpeodhbaaGreatDoorExF
import Derived.Test.YtigmilhpeodhbaaGreatDoorT8
import Derived.Test.YtigmilhpeodhbaaGreatDoorT0
namespace Go.Proofs.YtigmilhpeodhbaaGreatDoorW.Ex.Gr
open Go Go.Proofs.YtigmilhpeodhbaaGreatDoorW.Ex
set_option linter.all false
set_option maxRecDepth 100000
set_option synthInstance.maxSize 4000
set_option maxHeartbeats 4000000
open Go.Proofs.YtigmilhpeodhbaaGreatDoorW.Plain
structure Token where
 Kind : Int
 Lead : ByteArray
 Text : ByteArray
 At : Int
def Token.cells (x : Token) : List AV := [(.int .i64 x.Kind), (.str x.Lead), (.str x.Text), (.int .i64 x.At)]
theorem Wc : CellsOk Token.cells 4 := ⟨fun _ => rfl, by decide, fun a z hz => by
 simp only [Token.cells, List.mem_cons, List.not_mem_nil, or_false] at hz
 rcases hz with rfl | rfl | rfl | rfl <;> exact ⟨rfl, rfl⟩⟩
structure Reader where
 l_ : (List Token)
 at_ : Int
def Reader.cells (x : Reader) : List AV := [(.sl 4 false (x.l_.map Token.cells)), (.int .i64 x.at_)]
@[reducible] def PC0 {R : Type} (M : R → Prop) (F : Option R) : Prop := ∀ r, F = some r → M r
@[reducible] def PC1 {A0 R : Type} (M : A0 → R → Prop) (F : A0 → Option R) : Prop := ∀ a0 r, F a0 = some r → M a0 r
@[reducible] def PC2 {A0 A1 R : Type} (M : A0 → A1 → R → Prop) (F : A0 → A1 → Option R) : Prop := ∀ a0 a1 r, F a0 a1 = some r → M a0 a1 r
@[reducible] def PC3 {A0 A1 A2 R : Type} (M : A0 → A1 → A2 → R → Prop) (F : A0 → A1 → A2 → Option R) : Prop := ∀ a0 a1 a2 r, F a0 a1 a2 = some r → M a0 a1 a2 r
@[reducible] def PC4 {A0 A1 A2 A3 R : Type} (M : A0 → A1 → A2 → A3 → R → Prop) (F : A0 → A1 → A2 → A3 → Option R) : Prop := ∀ a0 a1 a2 a3 r, F a0 a1 a2 a3 = some r → M a0 a1 a2 a3 r
@[reducible] def PC5 {A0 A1 A2 A3 A4 R : Type} (M : A0 → A1 → A2 → A3 → A4 → R → Prop) (F : A0 → A1 → A2 → A3 → A4 → Option R) : Prop := ∀ a0 a1 a2 a3 a4 r, F a0 a1 a2 a3 a4 = some r → M a0 a1 a2 a3 a4 r
@[reducible] def PC6 {A0 A1 A2 A3 A4 A5 R : Type} (M : A0 → A1 → A2 → A3 → A4 → A5 → R → Prop) (F : A0 → A1 → A2 → A3 → A4 → A5 → Option R) : Prop := ∀ a0 a1 a2 a3 a4 a5 r, F a0 a1 a2 a3 a4 a5 = some r → M a0 a1 a2 a3 a4 a5 r
@[reducible] def PC8 {A0 A1 A2 A3 A4 A5 A6 A7 R : Type} (M : A0 → A1 → A2 → A3 → A4 → A5 → A6 → A7 → R → Prop) (F : A0 → A1 → A2 → A3 → A4 → A5 → A6 → A7 → Option R) : Prop := ∀ a0 a1 a2 a3 a4 a5 a6 a7 r, F a0 a1 a2 a3 a4 a5 a6 a7 = some r → M a0 a1 a2 a3 a4 a5 a6 a7 r
@[reducible] def PC9 {A0 A1 A2 A3 A4 A5 A6 A7 A8 R : Type} (M : A0 → A1 → A2 → A3 → A4 → A5 → A6 → A7 → A8 → R → Prop) (F : A0 → A1 → A2 → A3 → A4 → A5 → A6 → A7 → A8 → Option R) : Prop := ∀ a0 a1 a2 a3 a4 a5 a6 a7 a8 r, F a0 a1 a2 a3 a4 a5 a6 a7 a8 = some r → M a0 a1 a2 a3 a4 a5 a6 a7 a8 r
@[reducible] def PC10 {A0 A1 A2 A3 A4 A5 A6 A7 A8 A9 R : Type} (M : A0 → A1 → A2 → A3 → A4 → A5 → A6 → A7 → A8 → A9 → R → Prop) (F : A0 → A1 → A2 → A3 → A4 → A5 → A6 → A7 → A8 → A9 → Option R) : Prop := ∀ a0 a1 a2 a3 a4 a5 a6 a7 a8 a9 r, F a0 a1 a2 a3 a4 a5 a6 a7 a8 a9 = some r → M a0 a1 a2 a3 a4 a5 a6 a7 a8 a9 r
@[reducible] def PC11 {A0 A1 A2 A3 A4 A5 A6 A7 A8 A9 A10 R : Type} (M : A0 → A1 → A2 → A3 → A4 → A5 → A6 → A7 → A8 → A9 → A10 → R → Prop) (F : A0 → A1 → A2 → A3 → A4 → A5 → A6 → A7 → A8 → A9 → A10 → Option R) : Prop := ∀ a0 a1 a2 a3 a4 a5 a6 a7 a8 a9 a10 r, F a0 a1 a2 a3 a4 a5 a6 a7 a8 a9 a10 = some r → M a0 a1 a2 a3 a4 a5 a6 a7 a8 a9 a10 r
theorem Node.cells_eq (n : Node) : n.cells = zp n := Go.Proofs.YtigmilhpeodhbaaGreatDoorW.Ex.Gr.cells_eq n
theorem Node.cells_len (n : Node) : n.cells.length = 4 := by rw [Node.cells_eq]; rfl
theorem ql : CellsOk Node.cells 4 := ⟨Node.cells_len, by decide, fun n z hz => by
 rw [Node.cells_eq] at hz
 simp only [List.mem_cons, List.not_mem_nil, or_false] at hz
 rcases hz with rfl | rfl | rfl | rfl <;> exact ⟨rfl, rfl⟩⟩
mutual
def wfB : Node → Bool
 | .mk _ t g l => decide (l.length ≤ 9223372036854775807) && decide (g.length ≤ 9223372036854775807) && decide (t.size ≤ 9223372036854775807) && g.all (fun s => decide (s.size ≤ 9223372036854775807)) && wfBL l
def wfBL : List Node → Bool
 | [] => true
 | n :: l => wfB n && wfBL l
end
mutual
theorem q1w : ∀ n : Node, wfB n = true → Wf n
 | .mk k t g l, h => by
   simp only [wfB, Bool.and_eq_true, decide_eq_true_eq, List.all_eq_true] at h
   exact .mk _ h.1.1.1.1 h.1.1.1.2 h.1.1.2 h.1.2 (qx4 l h.2)
theorem qx4 : ∀ l : List Node, wfBL l = true → ∀ m ∈ l, Wf m
 | [], _, m, hm => by cases hm
 | n :: l, h, m, hm => by
   simp only [wfBL, Bool.and_eq_true] at h
   rcases List.mem_cons.1 hm with e | hm
   ·rw [e]; exact q1w n h.1
   exact qx4 l h.2 m hm
end
def yw (n : Node) : Option Int := if wfB n = true then some (checkErr n) else none
theorem Zt (n : Node) (r : Int) (h : yw n = some r) : Fn Tryz.prog G 18 [.agg (zp n)] (.int .i64 r) := by
 unfold yw at h
 split at h
 ·rename_i hc; cases h; exact qp1 n (q1w n hc)
 cases h
def qpq (n : Node) : Option Int := if wfB n = true then some (checkErr n) else none
def yz (s : ByteArray) (c : Int) : Option Int := some (Lib.indexByte s.data.toList c.toNat.toUInt8)
theorem kx (s : ByteArray) (c : Int) (r : Int) (h : yz s c = some r) : Fn Tryz.prog G 142 [.str s, .int .u8 c] (.int .i64 r) := by
 cases h; exact qce s c
def Ji (s : ByteArray) (i : Int) : Option ByteArray := if 0 ≤ i ∧ i ≤ 9223372036854775807 ∧ s.size * i.toNat ≤ 140737488355328 then some (⟨(Lib.repeatL s.data.toList i.toNat).toArray⟩ : ByteArray) else none
theorem qik (s : ByteArray) (i : Int) (r : ByteArray) (h : Ji s i = some r) : Fn Tryz.prog G 152 [.str s, .int .i64 i] (.str r) := by
 unfold Ji at h
 split at h
 ·rename_i hc; cases h; exact strings_Repeat s i hc.1 hc.2.1 hc.2.2
 cases h
def Yp (s : ByteArray) (a : Int) : Option Int := if s.size ≤ 9223372036854775807 then some (qlq s a) else none
theorem qpi (s : ByteArray) (a : Int) (r : Int) (h : Yp s a = some r) : Fn Tryz.prog G 94 [.str s, .int .i64 a] (.int .i64 r) := by
 unfold Yp at h
 split at h
 ·rename_i hc; cases h; exact qm5 s a hc
 cases h
def Kc (s : ByteArray) : Option Bool := if s.size ≤ 281474976710656 then some (Kx s.data.toList) else none
theorem qjr (s : ByteArray) (r : Bool) (h : Kc s = some r) : Fn Tryz.prog G 129 [.str s] (.bool r) := by
 unfold Kc at h
 split at h
 ·rename_i hc; cases h; exact qpx s hc
 cases h
def qwc (s : ByteArray) (a : Int) : Option Int := if s.size ≤ 9223372036854775807 then some (qlq s a) else none
def Wq (s : ByteArray) : Option Bool := some (vc s.data.toList)
theorem qgh (s : ByteArray) (r : Bool) (h : Wq s = some r) : Fn Tryz.prog G 72 [.str s] (.bool r) := by
 cases h; exact qn0 s
def flt (e : Int) : List PanicEntry := [{ v := .iface 74 (.int .i64 e), recovered := false }]
abbrev LB := List ByteArray
abbrev LN := List Node
abbrev LU := List UInt8
section
variable {ps : List (Nat × AV)} {k : List Item} {kn : List Nat} {fr fr' : FT} {n n' N p m m' r n2 : Nat} {objs objs' objs2 O O' : Objs} {Q : Exit → Fr → Hp → Prop} {ρ : Nat → Nat}
theorem kr (bars : List Nat) {c : Cfg} (hc : Ok Tryz.prog G tt N p Q c) (h : runK tt G bars 2000 ps k kn fr n objs = some c := by exact rfl) : Ok Tryz.prog G tt N p Q (.go ps k kn fr n objs) := qa5 env bars h hc
theorem kf {rs : List ResultVar} {y : AV} (hk : qhb k = true := by exact rfl) (h : qiv tt fr objs rs qha = some y := by exact rfl) : Ok Tryz.prog G tt N p (Ret Tryz.prog rs (fun z H => Told Tryz.prog G H z y)) (.fin .ret k fr n objs) := yx env hk h (zk rfl)
theorem lN : leC ρ m [] [] := qi3
theorem lS {v u : AV} {vs us : List AV} (hs : leC ρ m vs us) (h : v = u.ren1 ρ := by exact rfl) (hu : u.un1 m = true := by exact rfl) : leC ρ m (v :: vs) (u :: us) := K5 h hu hs
theorem sV {i s' : Nat} {e : TypeId} {cs cs' : List AV} {l : List (Option Nat)} (hc : leC ρ m cs cs') (h : Wv ρ m objs l O') (ho : objs[i]? = some (ρ s', .var e cs) := by exact rfl) (hb : Nat.blt s' m = true := by exact rfl) : Wv ρ m objs (some i :: l) ((s', .var e cs') :: O') := qc3 ho hb hc h
theorem sR {α : Type} {C : α → List AV} {sz i s' : Nat} {e : TypeId} {x : List α} {l : List (Option Nat)} (hC : CellsOk C sz) (h : Wv ρ m objs l O') (ho : objs[i]? = some (ρ s', .row e (x.map C).flatten) := by exact rfl) (hb : Nat.blt s' m = true := by exact rfl) : Wv ρ m objs (some i :: l) ((s', .row e (x.map C).flatten) :: O') := qc4 hC ho hb h
theorem tS {x y : AV} (sel : List (Option Nat)) (ho : Wv (rhoS objs sel O') m' objs sel O') (hx : resT objs' (rhoS objs sel O') m' y x) (hd : qi4 (sel.filterMap id) 0 objs some = some objs' := by exact rfl) (hn : qw9 sel = true := by exact rfl) (hid : (List.range m).all (fun s => Nat.beq (rhoS objs sel O' s) s) = true := by exact rfl) (hle : Nat.ble m m' = true := by exact rfl) : vd Tryz.prog G m ⟨n, objs⟩ y x ⟨m', O'⟩ := qbh sel hd hn hid hle ho hx
theorem lA (hf : leFT (rho objs' objs) n' fr fr' := by first | (simp [Reader.cells] <;> (repeat' apply And.intro) <;> first | rfl | exact fun x a _ h => (ql.all a x h).2 | exact fun x a _ h => (zx.all a x h).2 | exact fun x a _ h => (zr.all a x h).2 | exact fun x a _ h => (qln.all a x h).2 | exact fun x a _ h => (Wc.all a x h).2) | (simp [Reader.cells, Token.cells] <;> (repeat' apply And.intro) <;> first | rfl | exact fun x a _ h => (ql.all a x h).2 | exact fun x a _ h => (zx.all a x h).2 | exact fun x a _ h => (zr.all a x h).2 | exact fun x a _ h => (qln.all a x h).2 | exact fun x a _ h => (Wc.all a x h).2)) (ho : leOs (rho objs' objs) n' objs objs' := by first | (simp [Reader.cells] <;> (repeat' apply And.intro) <;> first | rfl | exact fun x a _ h => (ql.all a x h).2 | exact fun x a _ h => (zx.all a x h).2 | exact fun x a _ h => (zr.all a x h).2 | exact fun x a _ h => (qln.all a x h).2 | exact fun x a _ h => (Wc.all a x h).2) | (simp [Reader.cells, Token.cells] <;> (repeat' apply And.intro) <;> first | rfl | exact fun x a _ h => (ql.all a x h).2 | exact fun x a _ h => (zx.all a x h).2 | exact fun x a _ h => (zr.all a x h).2 | exact fun x a _ h => (qln.all a x h).2 | exact fun x a _ h => (Wc.all a x h).2)) : Less G N 0 (frT fr) ⟨n, objs⟩ (frT fr') ⟨n', objs'⟩ := q5n hf ho
theorem lQ (hf : leFT (rho objs' objs) n' fr fr' := by first | (simp [Reader.cells] <;> (repeat' apply And.intro) <;> first | rfl | exact fun x a _ h => (ql.all a x h).2 | exact fun x a _ h => (zx.all a x h).2 | exact fun x a _ h => (zr.all a x h).2 | exact fun x a _ h => (qln.all a x h).2 | exact fun x a _ h => (Wc.all a x h).2) | (simp [Reader.cells, Token.cells] <;> (repeat' apply And.intro) <;> first | rfl | exact fun x a _ h => (ql.all a x h).2 | exact fun x a _ h => (zx.all a x h).2 | exact fun x a _ h => (zr.all a x h).2 | exact fun x a _ h => (qln.all a x h).2 | exact fun x a _ h => (Wc.all a x h).2)) (ho : leOs (rho objs' objs) n' objs objs' := by first | (simp [Reader.cells] <;> (repeat' apply And.intro) <;> first | rfl | exact fun x a _ h => (ql.all a x h).2 | exact fun x a _ h => (zx.all a x h).2 | exact fun x a _ h => (zr.all a x h).2 | exact fun x a _ h => (qln.all a x h).2 | exact fun x a _ h => (Wc.all a x h).2) | (simp [Reader.cells, Token.cells] <;> (repeat' apply And.intro) <;> first | rfl | exact fun x a _ h => (ql.all a x h).2 | exact fun x a _ h => (zx.all a x h).2 | exact fun x a _ h => (zr.all a x h).2 | exact fun x a _ h => (qln.all a x h).2 | exact fun x a _ h => (Wc.all a x h).2)) (hid : ∀ s, s < p → rho objs' objs s = s := by exact qss rfl) (hp : p ≤ n' := by exact Nat.le_of_ble_eq_true rfl) : Less G N p (frT fr) ⟨n, objs⟩ (frT fr') ⟨n', objs'⟩ := qn6 hid hp hf ho
theorem AC.g9 {f : FuncId} {xs xs0 : List AV} {x y : AV} (h : AC Tryz.prog G f xs0 r O x m' O') (ids st : List Nat) (hnd : decide ids.Nodup = true := by exact rfl) (hids : ids.length = O.length := by exact rfl) (hst : st.length = r := by exact rfl) (hstn : st.all (fun s => Nat.blt s n) = true := by exact rfl)
 (hxs : xs0.map (AV.mv (fun j => ids.getD j 0) (fun s => st.getD s 0)) = xs := by exact rfl) (hg : qep ids objs = some (O.map fun q => (st.getD q.1 0, q.2.mvR (fun j => ids.getD j 0) (fun s => st.getD s 0))) := by exact rfl)
 (hy : qh1 (x.mv (fun j => ids.getD j 0) (qci (fun s => st.getD s 0) r n)) some = some y := by exact rfl) (hs : qiu ids (O'.map fun q => (qci (fun s => st.getD s 0) r n q.1, q.2.mvR (fun j => ids.getD j 0) (qci (fun s => st.getD s 0) r n))) objs some = some objs2 := by exact rfl) (hn : Yx (n + (m' - r)) some = some n2 := by exact rfl) : ACalls Tryz.prog G f xs ⟨n, objs⟩ y ⟨n2, objs2⟩ := AC.go h ids st hnd hids hst hstn hxs hg hy hs hn
end
def kj (a0 : BA) (a1 : BA) : Option Bool :=
 if (decide ((a1.size : Int) ≤ (a0.size : Int))) = true then
  ssub a0 (0 : Int) (a1.size : Int) >>= fun x1 =>
  some (decide (x1 = a1))
 else
  some false
@[reducible] def Kh (a0 : BA) (a1 : BA) (r : Bool) : Prop :=
  Fn Tryz.prog G 89 [(.str a0), (.str a1)] (.bool r)
theorem Ki : PC2 Kh kj := fun a0 a1 r h => by
 rw [kj.eq_def] at h
 refine jk (T := tt) (N := 18) (rs := [.tmp 4]) (fun vs w => by simp) Tryz.func89 rfl rfl rfl rfl (by kernel_rfl) (ko rfl) (jn _ rfl) ?_
 refine kr [] ?_
 refine qv (fun hb => ?_) (fun hb => ?_)
 ·replace h := qw hb h
  refine kr [] ?_
  obtain ⟨x1, hx, h⟩ := bind_some h
  refine qdn env hx rfl rfl rfl rfl rfl ?_
  refine kr [] ?_
  cases h
  exact kf
 replace h := qx hb h
 refine kr [] ?_
 cases h
 exact kf
def y0 (a0 : BA) (a1 : BA) : Option Bool :=
 kj a0 a1 >>= fun x1 =>
 some x1
@[reducible] def qfg (a0 : BA) (a1 : BA) (r : Bool) : Prop :=
  Fn Tryz.prog G 43 [(.str a0), (.str a1)] (.bool r)
theorem Zf : PC2 qfg y0 := fun a0 a1 r h => by
 rw [y0.eq_def] at h
 refine jk (T := tt) (N := 8) (rs := [.tmp 4]) (fun vs w => by simp) Tryz.func43 rfl rfl rfl rfl (by kernel_rfl) (ko rfl) (jn _ rfl) ?_
 refine kr [] ?_
 obtain ⟨x1, hx, h⟩ := bind_some h
 refine qn (Ki _ _ _ hx) ?_
 refine kr [] ?_
 cases h
 exact kf
def y8  : Option Int :=
 some (0 : Int)
@[reducible] def qie  (r : Int) : Prop :=
  Ok Tryz.prog G tt 29 0 (Ret Tryz.prog [.tmp 2] (fun y H => Told Tryz.prog G H y (.int .i64 r))) (.go [] (v7 [3] Tryz.f119 3) [] .z 0 [])
theorem wz : PC0 qie y8 := fun  r h => by
 rw [y8.eq_def] at h
 refine kr [3] ?_
 cases h
 exact kf
def Z3 (a0 : Int) : Option Int :=
 if (decide ((48 : Int) ≤ a0)) = true then
  if (decide (a0 ≤ (57 : Int))) = true then
   some (1 : Int)
  else
   if (decide ((97 : Int) ≤ a0)) = true then
    if (decide (a0 ≤ (122 : Int))) = true then
     some (2 : Int)
    else
     if (decide ((65 : Int) ≤ a0)) = true then
      if (decide (a0 ≤ (90 : Int))) = true then
       some (2 : Int)
      else
       if (decide (a0 = (95 : Int))) = true then
        some (2 : Int)
       else
        yz (⟨#[40, 41, 123, 125, 44, 59, 58, 46, 61, 60, 43, 45, 42, 47, 33, 38, 124]⟩ : BA) a0 >>= fun x1 =>
        if (decide ((0 : Int) ≤ x1)) = true then
         some (3 : Int)
        else
         y8 
     else
      if (decide (a0 = (95 : Int))) = true then
       some (2 : Int)
      else
       yz (⟨#[40, 41, 123, 125, 44, 59, 58, 46, 61, 60, 43, 45, 42, 47, 33, 38, 124]⟩ : BA) a0 >>= fun x2 =>
       if (decide ((0 : Int) ≤ x2)) = true then
        some (3 : Int)
       else
        y8 
   else
    if (decide ((65 : Int) ≤ a0)) = true then
     if (decide (a0 ≤ (90 : Int))) = true then
      some (2 : Int)
     else
      if (decide (a0 = (95 : Int))) = true then
       some (2 : Int)
      else
       yz (⟨#[40, 41, 123, 125, 44, 59, 58, 46, 61, 60, 43, 45, 42, 47, 33, 38, 124]⟩ : BA) a0 >>= fun x3 =>
       if (decide ((0 : Int) ≤ x3)) = true then
        some (3 : Int)
       else
        y8 
    else
     if (decide (a0 = (95 : Int))) = true then
      some (2 : Int)
     else
      yz (⟨#[40, 41, 123, 125, 44, 59, 58, 46, 61, 60, 43, 45, 42, 47, 33, 38, 124]⟩ : BA) a0 >>= fun x4 =>
      if (decide ((0 : Int) ≤ x4)) = true then
       some (3 : Int)
      else
       y8 
 else
  if (decide ((97 : Int) ≤ a0)) = true then
   if (decide (a0 ≤ (122 : Int))) = true then
    some (2 : Int)
   else
    if (decide ((65 : Int) ≤ a0)) = true then
     if (decide (a0 ≤ (90 : Int))) = true then
      some (2 : Int)
     else
      if (decide (a0 = (95 : Int))) = true then
       some (2 : Int)
      else
       yz (⟨#[40, 41, 123, 125, 44, 59, 58, 46, 61, 60, 43, 45, 42, 47, 33, 38, 124]⟩ : BA) a0 >>= fun x5 =>
       if (decide ((0 : Int) ≤ x5)) = true then
        some (3 : Int)
       else
        y8 
    else
     if (decide (a0 = (95 : Int))) = true then
      some (2 : Int)
     else
      yz (⟨#[40, 41, 123, 125, 44, 59, 58, 46, 61, 60, 43, 45, 42, 47, 33, 38, 124]⟩ : BA) a0 >>= fun x6 =>
      if (decide ((0 : Int) ≤ x6)) = true then
       some (3 : Int)
      else
       y8 
  else
   if (decide ((65 : Int) ≤ a0)) = true then
    if (decide (a0 ≤ (90 : Int))) = true then
     some (2 : Int)
    else
     if (decide (a0 = (95 : Int))) = true then
      some (2 : Int)
     else
      yz (⟨#[40, 41, 123, 125, 44, 59, 58, 46, 61, 60, 43, 45, 42, 47, 33, 38, 124]⟩ : BA) a0 >>= fun x7 =>
      if (decide ((0 : Int) ≤ x7)) = true then
       some (3 : Int)
      else
       y8 
   else
    if (decide (a0 = (95 : Int))) = true then
     some (2 : Int)
    else
     yz (⟨#[40, 41, 123, 125, 44, 59, 58, 46, 61, 60, 43, 45, 42, 47, 33, 38, 124]⟩ : BA) a0 >>= fun x8 =>
     if (decide ((0 : Int) ≤ x8)) = true then
      some (3 : Int)
     else
      y8 
@[reducible] def ql5 (a0 : Int) (r : Int) : Prop :=
  Fn Tryz.prog G 119 [(.int .u8 a0)] (.int .i64 r)
theorem qau : PC1 ql5 Z3 := fun a0 r h => by
 rw [Z3.eq_def] at h
 refine jk (T := tt) (N := 29) (rs := [.tmp 2]) (fun vs w => by simp) Tryz.func119 rfl rfl rfl rfl (by kernel_rfl) (ko rfl) (jn _ rfl) ?_
 refine kr [3] ?_
 refine qv (fun hb => ?_) (fun hb => ?_)
 ·replace h := qw hb h
  refine kr [3] ?_
  refine qf (fun hb => ?_) (fun hb => ?_)
  ·replace h := qw hb h
   refine kr [3] ?_
   cases h
   exact kf
  replace h := qx hb h
  refine kr [3] ?_
  refine qv (fun hb => ?_) (fun hb => ?_)
  ·replace h := qw hb h
   refine kr [3] ?_
   refine qf (fun hb => ?_) (fun hb => ?_)
   ·replace h := qw hb h
    refine kr [3] ?_
    cases h
    exact kf
   replace h := qx hb h
   refine kr [3] ?_
   refine qv (fun hb => ?_) (fun hb => ?_)
   ·replace h := qw hb h
    refine kr [3] ?_
    refine qf (fun hb => ?_) (fun hb => ?_)
    ·replace h := qw hb h
     refine kr [3] ?_
     cases h
     exact kf
    replace h := qx hb h
    refine kr [3] ?_
    refine qf (fun hb => ?_) (fun hb => ?_)
    ·replace h := qw hb h
     refine kr [3] ?_
     cases h
     exact kf
    replace h := qx hb h
    refine kr [3] ?_
    obtain ⟨x1, hx, h⟩ := bind_some h
    refine qn (kx _ _ _ hx) ?_
    refine kr [3] ?_
    refine qf (fun hb => ?_) (fun hb => ?_)
    ·replace h := qw hb h
     refine kr [3] ?_
     cases h
     exact kf
    replace h := qx hb h
    refine kr [3] ?_
    exact qz (by kernel_rfl) rfl lA (wz _ h)
   replace h := qx hb h
   refine kr [3] ?_
   refine qf (fun hb => ?_) (fun hb => ?_)
   ·replace h := qw hb h
    refine kr [3] ?_
    cases h
    exact kf
   replace h := qx hb h
   refine kr [3] ?_
   obtain ⟨x2, hx, h⟩ := bind_some h
   refine qn (kx _ _ _ hx) ?_
   refine kr [3] ?_
   refine qf (fun hb => ?_) (fun hb => ?_)
   ·replace h := qw hb h
    refine kr [3] ?_
    cases h
    exact kf
   replace h := qx hb h
   refine kr [3] ?_
   exact qz (by kernel_rfl) rfl lA (wz _ h)
  replace h := qx hb h
  refine kr [3] ?_
  refine qv (fun hb => ?_) (fun hb => ?_)
  ·replace h := qw hb h
   refine kr [3] ?_
   refine qf (fun hb => ?_) (fun hb => ?_)
   ·replace h := qw hb h
    refine kr [3] ?_
    cases h
    exact kf
   replace h := qx hb h
   refine kr [3] ?_
   refine qf (fun hb => ?_) (fun hb => ?_)
   ·replace h := qw hb h
    refine kr [3] ?_
    cases h
    exact kf
   replace h := qx hb h
   refine kr [3] ?_
   obtain ⟨x3, hx, h⟩ := bind_some h
   refine qn (kx _ _ _ hx) ?_
   refine kr [3] ?_
   refine qf (fun hb => ?_) (fun hb => ?_)
   ·replace h := qw hb h
    refine kr [3] ?_
    cases h
    exact kf
   replace h := qx hb h
   refine kr [3] ?_
   exact qz (by kernel_rfl) rfl lA (wz _ h)
  replace h := qx hb h
  refine kr [3] ?_
  refine qf (fun hb => ?_) (fun hb => ?_)
  ·replace h := qw hb h
   refine kr [3] ?_
   cases h
   exact kf
  replace h := qx hb h
  refine kr [3] ?_
  obtain ⟨x4, hx, h⟩ := bind_some h
  refine qn (kx _ _ _ hx) ?_
  refine kr [3] ?_
  refine qf (fun hb => ?_) (fun hb => ?_)
  ·replace h := qw hb h
   refine kr [3] ?_
   cases h
   exact kf
  replace h := qx hb h
  refine kr [3] ?_
  exact qz (by kernel_rfl) rfl lA (wz _ h)
 replace h := qx hb h
 refine kr [3] ?_
 refine qv (fun hb => ?_) (fun hb => ?_)
 ·replace h := qw hb h
  refine kr [3] ?_
  refine qf (fun hb => ?_) (fun hb => ?_)
  ·replace h := qw hb h
   refine kr [3] ?_
   cases h
   exact kf
  replace h := qx hb h
  refine kr [3] ?_
  refine qv (fun hb => ?_) (fun hb => ?_)
  ·replace h := qw hb h
   refine kr [3] ?_
   refine qf (fun hb => ?_) (fun hb => ?_)
   ·replace h := qw hb h
    refine kr [3] ?_
    cases h
    exact kf
   replace h := qx hb h
   refine kr [3] ?_
   refine qf (fun hb => ?_) (fun hb => ?_)
   ·replace h := qw hb h
    refine kr [3] ?_
    cases h
    exact kf
   replace h := qx hb h
   refine kr [3] ?_
   obtain ⟨x5, hx, h⟩ := bind_some h
   refine qn (kx _ _ _ hx) ?_
   refine kr [3] ?_
   refine qf (fun hb => ?_) (fun hb => ?_)
   ·replace h := qw hb h
    refine kr [3] ?_
    cases h
    exact kf
   replace h := qx hb h
   refine kr [3] ?_
   exact qz (by kernel_rfl) rfl lA (wz _ h)
  replace h := qx hb h
  refine kr [3] ?_
  refine qf (fun hb => ?_) (fun hb => ?_)
  ·replace h := qw hb h
   refine kr [3] ?_
   cases h
   exact kf
  replace h := qx hb h
  refine kr [3] ?_
  obtain ⟨x6, hx, h⟩ := bind_some h
  refine qn (kx _ _ _ hx) ?_
  refine kr [3] ?_
  refine qf (fun hb => ?_) (fun hb => ?_)
  ·replace h := qw hb h
   refine kr [3] ?_
   cases h
   exact kf
  replace h := qx hb h
  refine kr [3] ?_
  exact qz (by kernel_rfl) rfl lA (wz _ h)
 replace h := qx hb h
 refine kr [3] ?_
 refine qv (fun hb => ?_) (fun hb => ?_)
 ·replace h := qw hb h
  refine kr [3] ?_
  refine qf (fun hb => ?_) (fun hb => ?_)
  ·replace h := qw hb h
   refine kr [3] ?_
   cases h
   exact kf
  replace h := qx hb h
  refine kr [3] ?_
  refine qf (fun hb => ?_) (fun hb => ?_)
  ·replace h := qw hb h
   refine kr [3] ?_
   cases h
   exact kf
  replace h := qx hb h
  refine kr [3] ?_
  obtain ⟨x7, hx, h⟩ := bind_some h
  refine qn (kx _ _ _ hx) ?_
  refine kr [3] ?_
  refine qf (fun hb => ?_) (fun hb => ?_)
  ·replace h := qw hb h
   refine kr [3] ?_
   cases h
   exact kf
  replace h := qx hb h
  refine kr [3] ?_
  exact qz (by kernel_rfl) rfl lA (wz _ h)
 replace h := qx hb h
 refine kr [3] ?_
 refine qf (fun hb => ?_) (fun hb => ?_)
 ·replace h := qw hb h
  refine kr [3] ?_
  cases h
  exact kf
 replace h := qx hb h
 refine kr [3] ?_
 obtain ⟨x8, hx, h⟩ := bind_some h
 refine qn (kx _ _ _ hx) ?_
 refine kr [3] ?_
 refine qf (fun hb => ?_) (fun hb => ?_)
 ·replace h := qw hb h
  refine kr [3] ?_
  cases h
  exact kf
 replace h := qx hb h
 refine kr [3] ?_
 exact qz (by kernel_rfl) rfl lA (wz _ h)
def Q0 (a0 : Int) : Option Bool :=
 Z3 a0 >>= fun x1 =>
 if (decide (x1 = (2 : Int))) = true then
  some true
 else
  Z3 a0 >>= fun x2 =>
  some (decide (x2 = (1 : Int)))
@[reducible] def ql3 (a0 : Int) (r : Bool) : Prop :=
  Fn Tryz.prog G 88 [(.int .u8 a0)] (.bool r)
theorem qat : PC1 ql3 Q0 := fun a0 r h => by
 rw [Q0.eq_def] at h
 refine jk (T := tt) (N := 11) (rs := [.tmp 2]) (fun vs w => by simp) Tryz.func88 rfl rfl rfl rfl (by kernel_rfl) (ko rfl) (jn _ rfl) ?_
 refine kr [] ?_
 obtain ⟨x1, hx, h⟩ := bind_some h
 refine qn (qau _ _ hx) ?_
 refine kr [] ?_
 refine qy (fun hb => ?_) (fun hb => ?_)
 ·replace h := qx hb h
  refine kr [] ?_
  obtain ⟨x2, hx, h⟩ := bind_some h
  refine qn (qau _ _ hx) ?_
  refine kr [] ?_
  cases h
  exact kf
 replace h := qw hb h
 refine kr [] ?_
 cases h
 exact kf
def Qh (t3 : Int) : Option Int :=
 some t3
@[reducible] def qku (t3 : Int) (r : Int) : Prop :=
  Ok Tryz.prog G tt 17 0 (Ret Tryz.prog [.tmp 2] (fun y H => Told Tryz.prog G H y (.int .i64 r))) (.go [] (qs7 [1000000] Tryz.f128 0) [] (.n .undef (.n .undef (.n (.int .i64 t3) .z .z) .z) .z) 0 [])
theorem qdz : PC1 qku Qh := fun t3 r h => by
 rw [Qh.eq_def] at h
 refine kr [1000000] ?_
 cases h
 exact kf
def vl (t0 : BA) (t3 : Int) : Option Int :=
 if (decide (t3 < (t0.size : Int))) = true then
  sx t0 t3 >>= fun x1 =>
  Q0 (qa x1) >>= fun x2 =>
  if x2 = true then
   vl (qa t0) (IntKind.i64.wrap (t3 + (1 : Int)))
  else
   Qh (qa t3)
 else
  Qh (qa t3)
 partial_fixpoint
@[reducible] def qdp (t0 : BA) (t3 : Int) (r : Int) : Prop :=
  Ok Tryz.prog G tt 17 0 (Ret Tryz.prog [.tmp 2] (fun y H => Told Tryz.prog G H y (.int .i64 r))) (.again (ud [1000000] Tryz.f128 0).1 (ud [1000000] Tryz.f128 0).2 (.n (.str t0) (.n .undef (.n (.int .i64 t3) .z .z) .z) .z) 0 [])
theorem W3 : PC2 qdp vl := by
 refine vl.partial_correctness qdp (fun vl W3 t0 t3 r h => ?_)
 unfold qa at h
 refine uy ?_
 refine kr [1000000] ?_
 refine qv (fun hb => ?_) (fun hb => ?_)
 ·replace h := qw hb h
  refine kr [1000000] ?_
  obtain ⟨x1, hx, h⟩ := bind_some h
  refine qte env hx rfl rfl rfl rfl ?_
  refine kr [1000000] ?_
  obtain ⟨x2, hx, h⟩ := bind_some h
  refine qn (qat _ _ hx) ?_
  refine kr [1000000] ?_
  refine qf (fun hb => ?_) (fun hb => ?_)
  ·replace h := qw hb h
   refine kr [1000000] ?_
   exact wd (by kernel_rfl) lA (W3 _ _ _ h)
  replace h := qx hb h
  refine kr [1000000] ?_
  exact qz (by kernel_rfl) rfl lA (qdz _ _ h)
 replace h := qx hb h
 refine kr [1000000] ?_
 exact qz (by kernel_rfl) rfl lA (qdz _ _ h)
def Kr (a0 : BA) : Option Int :=
 vl a0 (0 : Int)
@[reducible] def qp5 (a0 : BA) (r : Int) : Prop :=
  Fn Tryz.prog G 128 [(.str a0)] (.int .i64 r)
theorem qhf : PC1 qp5 Kr := fun a0 r h => by
 rw [Kr.eq_def] at h
 refine jk (T := tt) (N := 17) (rs := [.tmp 2]) (fun vs w => by simp) Tryz.func128 rfl rfl rfl rfl (by kernel_rfl) (ko rfl) (jn _ rfl) ?_
 refine kr [1000000] ?_
 exact wx (by kernel_rfl) lA (W3 _ _ _ h)
def vm  : Option (Int × Int) :=
 some ((0 : Int), (0 : Int))
@[reducible] def qg5  (r : Int × Int) : Prop :=
  Ok Tryz.prog G tt 33 0 (Ret Tryz.prog [.tmp 2, .tmp 3] (fun y H => Told Tryz.prog G H y (.tup [(.int .i64 r.1), (.int .i64 r.2)]))) (.go [] (v7 [11, 20] Tryz.f95 11) [] .z 0 [])
theorem qa4 : PC0 qg5 vm := fun  r h => by
 rw [vm.eq_def] at h
 refine kr [11, 20] ?_
 cases h
 exact kf
def Qk  : Option (Int × Int) :=
 vm 
@[reducible] def qg4  (r : Int × Int) : Prop :=
  Ok Tryz.prog G tt 33 0 (Ret Tryz.prog [.tmp 2, .tmp 3] (fun y H => Told Tryz.prog G H y (.tup [(.int .i64 r.1), (.int .i64 r.2)]))) (.go [] (v7 [11, 20] Tryz.f95 20) [] .z 0 [])
theorem qa3 : PC0 qg4 Qk := fun  r h => by
 rw [Qk.eq_def] at h
 refine kr [11, 20] ?_
 exact qz (by kernel_rfl) rfl lA (qa4 _ h)
def J4 (a0 : BA) : Option (Int × Int) :=
 if (decide (a0 = (⟨#[]⟩ : BA))) = true then
  some ((0 : Int), (0 : Int))
 else
  sx a0 (0 : Int) >>= fun x1 =>
  Z3 x1 >>= fun x2 =>
  if (decide (x2 = (1 : Int))) = true then
   Kr a0 >>= fun x3 =>
   ssub a0 (0 : Int) x3 >>= fun x4 =>
   Kc x4 >>= fun x5 =>
   if x5 = true then
    some (x3, (2 : Int))
   else
    vm 
  else
   if (decide (x2 = (2 : Int))) = true then
    Kr a0 >>= fun x6 =>
    if (decide (x6 ≤ (32 : Int))) = true then
     some (x6, (1 : Int))
    else
     Qk 
   else
    if (decide (x2 = (3 : Int))) = true then
     y0 a0 (⟨#[47, 47]⟩ : BA) >>= fun x7 =>
     if x7 = true then
      some ((0 : Int), (0 : Int))
     else
      y0 a0 (⟨#[61, 61]⟩ : BA) >>= fun x8 =>
      if x8 = true then
       some ((2 : Int), (3 : Int))
      else
       some ((1 : Int), (3 : Int))
    else
     Qk 
@[reducible] def ql4 (a0 : BA) (r : Int × Int) : Prop :=
  Fn Tryz.prog G 95 [(.str a0)] (.tup [(.int .i64 r.1), (.int .i64 r.2)])
theorem ql9 : PC1 ql4 J4 := fun a0 r h => by
 rw [J4.eq_def] at h
 refine jk (T := tt) (N := 33) (rs := [.tmp 2, .tmp 3]) (fun vs w => by simp) Tryz.func95 rfl rfl rfl rfl (by kernel_rfl) (ko rfl) (jn _ rfl) ?_
 refine kr [11, 20] ?_
 refine qf (fun hb => ?_) (fun hb => ?_)
 ·replace h := qw hb h
  refine kr [11, 20] ?_
  cases h
  exact kf
 replace h := qx hb h
 refine kr [11, 20] ?_
 obtain ⟨x1, hx, h⟩ := bind_some h
 refine qte env hx rfl rfl rfl rfl ?_
 refine kr [11, 20] ?_
 obtain ⟨x2, hx, h⟩ := bind_some h
 refine qn (qau _ _ hx) ?_
 refine kr [11, 20] ?_
 refine qf (fun hb => ?_) (fun hb => ?_)
 ·replace h := qw hb h
  refine kr [11, 20] ?_
  obtain ⟨x3, hx, h⟩ := bind_some h
  refine qn (qhf _ _ hx) ?_
  refine kr [11, 20] ?_
  obtain ⟨x4, hx, h⟩ := bind_some h
  refine qdn env hx rfl rfl rfl rfl rfl ?_
  refine kr [11, 20] ?_
  obtain ⟨x5, hx, h⟩ := bind_some h
  refine qn (qjr _ _ hx) ?_
  refine kr [11, 20] ?_
  refine qf (fun hb => ?_) (fun hb => ?_)
  ·replace h := qw hb h
   refine kr [11, 20] ?_
   cases h
   exact kf
  replace h := qx hb h
  refine kr [11, 20] ?_
  exact qz (by kernel_rfl) rfl lA (qa4 _ h)
 replace h := qx hb h
 refine kr [11, 20] ?_
 refine qf (fun hb => ?_) (fun hb => ?_)
 ·replace h := qw hb h
  refine kr [11, 20] ?_
  obtain ⟨x6, hx, h⟩ := bind_some h
  refine qn (qhf _ _ hx) ?_
  refine kr [11, 20] ?_
  refine qf (fun hb => ?_) (fun hb => ?_)
  ·replace h := qw hb h
   refine kr [11, 20] ?_
   cases h
   exact kf
  replace h := qx hb h
  refine kr [11, 20] ?_
  exact qz (by kernel_rfl) rfl lA (qa3 _ h)
 replace h := qx hb h
 refine kr [11, 20] ?_
 refine qf (fun hb => ?_) (fun hb => ?_)
 ·replace h := qw hb h
  refine kr [11, 20] ?_
  obtain ⟨x7, hx, h⟩ := bind_some h
  refine qn (Zf _ _ _ hx) ?_
  refine kr [11, 20] ?_
  refine qf (fun hb => ?_) (fun hb => ?_)
  ·replace h := qw hb h
   refine kr [11, 20] ?_
   cases h
   exact kf
  replace h := qx hb h
  refine kr [11, 20] ?_
  obtain ⟨x8, hx, h⟩ := bind_some h
  refine qn (Zf _ _ _ hx) ?_
  refine kr [11, 20] ?_
  refine qf (fun hb => ?_) (fun hb => ?_)
  ·replace h := qw hb h
   refine kr [11, 20] ?_
   cases h
   exact kf
  replace h := qx hb h
  refine kr [11, 20] ?_
  cases h
  exact kf
 replace h := qx hb h
 refine kr [11, 20] ?_
 exact qz (by kernel_rfl) rfl lA (qa3 _ h)
def ws (t0 : BA) (t5 : (List Token)) (t6 : Int) : Option ((List Token) × Int × Int) :=
 Yp (qa t0) (qa t6) >>= fun x1 =>
 if (decide (x1 = (t0.size : Int))) = true then
  ssub t0 t6 (t0.size : Int) >>= fun x2 =>
  app 48 t5 ([(Token.mk (4 : Int) x2 (⟨#[]⟩) (t0.size : Int))]) >>= fun x3 =>
  some (x3, (0 : Int), (0 : Int))
 else
  ssub t0 x1 (t0.size : Int) >>= fun x4 =>
  J4 (qa x4) >>= fun x5 =>
  if (decide (x5.2 = (0 : Int))) = true then
   some (([] : (List Token)), (1 : Int), x1)
  else
   ssub t0 t6 x1 >>= fun x6 =>
   ssub t0 x1 (IntKind.i64.wrap (x1 + x5.1)) >>= fun x7 =>
   app 48 t5 ([(Token.mk x5.2 x6 x7 x1)]) >>= fun x8 =>
   ws (qa t0) (qa x8) (IntKind.i64.wrap (x1 + x5.1))
 partial_fixpoint
@[reducible] def qa1 (t0 : BA) (t5 : (List Token)) (t6 : Int) (r : (List Token) × Int × Int) : Prop :=
  Ok Tryz.prog G tt 58 0 (Ret Tryz.prog [.tmp 2, .tmp 3, .tmp 4] (fun y H => Told Tryz.prog G H y (.tup [(.sl 4 false (r.1.map Token.cells)), (.int .i64 r.2.1), (.int .i64 r.2.2)]))) (.again (ud [] Tryz.f49 0).1 (ud [] Tryz.f49 0).2 (.n (.str t0) (.n .undef .z (.n (.bs 4 0 0 0 t5.length) .z .z)) (.n .undef .z (.n (.int .i64 t6) .z .z))) 1 [(0, .row 49 (t5.map Token.cells).flatten)])
theorem Yy : PC3 qa1 ws := by
 refine ws.partial_correctness qa1 (fun ws Yy t0 t5 t6 r h => ?_)
 unfold qa at h
 refine uy ?_
 refine kr [] ?_
 obtain ⟨x1, hx, h⟩ := bind_some h
 refine qn (qpi _ _ _ hx) ?_
 refine kr [] ?_
 refine qf (fun hb => ?_) (fun hb => ?_)
 ·replace h := qw hb h
  refine kr [] ?_
  obtain ⟨x2, hx, h⟩ := bind_some h
  refine qdn env hx rfl rfl rfl rfl rfl ?_
  refine kr [] ?_
  obtain ⟨x3, hx, h⟩ := bind_some h
  have hp_x3 := qgx hx (by simp)
  refine qex (C := Token.cells) env hx rfl rfl (by simp) (fun _ => rfl) rfl rfl rfl rfl rfl (by decide) rfl rfl rfl ?_
  refine kr [] ?_
  cases h
  exact yx env rfl rfl (qgo (qgn (vr (Ye (ya Wc rfl) (by simp)) (vr (Ye (zy rfl) (by simp)) (vr (Ye (zy rfl) (by simp)) qd4)))))
 replace h := qx hb h
 refine kr [] ?_
 obtain ⟨x4, hx, h⟩ := bind_some h
 refine qdn env hx rfl rfl rfl rfl rfl ?_
 refine kr [] ?_
 obtain ⟨x5, hx, h⟩ := bind_some h
 refine qn (ql9 _ _ hx) ?_
 refine kr [] ?_
 refine qf (fun hb => ?_) (fun hb => ?_)
 ·replace h := qw hb h
  refine kr [] ?_
  cases h
  exact yx env rfl rfl (qgo (qgn (vr (Ye (kg (.inr rfl)) (by simp)) (vr (Ye (zy rfl) (by simp)) (vr (Ye (zy rfl) (by simp)) qd4)))))
 replace h := qx hb h
 refine kr [] ?_
 obtain ⟨x6, hx, h⟩ := bind_some h
 refine qdn env hx rfl rfl rfl rfl rfl ?_
 refine kr [] ?_
 obtain ⟨x7, hx, h⟩ := bind_some h
 refine qdn env hx rfl rfl rfl rfl rfl ?_
 refine kr [] ?_
 obtain ⟨x8, hx, h⟩ := bind_some h
 have hp_x8 := qgx hx (by simp)
 refine qex (C := Token.cells) env hx rfl rfl (by simp) (fun _ => rfl) rfl rfl rfl rfl rfl (by decide) rfl rfl rfl ?_
 refine kr [] ?_
 exact wd (by kernel_rfl) lA (Yy _ _ _ _ h)
def uo (a0 : BA) : Option ((List Token) × Int × Int) :=
 if (decide ((65536 : Int) < (a0.size : Int))) = true then
  some (([] : (List Token)), (3 : Int), (0 : Int))
 else
  ws a0 ([] : List Token) (0 : Int)
@[reducible] def qkv (a0 : BA) (r : (List Token) × Int × Int) : Prop :=
  Fn Tryz.prog G 49 [(.str a0)] (.tup [(.sl 4 false (r.1.map Token.cells)), (.int .i64 r.2.1), (.int .i64 r.2.2)])
theorem W4 : PC1 qkv uo := fun a0 r h => by
 rw [uo.eq_def] at h
 refine jk (T := tt) (N := 58) (rs := [.tmp 2, .tmp 3, .tmp 4]) (fun vs w => by simp) Tryz.func49 rfl rfl rfl rfl (by kernel_rfl) (ko rfl) (jn _ rfl) ?_
 refine kr [] ?_
 refine qf (fun hb => ?_) (fun hb => ?_)
 ·replace h := qw hb h
  refine kr [] ?_
  cases h
  exact yx env rfl rfl (qgo (qgn (vr (Ye (kg (.inr rfl)) (by simp)) (vr (Ye (zy rfl) (by simp)) (vr (Ye (zy rfl) (by simp)) qd4)))))
 replace h := qx hb h
 refine kr [] ?_
 refine q8m 5 _ 4 49 rfl rfl ?_
 exact wx (by kernel_rfl) lA (Yy _ _ _ _ h)
def Y4 (a0 : Token) : Option Int :=
 if (!decide (a0.Kind = (3 : Int))) = true then
  some (0 : Int)
 else
  if (decide (a0.Text = (⟨#[124]⟩ : BA))) = true then
   some (1 : Int)
  else
   if (decide (a0.Text = (⟨#[38]⟩ : BA))) = true then
    some (2 : Int)
   else
    if (decide (a0.Text = (⟨#[61, 61]⟩ : BA))) = true then
     some (3 : Int)
    else
     if (decide (a0.Text = (⟨#[60]⟩ : BA))) = true then
      some (3 : Int)
     else
      if (decide (a0.Text = (⟨#[43]⟩ : BA))) = true then
       some (4 : Int)
      else
       if (decide (a0.Text = (⟨#[45]⟩ : BA))) = true then
        some (4 : Int)
       else
        if (decide (a0.Text = (⟨#[42]⟩ : BA))) = true then
         some (5 : Int)
        else
         if (decide (a0.Text = (⟨#[47]⟩ : BA))) = true then
          some (5 : Int)
         else
          some (0 : Int)
@[reducible] def ql6 (a0 : Token) (r : Int) : Prop :=
  Fn Tryz.prog G 66 [(.agg (Token.cells a0))] (.int .i64 r)
theorem qma : PC1 ql6 Y4 := fun a0 r h => by
 rw [Y4.eq_def] at h
 refine jk (T := tt) (N := 21) (rs := [.tmp 2]) (fun vs w => by simp) Tryz.func66 rfl rfl rfl rfl (by kernel_rfl) (ko rfl) (jn _ rfl) ?_
 refine kr [] ?_
 refine qf (fun hb => ?_) (fun hb => ?_)
 ·replace h := qw hb h
  refine kr [] ?_
  cases h
  exact kf
 replace h := qx hb h
 refine kr [] ?_
 refine qf (fun hb => ?_) (fun hb => ?_)
 ·replace h := qw hb h
  refine kr [] ?_
  cases h
  exact kf
 replace h := qx hb h
 refine kr [] ?_
 refine qf (fun hb => ?_) (fun hb => ?_)
 ·replace h := qw hb h
  refine kr [] ?_
  cases h
  exact kf
 replace h := qx hb h
 refine kr [] ?_
 refine qf (fun hb => ?_) (fun hb => ?_)
 ·replace h := qw hb h
  refine kr [] ?_
  cases h
  exact kf
 replace h := qx hb h
 refine kr [] ?_
 refine qf (fun hb => ?_) (fun hb => ?_)
 ·replace h := qw hb h
  refine kr [] ?_
  cases h
  exact kf
 replace h := qx hb h
 refine kr [] ?_
 refine qf (fun hb => ?_) (fun hb => ?_)
 ·replace h := qw hb h
  refine kr [] ?_
  cases h
  exact kf
 replace h := qx hb h
 refine kr [] ?_
 refine qf (fun hb => ?_) (fun hb => ?_)
 ·replace h := qw hb h
  refine kr [] ?_
  cases h
  exact kf
 replace h := qx hb h
 refine kr [] ?_
 refine qf (fun hb => ?_) (fun hb => ?_)
 ·replace h := qw hb h
  refine kr [] ?_
  cases h
  exact kf
 replace h := qx hb h
 refine kr [] ?_
 refine qf (fun hb => ?_) (fun hb => ?_)
 ·replace h := qw hb h
  refine kr [] ?_
  cases h
  exact kf
 replace h := qx hb h
 refine kr [] ?_
 cases h
 exact kf
def zn (a0 : Reader) : Option (Token) :=
 ix a0.l_ a0.at_ >>= fun x1 =>
 some x1
@[reducible] def qds (a0 : Reader) (r : Token) : Prop :=
  AC Tryz.prog G 51 [(.ptr 0 0 0)] 1 [(0, .var 77 (Reader.cells a0))] (.agg (Token.cells r)) 1 [(0, .var 77 (Reader.cells a0))]
theorem zt : PC1 qds zn := fun a0 r h => by
 rw [zn.eq_def] at h
 refine ⟨?_, (zm rfl rfl jv), (qj zf), (zo rfl j3), (qj zf), rfl, rfl, rfl, rfl⟩
 refine wk (T := tt) (N := 13) (rs := [.cell 2 49]) (fun vs w => by simp) Tryz.func51 rfl rfl rfl (by kernel_rfl) (by kernel_rfl) ?_
 refine kr [] ?_
 obtain ⟨x1, hx, h⟩ := bind_some h
 refine Kf env hx rfl rfl rfl rfl rfl ?_
 refine kr [] ?_
 cases h
 exact j8 env rfl rfl (tS [some 0] (sV (lS (lS lN)) q7) (yf (yr (qh (qg (zy rfl) rfl) (qh (qg (jw rfl) rfl) (qh (qg (jw rfl) rfl) (qh (qg (zy rfl) rfl) yq))))) (by simp)))
def zg (a0 : Reader) (a1 : BA) : Option Bool :=
 zn a0 >>= fun x1 =>
 if (!decide (x1.Kind = (4 : Int))) = true then
  zn a0 >>= fun x2 =>
  some (decide (x2.Text = a1))
 else
  some false
@[reducible] def qfh (a0 : Reader) (a1 : BA) (r : Bool) : Prop :=
  AC Tryz.prog G 52 [(.ptr 0 0 0), (.str a1)] 1 [(0, .var 77 (Reader.cells a0))] (.bool r) 1 [(0, .var 77 (Reader.cells a0))]
theorem zj : PC2 qfh zg := fun a0 a1 r h => by
 rw [zg.eq_def] at h
 refine ⟨?_, (zm rfl rfl jv), (qj zf), (zo rfl j3), (qj zf), rfl, rfl, rfl, rfl⟩
 refine wk (T := tt) (N := 16) (rs := [.tmp 4]) (fun vs w => by simp) Tryz.func52 rfl rfl rfl (by kernel_rfl) (by kernel_rfl) ?_
 refine kr [] ?_
 obtain ⟨x1, hx, h⟩ := bind_some h
 refine qb (AC.g9 (zt _ _ hx) [0] [0]) ?_
 refine kr [] ?_
 refine qv (fun hb => ?_) (fun hb => ?_)
 ·replace h := qw hb h
  refine kr [] ?_
  obtain ⟨x2, hx, h⟩ := bind_some h
  refine qb (AC.g9 (zt _ _ hx) [0] [0]) ?_
  refine kr [] ?_
  cases h
  exact j8 env rfl rfl (tS [some 0] (sV (lS (lS lN)) q7) (yf (qad (qg (qm3 rfl) rfl) (by simp)) (by simp)))
 replace h := qx hb h
 refine kr [] ?_
 cases h
 exact j8 env rfl rfl (tS [some 0] (sV (lS (lS lN)) q7) (yf (qad (qg (qm3 rfl) rfl) (by simp)) (by simp)))
def jc (a0 : Reader) : Option (Except Int (Unit)) :=
 zn a0 >>= fun x1 =>
 some (.error x1.At)
@[reducible] def qdw (a0 : Reader) (r : Except Int (Unit)) : Prop :=
  exq (fun (r : Unit) => AC Tryz.prog G 57 [(.ptr 0 0 0)] 1 [(0, .var 77 (Reader.cells a0))] (.tup []) 1 [(0, .var 77 (Reader.cells a0))]) (fun e => FC Tryz.prog G 57 [(.ptr 0 0 0)] 1 [(0, .var 77 (Reader.cells a0))] (flt e)) r
theorem zq : PC1 qdw jc := fun a0 r h => by
 rw [jc.eq_def] at h
 refine Jw (T := tt) (N := 6) (rs := []) (fun vs w => by simp) Tryz.func57 rfl rfl rfl (by kernel_rfl) (by kernel_rfl) (zm rfl rfl jv) (qj zf) (fun r => (zo rfl j3)) (fun r => (qj zf)) (fun _ => rfl) (fun _ => rfl) rfl (fun _ => rfl) ?_
 refine kr [] ?_
 obtain ⟨x1, hx, h⟩ := bind_some h
 refine qb (AC.g9 (zt _ _ hx) [0] [0]) ?_
 refine kr [] ?_
 refine qxq (by kernel_rfl) rfl ?_
 refine kr [] ?_
 cases h
 exact q4j rfl rfl
def uq (o0 : Reader) (o1_0 : Int) (o1_1 : BA) (o1_2 : LB) (o1_3 : LN) : Option (Except Int (Reader × LB)) :=
 zn o0 >>= fun x3 =>
 app 16 o1_2 ([x3.Lead]) >>= fun x4 =>
 some (.ok ((Reader.mk o0.l_ (IntKind.i64.wrap (o0.at_ + (1 : Int)))), x4))
@[reducible] def qbu (o0 : Reader) (o1_0 : Int) (o1_1 : BA) (o1_2 : LB) (o1_3 : LN) (r : Except Int (Reader × LB)) : Prop :=
  Ok Tryz.prog G tt 31 4 (exq (fun (r : Reader × LB) => Ret Tryz.prog [] (fun y H => vd Tryz.prog G 4 H y (.tup []) ⟨5, [(0, .var 77 (Reader.cells r.1)), (1, .var 26 [(.int .i64 o1_0), (.str o1_1), (.bs 1 2 4 0 r.2.length), (.bs 4 3 3 0 o1_3.length)]), (4, .row 9 (r.2.map sc).flatten), (3, .row 26 (o1_3.map Node.cells).flatten)]⟩)) (fun e => Jg (flt e)) r) (.go [] (v7 [9] Tryz.f70 9) [] (.n (.ptr 0 0 0) (.n (.ptr 1 1 0) .z .z) .z) 5 [(0, .var 77 (Reader.cells o0)), (1, .var 26 [(.int .i64 o1_0), (.str o1_1), (.bs 1 2 4 0 o1_2.length), (.bs 4 3 3 0 o1_3.length)]), (4, .row 9 (o1_2.map sc).flatten), (3, .row 26 (o1_3.map Node.cells).flatten)])
theorem Yj : PC5 qbu uq := fun o0 o1_0 o1_1 o1_2 o1_3 r h => by
 rw [uq.eq_def] at h
 refine kr [9] ?_
 obtain ⟨x3, hx, h⟩ := bind_some h
 refine qb (AC.g9 (zt _ _ hx) [0] [0]) ?_
 refine kr [9] ?_
 obtain ⟨x4, hx, h⟩ := bind_some h
 have hp_x4 := qgx hx (by simp)
 refine qex (C := sc) env hx rfl rfl (by simp) (fun _ => rfl) rfl rfl rfl rfl rfl (by decide) rfl rfl rfl ?_
 refine kr [9] ?_
 cases h
 exact ji env rfl (tS [some 0, some 1, some 2, some 3] (sV (lS (lS lN)) (sV (lS (lS (lS (lS lN)))) (sR zr (sR ql q7)))) (j4 jg))
def qm (a0 : Reader) (a1 : Int) (a3 : BA) (a4 : LB) (a5 : LN) (a2 : BA) : Option (Except Int (Reader × LB)) :=
 zg a0 a2 >>= fun x1 =>
 if (!x1) = true then
  jc a0 >>= fun x2 =>
  match x2 with
  | .error ee => some (.error ee)
  | .ok x2 =>
  uq a0 a1 a3 a4 a5
 else
  uq a0 a1 a3 a4 a5
@[reducible] def qdr (a0 : Reader) (a1 : Int) (a3 : BA) (a4 : LB) (a5 : LN) (a2 : BA) (r : Except Int (Reader × LB)) : Prop :=
  exq (fun (r : Reader × LB) => AC Tryz.prog G 70 [(.ptr 0 0 0), (.ptr 1 1 0), (.str a2)] 4 [(0, .var 77 (Reader.cells a0)), (1, .var 26 [(.int .i64 a1), (.str a3), (.bs 1 2 2 0 a4.length), (.bs 4 3 3 0 a5.length)]), (2, .row 9 (a4.map sc).flatten), (3, .row 26 (a5.map Node.cells).flatten)] (.tup []) 5 [(0, .var 77 (Reader.cells r.1)), (1, .var 26 [(.int .i64 a1), (.str a3), (.bs 1 2 4 0 r.2.length), (.bs 4 3 3 0 a5.length)]), (4, .row 9 (r.2.map sc).flatten), (3, .row 26 (a5.map Node.cells).flatten)]) (fun e => FC Tryz.prog G 70 [(.ptr 0 0 0), (.ptr 1 1 0), (.str a2)] 4 [(0, .var 77 (Reader.cells a0)), (1, .var 26 [(.int .i64 a1), (.str a3), (.bs 1 2 2 0 a4.length), (.bs 4 3 3 0 a5.length)]), (2, .row 9 (a4.map sc).flatten), (3, .row 26 (a5.map Node.cells).flatten)] (flt e)) r
theorem qc : PC6 qdr qm := fun a0 a1 a3 a4 a5 a2 r h => by
 rw [qm.eq_def] at h
 refine Jw (T := tt) (N := 31) (rs := []) (fun vs w => by simp) Tryz.func70 rfl rfl rfl (by kernel_rfl) (by kernel_rfl) (zm rfl rfl (zm rfl rfl (ju zr rfl (ju ql rfl jv)))) (qj (qj (ze zr (ze ql zf)))) (fun r => (zo rfl (zo rfl (jt zr (jt ql j3))))) (fun r => (qj (qj (ze zr (ze ql zf))))) (fun _ => rfl) (fun _ => rfl) rfl (fun _ => rfl) ?_
 refine kr [9] ?_
 obtain ⟨x1, hx, h⟩ := bind_some h
 refine qb (AC.g9 (zj _ _ _ hx) [0] [0]) ?_
 refine kr [9] ?_
 refine qf (fun hb => ?_) (fun hb => ?_)
 ·replace h := qw hb h
  refine kr [9] ?_
  obtain ⟨x2, hx, h⟩ := bind_some h
  rcases x2 with ee | x2
  ·replace h : some (.error ee) = some r := h
   cases h
   exact zd (FC.go (zq _ _ hx) [0] [0] rfl rfl rfl rfl rfl rfl)
  refine qb (AC.g9 (zq _ _ hx) [0] [0]) ?_
  refine kr [9] ?_
  exact qz (by kernel_rfl) rfl lQ (Yj _ _ _ _ _ _ h)
 replace h := qx hb h
 refine kr [9] ?_
 exact qz (by kernel_rfl) rfl lQ (Yj _ _ _ _ _ _ h)
def wg (o0 : Reader) (o1_0 : Int) (o1_1 : BA) (o1_2 : LB) (o1_3 : LN) (o4 : Token) : Option (Except Int (Reader × BA × LB)) :=
 app 16 o1_2 ([o4.Lead]) >>= fun x5 =>
 some (.ok ((Reader.mk o0.l_ (IntKind.i64.wrap (o0.at_ + (1 : Int)))), o4.Text, x5))
@[reducible] def qa6 (o0 : Reader) (o1_0 : Int) (o1_1 : BA) (o1_2 : LB) (o1_3 : LN) (o4 : Token) (r : Except Int (Reader × BA × LB)) : Prop :=
  Ok Tryz.prog G tt 41 4 (exq (fun (r : Reader × BA × LB) => Ret Tryz.prog [] (fun y H => vd Tryz.prog G 4 H y (.tup []) ⟨5, [(0, .var 77 (Reader.cells r.1)), (1, .var 26 [(.int .i64 o1_0), (.str r.2.1), (.bs 1 2 4 0 r.2.2.length), (.bs 4 3 3 0 o1_3.length)]), (4, .row 9 (r.2.2.map sc).flatten), (3, .row 26 (o1_3.map Node.cells).flatten)]⟩)) (fun e => Jg (flt e)) r) (.go [] (v7 [15] Tryz.f73 15) [] (.n (.ptr 0 0 0) (.n (.ptr 1 1 0) .z .z) (.n .undef (.n (.ptr 4 4 0) .z .z) .z)) 6 [(0, .var 77 (Reader.cells o0)), (1, .var 26 [(.int .i64 o1_0), (.str o1_1), (.bs 1 2 5 0 o1_2.length), (.bs 4 3 3 0 o1_3.length)]), (5, .row 9 (o1_2.map sc).flatten), (3, .row 26 (o1_3.map Node.cells).flatten), (4, .var 49 (Token.cells o4))])
theorem Qu : PC6 qa6 wg := fun o0 o1_0 o1_1 o1_2 o1_3 o4 r h => by
 rw [wg.eq_def] at h
 refine kr [15] ?_
 obtain ⟨x5, hx, h⟩ := bind_some h
 have hp_x5 := qgx hx (by simp)
 refine qex (C := sc) env hx rfl rfl (by simp) (fun _ => rfl) rfl rfl rfl rfl rfl (by decide) rfl rfl rfl ?_
 refine kr [15] ?_
 cases h
 exact ji env rfl (tS [some 0, some 1, some 2, some 3] (sV (lS (lS lN)) (sV (lS (lS (lS (lS lN)))) (sR zr (sR ql q7)))) (j4 jg))
def jb (a0 : Reader) (a1 : Int) (a2 : BA) (a3 : LB) (a4 : LN) : Option (Except Int (Reader × BA × LB)) :=
 zn a0 >>= fun x1 =>
 if (!decide (x1.Kind = (1 : Int))) = true then
  jc a0 >>= fun x4 =>
  match x4 with
  | .error ee => some (.error ee)
  | .ok x4 =>
  wg a0 a1 a2 a3 a4 x1
 else
  Wq x1.Text >>= fun x2 =>
  if (!x2) = true then
   jc a0 >>= fun x3 =>
   match x3 with
   | .error ee => some (.error ee)
   | .ok x3 =>
   wg a0 a1 a2 a3 a4 x1
  else
   wg a0 a1 a2 a3 a4 x1
@[reducible] def qdt (a0 : Reader) (a1 : Int) (a2 : BA) (a3 : LB) (a4 : LN) (r : Except Int (Reader × BA × LB)) : Prop :=
  exq (fun (r : Reader × BA × LB) => AC Tryz.prog G 73 [(.ptr 0 0 0), (.ptr 1 1 0)] 4 [(0, .var 77 (Reader.cells a0)), (1, .var 26 [(.int .i64 a1), (.str a2), (.bs 1 2 2 0 a3.length), (.bs 4 3 3 0 a4.length)]), (2, .row 9 (a3.map sc).flatten), (3, .row 26 (a4.map Node.cells).flatten)] (.tup []) 5 [(0, .var 77 (Reader.cells r.1)), (1, .var 26 [(.int .i64 a1), (.str r.2.1), (.bs 1 2 4 0 r.2.2.length), (.bs 4 3 3 0 a4.length)]), (4, .row 9 (r.2.2.map sc).flatten), (3, .row 26 (a4.map Node.cells).flatten)]) (fun e => FC Tryz.prog G 73 [(.ptr 0 0 0), (.ptr 1 1 0)] 4 [(0, .var 77 (Reader.cells a0)), (1, .var 26 [(.int .i64 a1), (.str a2), (.bs 1 2 2 0 a3.length), (.bs 4 3 3 0 a4.length)]), (2, .row 9 (a3.map sc).flatten), (3, .row 26 (a4.map Node.cells).flatten)] (flt e)) r
theorem zl : PC5 qdt jb := fun a0 a1 a2 a3 a4 r h => by
 rw [jb.eq_def] at h
 refine Jw (T := tt) (N := 41) (rs := []) (fun vs w => by simp) Tryz.func73 rfl rfl rfl (by kernel_rfl) (by kernel_rfl) (zm rfl rfl (zm rfl rfl (ju zr rfl (ju ql rfl jv)))) (qj (qj (ze zr (ze ql zf)))) (fun r => (zo rfl (zo rfl (jt zr (jt ql j3))))) (fun r => (qj (qj (ze zr (ze ql zf))))) (fun _ => rfl) (fun _ => rfl) rfl (fun _ => rfl) ?_
 refine kr [15] ?_
 obtain ⟨x1, hx, h⟩ := bind_some h
 refine qb (AC.g9 (zt _ _ hx) [0] [0]) ?_
 refine kr [15] ?_
 refine qy (fun hb => ?_) (fun hb => ?_)
 ·replace h := qx hb h
  refine kr [15] ?_
  obtain ⟨x2, hx, h⟩ := bind_some h
  refine qn (qgh _ _ hx) ?_
  refine kr [15] ?_
  refine qf (fun hb => ?_) (fun hb => ?_)
  ·replace h := qw hb h
   refine kr [15] ?_
   obtain ⟨x3, hx, h⟩ := bind_some h
   rcases x3 with ee | x3
   ·replace h : some (.error ee) = some r := h
    cases h
    exact zd (FC.go (zq _ _ hx) [0] [0] rfl rfl rfl rfl rfl rfl)
   refine qb (AC.g9 (zq _ _ hx) [0] [0]) ?_
   refine kr [15] ?_
   exact qz (by kernel_rfl) rfl lQ (Qu _ _ _ _ _ _ _ h)
  replace h := qx hb h
  refine kr [15] ?_
  exact qz (by kernel_rfl) rfl lQ (Qu _ _ _ _ _ _ _ h)
 replace h := qw hb h
 refine kr [15] ?_
 obtain ⟨x4, hx, h⟩ := bind_some h
 rcases x4 with ee | x4
 ·replace h : some (.error ee) = some r := h
  cases h
  exact zd (FC.go (zq _ _ hx) [0] [0] rfl rfl rfl rfl rfl rfl)
 refine qb (AC.g9 (zq _ _ hx) [0] [0]) ?_
 refine kr [15] ?_
 exact qz (by kernel_rfl) rfl lQ (Qu _ _ _ _ _ _ _ h)
def z6 (a0 : Int) (a2 : BA) (a3 : LB) (a4 : LN) (a1 : Node) : Option LN :=
 app 72 a4 [a1] >>= fun x1 =>
 some x1
@[reducible] def ql8 (a0 : Int) (a2 : BA) (a3 : LB) (a4 : LN) (a1 : Node) (r : LN) : Prop :=
  AC Tryz.prog G 53 [(.ptr 0 0 0), (.agg (zp a1))] 3 [(0, .var 26 [(.int .i64 a0), (.str a2), (.bs 1 1 1 0 a3.length), (.bs 4 2 2 0 a4.length)]), (1, .row 9 (a3.map sc).flatten), (2, .row 26 (a4.map Node.cells).flatten)] (.tup []) 4 [(0, .var 26 [(.int .i64 a0), (.str a2), (.bs 1 1 1 0 a3.length), (.bs 4 2 3 0 r.length)]), (1, .row 9 (a3.map sc).flatten), (3, .row 26 (r.map Node.cells).flatten)]
theorem z8 : PC5 ql8 z6 := fun a0 a2 a3 a4 a1 r h => by
 rw [z6.eq_def] at h
 refine ⟨?_, (zm rfl rfl (ju zr rfl (ju ql rfl jv))), (qj (ze zr (ze ql zf))), (zo rfl (jt zr (jt ql j3))), (qj (ze zr (ze ql zf))), rfl, rfl, rfl, rfl⟩
 refine wk (T := tt) (N := 15) (rs := []) (fun vs w => by simp) Tryz.func53 rfl rfl rfl (by kernel_rfl) (by kernel_rfl) ?_
 refine kr [] ?_
 obtain ⟨x1, hx, h⟩ := bind_some h
 have hz_x1 := hx
 refine qo7 (C := Node.cells) env hx rfl rfl Node.cells_len rfl rfl rfl rfl rfl (by decide) rfl rfl rfl ?_
 refine kr [] ?_
 refine qxs env rfl rfl rfl rfl (Int.natCast_nonneg _) (qo1 hz_x1) ?_
 refine kr [] ?_
 refine qkr hz_x1 ql rfl rfl (Node.cells_eq a1).symm rfl rfl rfl ?_
 refine kr [] ?_
 cases h
 exact ji env rfl (tS [some 0, some 1, some 2] (sV (lS (lS (lS (lS lN)))) (sR zr (sR ql q7))) (j4 jg))
def ui (a0 : Reader) : Option (Except Int (Node × Reader)) :=
 jb a0 (5 : Int) (⟨#[]⟩) ([] : LB) ([] : LN) >>= fun x1 =>
 match x1 with
 | .error ee => some (.error ee)
 | .ok x1 =>
 some (.ok ((Node.mk (5 : Int) x1.2.1 x1.2.2 ([] : LN)), x1.1))
@[reducible] def qdu (a0 : Reader) (r : Except Int (Node × Reader)) : Prop :=
  exq (fun (r : Node × Reader) => AC Tryz.prog G 96 [(.ptr 0 0 0)] 1 [(0, .var 77 (Reader.cells a0))] (.agg (zp r.1)) 1 [(0, .var 77 (Reader.cells r.2))]) (fun e => FC Tryz.prog G 96 [(.ptr 0 0 0)] 1 [(0, .var 77 (Reader.cells a0))] (flt e)) r
theorem Qj : PC1 qdu ui := fun a0 r h => by
 rw [ui.eq_def] at h
 refine Jw (T := tt) (N := 8) (rs := [.cell 2 26]) (fun vs w => by simp) Tryz.func96 rfl rfl rfl (by kernel_rfl) (by kernel_rfl) (zm rfl rfl jv) (qj zf) (fun r => (zo rfl j3)) (fun r => (qj zf)) (fun _ => rfl) (fun _ => rfl) rfl (fun _ => rfl) ?_
 refine kr [] ?_
 obtain ⟨x1, hx, h⟩ := bind_some h
 rcases x1 with ee | x1
 ·replace h : some (.error ee) = some r := h
  cases h
  exact zd (FCalls.ghost (e := 9) (FCalls.ghost (e := 26) (FCalls.wkg (FC.go (objs := [(0, .var 77 (Reader.cells a0)), (1, .var 26 [(.int .i64 0), (.str ⟨#[]⟩), (.sl 0 true []), (.sl 0 true [])]), (2, .var 26 [(.int .i64 (5 : Int)), (.str ⟨#[]⟩), (.bs 1 3 3 0 ([] : LB).length), (.bs 4 4 4 0 ([] : LN).length)]), (3, .row 9 (([] : LB).map sc).flatten), (4, .row 26 (([] : LN).map Node.cells).flatten)]) (xs := [(.ptr 0 0 0), (.ptr 2 2 0)]) (zl _ _ _ _ _ _ hx) [0, 2, 3, 4] [0, 2, 3, 4] rfl rfl rfl rfl rfl rfl) (qi (qo _) (qi (qo _) je)) (qe (qe (jd (qd (qk _) (qd (qk _) (qd (zi rfl) (qd (zi rfl) jy)))) (zu _)))))))
 refine qb (ACalls.ghost (e := 9) (ACalls.ghost (e := 26) (ACalls.wkg (AC.go (objs := [(0, .var 77 (Reader.cells a0)), (1, .var 26 [(.int .i64 0), (.str ⟨#[]⟩), (.sl 0 true []), (.sl 0 true [])]), (2, .var 26 [(.int .i64 (5 : Int)), (.str ⟨#[]⟩), (.bs 1 3 3 0 ([] : LB).length), (.bs 4 4 4 0 ([] : LN).length)]), (3, .row 9 (([] : LB).map sc).flatten), (4, .row 26 (([] : LN).map Node.cells).flatten)]) (xs := [(.ptr 0 0 0), (.ptr 2 2 0)]) (zl _ _ _ _ _ _ hx) [0, 2, 3, 4] [0, 2, 3, 4] rfl rfl rfl rfl rfl rfl rfl rfl rfl) (qi (qo _) (qi (qo _) je)) (qe (qe (jd (qd (qk _) (qd (qk _) (qd (zi rfl) (qd (zi rfl) jy)))) (zu _))))))) ?_
 refine kr [] ?_
 cases h
 exact j8 env rfl rfl (tS [some 0] (sV (lS (lS lN)) q7) (yf (yr (qh (qg (zy rfl) rfl) (qh (qg (jw rfl) rfl) (qh (qg (ya zr rfl) rfl) (qh (qg (ya ql rfl) rfl) yq))))) (by simp)))
def yb (a0 : Reader) (a1 : Int) : Option (Node × Reader) :=
 zn a0 >>= fun x1 =>
 some ((Node.mk a1 x1.Text ([x1.Lead]) ([] : LN)), (Reader.mk a0.l_ (IntKind.i64.wrap (a0.at_ + (1 : Int)))))
@[reducible] def qdq (a0 : Reader) (a1 : Int) (r : Node × Reader) : Prop :=
  AC Tryz.prog G 67 [(.ptr 0 0 0), (.int .i64 a1)] 2 [(0, .var 77 (Reader.cells a0)), (1, .row 26 [])] (.agg [(.int .i64 r.1.kind), (.str r.1.text), (.sl 1 false (r.1.gaps.map sc)), (.bs 4 1 2 0 r.1.kids.length)]) 3 [(0, .var 77 (Reader.cells r.2)), (2, .row 26 (r.1.kids.map Node.cells).flatten)]
theorem kz : PC2 qdq yb := fun a0 a1 r h => by
 rw [yb.eq_def] at h
 refine ⟨?_, (zm rfl rfl (q5y rfl jv)), (qj (q56 zf)), (zo rfl (jt ql j3)), (qj (ze ql zf)), rfl, rfl, rfl, rfl⟩
 refine wk (T := tt) (N := 22) (rs := [.cell 4 26]) (fun vs w => by simp) Tryz.func67 rfl rfl rfl (by kernel_rfl) (by kernel_rfl) ?_
 refine kr [] ?_
 obtain ⟨x1, hx, h⟩ := bind_some h
 refine qb (AC.g9 (zt _ _ hx) [0] [0]) ?_
 refine kr [] ?_
 cases h
 exact j8 env rfl rfl (tS [some 0, none] (sV (lS (lS lN)) (q2e rfl rfl q7)) (yf (yr (qh (qg (zy rfl) rfl) (qh (qg (jw rfl) rfl) (qh (qg (kg (.inl rfl)) rfl) (qh (q2j rfl rfl) yq))))) (by simp)))
def Q1 (a0 : Int) (a2 : BA) (a3 : LB) (a4 : LN) (a1 : Node) : Option LN :=
 app 72 a4 [a1] >>= fun x1 =>
 some x1
@[reducible] def ql7 (a0 : Int) (a2 : BA) (a3 : LB) (a4 : LN) (a1 : Node) (r : LN) : Prop :=
  AC Tryz.prog G 53 [(.ptr 0 0 0), (.agg (zp a1))] 2 [(0, .var 26 [(.int .i64 a0), (.str a2), (.sl 1 false (a3.map sc)), (.bs 4 1 1 0 a4.length)]), (1, .row 26 (a4.map Node.cells).flatten)] (.tup []) 3 [(0, .var 26 [(.int .i64 a0), (.str a2), (.sl 1 false (a3.map sc)), (.bs 4 1 2 0 r.length)]), (2, .row 26 (r.map Node.cells).flatten)]
theorem Y9 : PC5 ql7 Q1 := fun a0 a2 a3 a4 a1 r h => by
 rw [Q1.eq_def] at h
 refine ⟨?_, (zm rfl rfl (ju ql rfl jv)), (qj (ze ql zf)), (zo rfl (jt ql j3)), (qj (ze ql zf)), rfl, rfl, rfl, rfl⟩
 refine wk (T := tt) (N := 15) (rs := []) (fun vs w => by simp) Tryz.func53 rfl rfl rfl (by kernel_rfl) (by kernel_rfl) ?_
 refine kr [] ?_
 obtain ⟨x1, hx, h⟩ := bind_some h
 have hz_x1 := hx
 refine qo7 (C := Node.cells) env hx rfl rfl Node.cells_len rfl rfl rfl rfl rfl (by decide) rfl rfl rfl ?_
 refine kr [] ?_
 refine qxs env rfl rfl rfl rfl (Int.natCast_nonneg _) (qo1 hz_x1) ?_
 refine kr [] ?_
 refine qkr hz_x1 ql rfl rfl (Node.cells_eq a1).symm rfl rfl rfl ?_
 refine kr [] ?_
 cases h
 exact ji env rfl (tS [some 0, some 1] (sV (lS (lS (lS (lS lN)))) (sR ql q7)) (j4 jg))
def y9 (o0 : Reader) (o3_0 : Int) (o3_1 : BA) (o3_2 : LB) (o3_3 : LN) : Option (Except Int (Node × Reader)) :=
 some (.ok ((Node.mk o3_0 o3_1 o3_2 o3_3), o0))
@[reducible] def W2 (o0 : Reader) (o3_0 : Int) (o3_1 : BA) (o3_2 : LB) (o3_3 : LN) (r : Except Int (Node × Reader)) : Prop :=
  Ok Tryz.prog G tt 61 1 (exq (fun (r : Node × Reader) => Ret Tryz.prog [.cell 2 26] (fun y H => vd Tryz.prog G 1 H y (.agg (zp r.1)) ⟨1, [(0, .var 77 (Reader.cells r.2))]⟩)) (fun e => Jg (flt e)) r) (.go [] (v7 [56] Tryz.f105 56) [] (.n .undef .z (.n (.ptr 1 1 0) .z (.n (.ptr 3 3 0) .z .z))) 9 [(0, .var 77 (Reader.cells o0)), (1, .var 26 [(.int .i64 0), (.str ⟨#[]⟩), (.sl 0 true []), (.sl 0 true [])]), (2, .dead), (3, .var 26 [(.int .i64 o3_0), (.str o3_1), (.bs 1 4 7 0 o3_2.length), (.bs 4 5 8 0 o3_3.length)]), (7, .row 9 (o3_2.map sc).flatten), (8, .row 26 (o3_3.map Node.cells).flatten)])
theorem Jf : PC5 W2 y9 := fun o0 o3_0 o3_1 o3_2 o3_3 r h => by
 rw [y9.eq_def] at h
 refine kr [56] ?_
 cases h
 exact j8 env rfl rfl (tS [some 0] (sV (lS (lS lN)) q7) (yf (yr (qh (qg (zy rfl) rfl) (qh (qg (jw rfl) rfl) (qh (qg (ya zr rfl) rfl) (qh (qg (ya ql rfl) rfl) yq))))) (by simp)))
def wa (o0 : Reader) (o2 : Node) : Option (Except Int (Node × Reader)) :=
 some (.ok (o2, o0))
@[reducible] def qan (o0 : Reader) (o2 : Node) (r : Except Int (Node × Reader)) : Prop :=
  Ok Tryz.prog G tt 33 1 (exq (fun (r : Node × Reader) => Ret Tryz.prog [.cell 4 26] (fun y H => vd Tryz.prog G 1 H y (.agg (zp r.1)) ⟨1, [(0, .var 77 (Reader.cells r.2))]⟩)) (fun e => Jg (flt e)) r) (.go [] (qs7 [1000000] Tryz.f31 0) [] (.n .undef (.n .undef .z (.n (.ptr 2 2 0) .z .z)) (.n .undef (.n (.ptr 1 1 0) .z .z) .z)) 8 [(0, .var 77 (Reader.cells o0)), (1, .var 26 [(.int .i64 0), (.str ⟨#[]⟩), (.sl 0 true []), (.sl 0 true [])]), (2, .var 26 (zp o2))])
theorem J0 : PC2 qan wa := fun o0 o2 r h => by
 rw [wa.eq_def] at h
 refine kr [1000000] ?_
 cases h
 exact j8 env rfl rfl (tS [some 0] (sV (lS (lS lN)) q7) (yf (yr (qh (qg (zy rfl) rfl) (qh (qg (jw rfl) rfl) (qh (qg (kg (.inl rfl)) rfl) (qh (qg (kg (.inl rfl)) rfl) yq))))) (by simp)))
mutual
def q8 (a0 : Reader) (a1 : Int) : Option (Except Int (Node × Reader)) :=
 if (decide ((5 : Int) < a1)) = true then
  yh (qa a0) >>= fun x1 =>
  match x1 with
  | .error ee => some (.error ee)
  | .ok x1 =>
  some (.ok (x1.1, x1.2))
 else
  q8 (qa a0) (IntKind.i64.wrap (a1 + (1 : Int))) >>= fun x2 =>
  match x2 with
  | .error ee => some (.error ee)
  | .ok x2 =>
  j6 (qa a1) x2.2 x2.1
 partial_fixpoint
def yh (a0 : Reader) : Option (Except Int (Node × Reader)) :=
 zg (qa a0) (⟨#[45]⟩ : BA) >>= fun x3 =>
 if x3 = true then
  yb (qa a0) (25 : Int) >>= fun x9 =>
  yh x9.2 >>= fun x10 =>
  match x10 with
  | .error ee => some (.error ee)
  | .ok x10 =>
  Q1 x9.1.kind x9.1.text x9.1.gaps x9.1.kids x10.1 >>= fun x11 =>
  some (.ok ((Node.mk x9.1.kind x9.1.text x9.1.gaps x11), x10.2))
 else
  zg (qa a0) (⟨#[33]⟩ : BA) >>= fun x4 =>
  if x4 = true then
   yb (qa a0) (25 : Int) >>= fun x5 =>
   yh x5.2 >>= fun x6 =>
   match x6 with
   | .error ee => some (.error ee)
   | .ok x6 =>
   Q1 x5.1.kind x5.1.text x5.1.gaps x5.1.kids x6.1 >>= fun x7 =>
   some (.ok ((Node.mk x5.1.kind x5.1.text x5.1.gaps x7), x6.2))
  else
   km (qa a0) >>= fun x8 =>
   match x8 with
   | .error ee => some (.error ee)
   | .ok x8 =>
   js x8.2 x8.1
 partial_fixpoint
def km (a0 : Reader) : Option (Except Int (Node × Reader)) :=
 zn (qa a0) >>= fun x12 =>
 if (decide (x12.Kind = (2 : Int))) = true then
  yb (qa a0) (17 : Int) >>= fun x13 =>
  some (.ok ((Node.mk x13.1.kind x13.1.text x13.1.gaps x13.1.kids), x13.2))
 else
  zg (qa a0) (⟨#[116, 114, 117, 101]⟩ : BA) >>= fun x14 =>
  if x14 = true then
   yb (qa a0) (18 : Int) >>= fun x15 =>
   some (.ok ((Node.mk x15.1.kind x15.1.text x15.1.gaps x15.1.kids), x15.2))
  else
   zg (qa a0) (⟨#[102, 97, 108, 115, 101]⟩ : BA) >>= fun x16 =>
   if x16 = true then
    yb (qa a0) (18 : Int) >>= fun x17 =>
    some (.ok ((Node.mk x17.1.kind x17.1.text x17.1.gaps x17.1.kids), x17.2))
   else
    zg (qa a0) (⟨#[115, 101, 108, 102]⟩ : BA) >>= fun x18 =>
    if x18 = true then
     yb (qa a0) (23 : Int) >>= fun x19 =>
     some (.ok ((Node.mk x19.1.kind x19.1.text x19.1.gaps x19.1.kids), x19.2))
    else
     zg (qa a0) (⟨#[110, 101, 119]⟩ : BA) >>= fun x20 =>
     if x20 = true then
      qm (qa a0) (22 : Int) (⟨#[]⟩) ([] : LB) ([] : LN) (⟨#[110, 101, 119]⟩ : BA) >>= fun x21 =>
      match x21 with
      | .error ee => some (.error ee)
      | .ok x21 =>
      jb x21.1 (22 : Int) (⟨#[]⟩) x21.2 ([] : LN) >>= fun x22 =>
      match x22 with
      | .error ee => some (.error ee)
      | .ok x22 =>
      qm x22.1 (22 : Int) x22.2.1 x22.2.2 ([] : LN) (⟨#[40]⟩ : BA) >>= fun x23 =>
      match x23 with
      | .error ee => some (.error ee)
      | .ok x23 =>
      qm x23.1 (22 : Int) x22.2.1 x23.2 ([] : LN) (⟨#[41]⟩ : BA) >>= fun x24 =>
      match x24 with
      | .error ee => some (.error ee)
      | .ok x24 =>
      some (.ok ((Node.mk (22 : Int) x22.2.1 x24.2 ([] : LN)), x24.1))
     else
      zg (qa a0) (⟨#[40]⟩ : BA) >>= fun x25 =>
      if x25 = true then
       qm (qa a0) (26 : Int) (⟨#[]⟩) ([] : LB) ([] : LN) (⟨#[40]⟩ : BA) >>= fun x26 =>
       match x26 with
       | .error ee => some (.error ee)
       | .ok x26 =>
       q8 x26.1 (1 : Int) >>= fun x27 =>
       match x27 with
       | .error ee => some (.error ee)
       | .ok x27 =>
       z6 (26 : Int) (⟨#[]⟩) x26.2 ([] : LN) x27.1 >>= fun x28 =>
       qm x27.2 (26 : Int) (⟨#[]⟩) x26.2 (qa x28) (⟨#[41]⟩ : BA) >>= fun x29 =>
       match x29 with
       | .error ee => some (.error ee)
       | .ok x29 =>
       some (.ok ((Node.mk (26 : Int) (⟨#[]⟩) x29.2 x28), x29.1))
      else
       jb (qa a0) (19 : Int) (⟨#[]⟩) ([] : LB) ([] : LN) >>= fun x30 =>
       match x30 with
       | .error ee => some (.error ee)
       | .ok x30 =>
       zg x30.1 (⟨#[40]⟩ : BA) >>= fun x31 =>
       if x31 = true then
        jm x30.1 (20 : Int) x30.2.1 x30.2.2 ([] : LN) >>= fun x32 =>
        match x32 with
        | .error ee => some (.error ee)
        | .ok x32 =>
        y9 x32.1 (20 : Int) x30.2.1 x32.2.1 x32.2.2
       else
        y9 x30.1 (19 : Int) x30.2.1 x30.2.2 ([] : LN)
 partial_fixpoint
def jm (a0 : Reader) (a1 : Int) (a2 : BA) (a3 : LB) (a4 : LN) : Option (Except Int (Reader × LB × LN)) :=
 qm (qa a0) (qa a1) (qa a2) (qa a3) (qa a4) (⟨#[40]⟩ : BA) >>= fun x33 =>
 match x33 with
 | .error ee => some (.error ee)
 | .ok x33 =>
 jj (qa true) x33.1 (qa a1) (qa a2) x33.2 (qa a4)
 partial_fixpoint
def j6 (t1 : Int) (o0 : Reader) (o2 : Node) : Option (Except Int (Node × Reader)) :=
 zn (qa o0) >>= fun x34 =>
 Y4 (qa x34) >>= fun x35 =>
 if (decide (x35 = t1)) = true then
  yb (qa o0) (24 : Int) >>= fun x36 =>
  Q1 x36.1.kind x36.1.text x36.1.gaps x36.1.kids (qa o2) >>= fun x37 =>
  q8 x36.2 (IntKind.i64.wrap (t1 + (1 : Int))) >>= fun x38 =>
  match x38 with
  | .error ee => some (.error ee)
  | .ok x38 =>
  Q1 x36.1.kind x36.1.text x36.1.gaps (qa x37) x38.1 >>= fun x39 =>
  if (decide (t1 = (3 : Int))) = true then
   wa x38.2 (Node.mk x36.1.kind x36.1.text x36.1.gaps x39)
  else
   j6 (qa t1) x38.2 (Node.mk x36.1.kind x36.1.text x36.1.gaps x39)
 else
  wa (qa o0) (qa o2)
 partial_fixpoint
def js (o0 : Reader) (o2 : Node) : Option (Except Int (Node × Reader)) :=
 zg (qa o0) (⟨#[46]⟩ : BA) >>= fun x40 =>
 if x40 = true then
  qm (qa o0) (21 : Int) (⟨#[]⟩) ([] : LB) ([o2] : LN) (⟨#[46]⟩ : BA) >>= fun x41 =>
  match x41 with
  | .error ee => some (.error ee)
  | .ok x41 =>
  jb x41.1 (21 : Int) (⟨#[]⟩) x41.2 ([o2] : LN) >>= fun x42 =>
  match x42 with
  | .error ee => some (.error ee)
  | .ok x42 =>
  jm x42.1 (21 : Int) x42.2.1 x42.2.2 ([o2] : LN) >>= fun x43 =>
  match x43 with
  | .error ee => some (.error ee)
  | .ok x43 =>
  js x43.1 (Node.mk (21 : Int) x42.2.1 x43.2.1 x43.2.2)
 else
  some (.ok (o2, o0))
 partial_fixpoint
def jj (t4 : Bool) (o0 : Reader) (o1_0 : Int) (o1_1 : BA) (o1_2 : LB) (o1_3 : LN) : Option (Except Int (Reader × LB × LN)) :=
 zg (qa o0) (⟨#[41]⟩ : BA) >>= fun x44 =>
 if (!x44) = true then
  if (!t4) = true then
   qm (qa o0) (qa o1_0) (qa o1_1) (qa o1_2) (qa o1_3) (⟨#[44]⟩ : BA) >>= fun x45 =>
   match x45 with
   | .error ee => some (.error ee)
   | .ok x45 =>
   ye x45.1 (qa o1_0) (qa o1_1) x45.2 (qa o1_3)
  else
   ye (qa o0) (qa o1_0) (qa o1_1) (qa o1_2) (qa o1_3)
 else
  qm (qa o0) (qa o1_0) (qa o1_1) (qa o1_2) (qa o1_3) (⟨#[41]⟩ : BA) >>= fun x46 =>
  match x46 with
  | .error ee => some (.error ee)
  | .ok x46 =>
  some (.ok (x46.1, x46.2, o1_3))
 partial_fixpoint
def ye (o0 : Reader) (o1_0 : Int) (o1_1 : BA) (o1_2 : LB) (o1_3 : LN) : Option (Except Int (Reader × LB × LN)) :=
 q8 (qa o0) (1 : Int) >>= fun x47 =>
 match x47 with
 | .error ee => some (.error ee)
 | .ok x47 =>
 z6 (qa o1_0) (qa o1_1) (qa o1_2) (qa o1_3) x47.1 >>= fun x48 =>
 jj (qa false) x47.2 (qa o1_0) (qa o1_1) (qa o1_2) (qa x48)
 partial_fixpoint
end
@[reducible] def Zl (a0 : Reader) (a1 : Int) (r : Except Int (Node × Reader)) : Prop :=
  exq (fun (r : Node × Reader) => AC Tryz.prog G 31 [(.ptr 0 0 0), (.int .i64 a1)] 1 [(0, .var 77 (Reader.cells a0))] (.agg (zp r.1)) 1 [(0, .var 77 (Reader.cells r.2))]) (fun e => FC Tryz.prog G 31 [(.ptr 0 0 0), (.int .i64 a1)] 1 [(0, .var 77 (Reader.cells a0))] (flt e)) r
@[reducible] def Zz (a0 : Reader) (r : Except Int (Node × Reader)) : Prop :=
  exq (fun (r : Node × Reader) => AC Tryz.prog G 65 [(.ptr 0 0 0)] 1 [(0, .var 77 (Reader.cells a0))] (.agg (zp r.1)) 1 [(0, .var 77 (Reader.cells r.2))]) (fun e => FC Tryz.prog G 65 [(.ptr 0 0 0)] 1 [(0, .var 77 (Reader.cells a0))] (flt e)) r
@[reducible] def Q7 (a0 : Reader) (r : Except Int (Node × Reader)) : Prop :=
  exq (fun (r : Node × Reader) => AC Tryz.prog G 105 [(.ptr 0 0 0)] 1 [(0, .var 77 (Reader.cells a0))] (.agg (zp r.1)) 1 [(0, .var 77 (Reader.cells r.2))]) (fun e => FC Tryz.prog G 105 [(.ptr 0 0 0)] 1 [(0, .var 77 (Reader.cells a0))] (flt e)) r
@[reducible] def Qo (a0 : Reader) (a1 : Int) (a2 : BA) (a3 : LB) (a4 : LN) (r : Except Int (Reader × LB × LN)) : Prop :=
  exq (fun (r : Reader × LB × LN) => AC Tryz.prog G 106 [(.ptr 0 0 0), (.ptr 1 1 0)] 4 [(0, .var 77 (Reader.cells a0)), (1, .var 26 [(.int .i64 a1), (.str a2), (.bs 1 2 2 0 a3.length), (.bs 4 3 3 0 a4.length)]), (2, .row 9 (a3.map sc).flatten), (3, .row 26 (a4.map Node.cells).flatten)] (.tup []) 6 [(0, .var 77 (Reader.cells r.1)), (1, .var 26 [(.int .i64 a1), (.str a2), (.bs 1 2 4 0 r.2.1.length), (.bs 4 3 5 0 r.2.2.length)]), (4, .row 9 (r.2.1.map sc).flatten), (5, .row 26 (r.2.2.map Node.cells).flatten)]) (fun e => FC Tryz.prog G 106 [(.ptr 0 0 0), (.ptr 1 1 0)] 4 [(0, .var 77 (Reader.cells a0)), (1, .var 26 [(.int .i64 a1), (.str a2), (.bs 1 2 2 0 a3.length), (.bs 4 3 3 0 a4.length)]), (2, .row 9 (a3.map sc).flatten), (3, .row 26 (a4.map Node.cells).flatten)] (flt e)) r
@[reducible] def Qn (t1 : Int) (o0 : Reader) (o2 : Node) (r : Except Int (Node × Reader)) : Prop :=
  Ok Tryz.prog G tt 33 1 (exq (fun (r : Node × Reader) => Ret Tryz.prog [.cell 4 26] (fun y H => vd Tryz.prog G 1 H y (.agg (zp r.1)) ⟨1, [(0, .var 77 (Reader.cells r.2))]⟩)) (fun e => Jg (flt e)) r) (.again (ud [1000000] Tryz.f31 0).1 (ud [1000000] Tryz.f31 0).2 (.n (.ptr 0 0 0) (.n (.int .i64 t1) .z (.n (.ptr 2 2 0) .z .z)) (.n .undef (.n (.ptr 1 1 0) .z .z) .z)) 3 [(0, .var 77 (Reader.cells o0)), (1, .var 26 [(.int .i64 0), (.str ⟨#[]⟩), (.sl 0 true []), (.sl 0 true [])]), (2, .var 26 (zp o2))])
@[reducible] def Qp (o0 : Reader) (o2 : Node) (r : Except Int (Node × Reader)) : Prop :=
  Ok Tryz.prog G tt 33 1 (exq (fun (r : Node × Reader) => Ret Tryz.prog [.cell 2 26] (fun y H => vd Tryz.prog G 1 H y (.agg (zp r.1)) ⟨1, [(0, .var 77 (Reader.cells r.2))]⟩)) (fun e => Jg (flt e)) r) (.again (ud [3000023] Tryz.f65 0).1 (ud [3000023] Tryz.f65 0).2 (.n (.ptr 0 0 0) .z (.n (.ptr 1 1 0) (.n (.ptr 2 2 0) .z .z) .z)) 3 [(0, .var 77 (Reader.cells o0)), (1, .var 26 [(.int .i64 0), (.str ⟨#[]⟩), (.sl 0 true []), (.sl 0 true [])]), (2, .var 26 (zp o2))])
@[reducible] def vv (t4 : Bool) (o0 : Reader) (o1_0 : Int) (o1_1 : BA) (o1_2 : LB) (o1_3 : LN) (r : Except Int (Reader × LB × LN)) : Prop :=
  Ok Tryz.prog G tt 23 4 (exq (fun (r : Reader × LB × LN) => Ret Tryz.prog [] (fun y H => vd Tryz.prog G 4 H y (.tup []) ⟨6, [(0, .var 77 (Reader.cells r.1)), (1, .var 26 [(.int .i64 o1_0), (.str o1_1), (.bs 1 2 4 0 r.2.1.length), (.bs 4 3 5 0 r.2.2.length)]), (4, .row 9 (r.2.1.map sc).flatten), (5, .row 26 (r.2.2.map Node.cells).flatten)]⟩)) (fun e => Jg (flt e)) r) (.again (ud [12] Tryz.f106 0).1 (ud [12] Tryz.f106 0).2 (.n (.ptr 0 0 0) (.n (.ptr 1 1 0) .z .z) (.n .undef (.n (.bool t4) .z .z) .z)) 7 [(0, .var 77 (Reader.cells o0)), (1, .var 26 [(.int .i64 o1_0), (.str o1_1), (.bs 1 2 5 0 o1_2.length), (.bs 4 3 6 0 o1_3.length)]), (5, .row 9 (o1_2.map sc).flatten), (6, .row 26 (o1_3.map Node.cells).flatten)])
@[reducible] def vi (o0 : Reader) (o1_0 : Int) (o1_1 : BA) (o1_2 : LB) (o1_3 : LN) (r : Except Int (Reader × LB × LN)) : Prop :=
  Ok Tryz.prog G tt 23 4 (exq (fun (r : Reader × LB × LN) => Ret Tryz.prog [] (fun y H => vd Tryz.prog G 4 H y (.tup []) ⟨6, [(0, .var 77 (Reader.cells r.1)), (1, .var 26 [(.int .i64 o1_0), (.str o1_1), (.bs 1 2 4 0 r.2.1.length), (.bs 4 3 5 0 r.2.2.length)]), (4, .row 9 (r.2.1.map sc).flatten), (5, .row 26 (r.2.2.map Node.cells).flatten)]⟩)) (fun e => Jg (flt e)) r) (.go [] (v7 [12] Tryz.f106 12) [] (.n (.ptr 0 0 0) (.n (.ptr 1 1 0) .z .z) .z) 10 [(0, .var 77 (Reader.cells o0)), (1, .var 26 [(.int .i64 o1_0), (.str o1_1), (.bs 1 2 8 0 o1_2.length), (.bs 4 3 9 0 o1_3.length)]), (8, .row 9 (o1_2.map sc).flatten), (9, .row 26 (o1_3.map Node.cells).flatten)])
theorem yc : PC2 Zl q8 ∧ PC3 Qn j6 ∧ PC1 Zz yh ∧ PC2 Qp js ∧ PC5 Qo jm ∧ PC6 vv jj ∧ PC5 vi ye ∧ PC1 Q7 km := by
 refine q8.mutual_partial_correctness Zl Qn Zz Qp Qo vv vi Q7 (fun q8 j6 yh qu uu yt a0 a1 r h => ?_) (fun q8 j6 qu uu t1 o0 o2 r h => ?_) (fun yh js km yt u0 Za a0 r h => ?_) (fun js jm u0 y7 o0 o2 r h => ?_) (fun jj wv a0 a1 a2 a3 a4 r h => ?_) (fun ye vk t4 o0 o1_0 o1_1 o1_2 o1_3 r h => ?_) (fun q8 jj qu wv o0 o1_0 o1_1 o1_2 o1_3 r h => ?_) (fun q8 jm qu y7 a0 r h => ?_)
 ·unfold qa at h
  refine Jw (T := tt) (N := 33) (rs := [.cell 4 26]) (fun vs w => by simp) Tryz.func31 rfl rfl rfl (by kernel_rfl) (by kernel_rfl) (zm rfl rfl jv) (qj zf) (fun r => (zo rfl j3)) (fun r => (qj zf)) (fun _ => rfl) (fun _ => rfl) rfl (fun _ => rfl) ?_
  refine kr [1000000] ?_
  refine qf (fun hb => ?_) (fun hb => ?_)
  ·replace h := qw hb h
   refine kr [1000000] ?_
   obtain ⟨x1, hx, h⟩ := bind_some h
   rcases x1 with ee | x1
   ·replace h : some (.error ee) = some r := h
    cases h
    exact zd (FC.go (yt _ _ hx) [0] [0] rfl rfl rfl rfl rfl rfl)
   refine qb (AC.g9 (yt _ _ hx) [0] [0]) ?_
   refine kr [1000000] ?_
   cases h
   exact j8 env rfl rfl (tS [some 0] (sV (lS (lS lN)) q7) (yf (yr (qh (qg (zy rfl) rfl) (qh (qg (jw rfl) rfl) (qh (qg (kg (.inl rfl)) rfl) (qh (qg (kg (.inl rfl)) rfl) yq))))) (by simp)))
  replace h := qx hb h
  refine kr [1000000] ?_
  obtain ⟨x2, hx, h⟩ := bind_some h
  rcases x2 with ee | x2
  ·replace h : some (.error ee) = some r := h
   cases h
   exact zd (FC.go (qu _ _ _ hx) [0] [0] rfl rfl rfl rfl rfl rfl)
  refine qb (AC.g9 (qu _ _ _ hx) [0] [0]) ?_
  refine kr [1000000] ?_
  exact wx (by kernel_rfl) lQ (uu _ _ _ _ h)
 ·unfold qa at h
  refine uy ?_
  refine kr [1000000] ?_
  obtain ⟨x34, hx, h⟩ := bind_some h
  refine qb (AC.g9 (zt _ _ hx) [0] [0]) ?_
  refine kr [1000000] ?_
  obtain ⟨x35, hx, h⟩ := bind_some h
  refine qn (qma _ _ hx) ?_
  refine kr [1000000] ?_
  refine qf (fun hb => ?_) (fun hb => ?_)
  ·replace h := qw hb h
   refine kr [1000000] ?_
   obtain ⟨x36, hx, h⟩ := bind_some h
   refine qb (ACalls.ghost (e := 26) (AC.g9 (kz _ _ _ hx) [0, 3] [0, 3])) ?_
   refine kr [1000000] ?_
   obtain ⟨x37, hx, h⟩ := bind_some h
   refine qb (AC.g9 (Y9 _ _ _ _ _ _ hx) [4, 3] [5, 4]) ?_
   refine kr [1000000] ?_
   obtain ⟨x38, hx, h⟩ := bind_some h
   rcases x38 with ee | x38
   ·replace h : some (.error ee) = some r := h
    cases h
    exact zd (FC.go (qu _ _ _ hx) [0] [0] rfl rfl rfl rfl rfl rfl)
   refine qb (AC.g9 (qu _ _ _ hx) [0] [0]) ?_
   refine kr [1000000] ?_
   obtain ⟨x39, hx, h⟩ := bind_some h
   refine qb (AC.g9 (Y9 _ _ _ _ _ _ hx) [4, 3] [5, 6]) ?_
   refine kr [1000000] ?_
   refine qf (fun hb => ?_) (fun hb => ?_)
   ·replace h := qw hb h
    refine kr [1000000] ?_
    refine Yo 2 3 3 ql rfl rfl rfl rfl rfl rfl ?_
    exact qz (by kernel_rfl) rfl lQ (J0 _ _ _ h)
   replace h := qx hb h
   refine kr [1000000] ?_
   refine qkq 2 3 3 ql rfl rfl rfl rfl rfl ?_
   exact wd (by kernel_rfl) lQ (uu _ _ _ _ h)
  replace h := qx hb h
  refine kr [1000000] ?_
  exact qz (by kernel_rfl) rfl lQ (J0 _ _ _ h)
 ·unfold qa at h
  refine Jw (T := tt) (N := 33) (rs := [.cell 2 26]) (fun vs w => by simp) Tryz.func65 rfl rfl rfl (by kernel_rfl) (by kernel_rfl) (zm rfl rfl jv) (qj zf) (fun r => (zo rfl j3)) (fun r => (qj zf)) (fun _ => rfl) (fun _ => rfl) rfl (fun _ => rfl) ?_
  refine kr [3000023] ?_
  obtain ⟨x3, hx, h⟩ := bind_some h
  refine qb (AC.g9 (zj _ _ _ hx) [0] [0]) ?_
  refine kr [3000023] ?_
  refine qy (fun hb => ?_) (fun hb => ?_)
  ·replace h := qx hb h
   refine kr [3000023] ?_
   obtain ⟨x4, hx, h⟩ := bind_some h
   refine qb (AC.g9 (zj _ _ _ hx) [0] [0]) ?_
   refine kr [3000023] ?_
   refine qf (fun hb => ?_) (fun hb => ?_)
   ·replace h := qw hb h
    refine kr [3000023] ?_
    obtain ⟨x5, hx, h⟩ := bind_some h
    refine qb (ACalls.ghost (e := 26) (AC.g9 (kz _ _ _ hx) [0, 2] [0, 2])) ?_
    refine kr [3000023] ?_
    obtain ⟨x6, hx, h⟩ := bind_some h
    rcases x6 with ee | x6
    ·replace h : some (.error ee) = some r := h
     cases h
     exact zd (FC.go (yt _ _ hx) [0] [0] rfl rfl rfl rfl rfl rfl)
    refine qb (AC.g9 (yt _ _ hx) [0] [0]) ?_
    refine kr [3000023] ?_
    obtain ⟨x7, hx, h⟩ := bind_some h
    refine qb (AC.g9 (Y9 _ _ _ _ _ _ hx) [3, 2] [4, 3]) ?_
    refine kr [3000023] ?_
    cases h
    exact j8 env rfl rfl (tS [some 0] (sV (lS (lS lN)) q7) (yf (yr (qh (qg (zy rfl) rfl) (qh (qg (jw rfl) rfl) (qh (qg (kg (.inl rfl)) rfl) (qh (qg (ya ql rfl) rfl) yq))))) (by simp)))
   replace h := qx hb h
   refine kr [3000023] ?_
   obtain ⟨x8, hx, h⟩ := bind_some h
   rcases x8 with ee | x8
   ·replace h : some (.error ee) = some r := h
    cases h
    exact zd (FC.go (Za _ _ hx) [0] [0] rfl rfl rfl rfl rfl rfl)
   refine qb (AC.g9 (Za _ _ hx) [0] [0]) ?_
   refine kr [3000023] ?_
   exact wx (by kernel_rfl) lQ (u0 _ _ _ h)
  replace h := qw hb h
  refine kr [3000023] ?_
  obtain ⟨x9, hx, h⟩ := bind_some h
  refine qb (ACalls.ghost (e := 26) (AC.g9 (kz _ _ _ hx) [0, 2] [0, 2])) ?_
  refine kr [3000023] ?_
  obtain ⟨x10, hx, h⟩ := bind_some h
  rcases x10 with ee | x10
  ·replace h : some (.error ee) = some r := h
   cases h
   exact zd (FC.go (yt _ _ hx) [0] [0] rfl rfl rfl rfl rfl rfl)
  refine qb (AC.g9 (yt _ _ hx) [0] [0]) ?_
  refine kr [3000023] ?_
  obtain ⟨x11, hx, h⟩ := bind_some h
  refine qb (AC.g9 (Y9 _ _ _ _ _ _ hx) [3, 2] [4, 3]) ?_
  refine kr [3000023] ?_
  cases h
  exact j8 env rfl rfl (tS [some 0] (sV (lS (lS lN)) q7) (yf (yr (qh (qg (zy rfl) rfl) (qh (qg (jw rfl) rfl) (qh (qg (kg (.inl rfl)) rfl) (qh (qg (ya ql rfl) rfl) yq))))) (by simp)))
 ·unfold qa at h
  refine uy ?_
  refine kr [3000023] ?_
  obtain ⟨x40, hx, h⟩ := bind_some h
  refine qb (AC.g9 (zj _ _ _ hx) [0] [0]) ?_
  refine kr [3000023] ?_
  refine qf (fun hb => ?_) (fun hb => ?_)
  ·replace h := qw hb h
   refine kr [3000023] ?_
   refine q1d (l := [o2]) (C := Node.cells) env rfl rfl rfl rfl rfl rfl (by simp only [List.map_cons, List.map_nil, Node.cells_eq]; rfl) (by simp only [List.map_cons, List.map_nil, Node.cells_eq]; rfl) rfl ?_
   refine kr [3000023] ?_
   obtain ⟨x41, hx, h⟩ := bind_some h
   rcases x41 with ee | x41
   ·replace h : some (.error ee) = some r := h
    cases h
    exact zd (FCalls.ghost (e := 9) (FCalls.wkg (FC.go (objs := [(0, .var 77 (Reader.cells o0)), (1, .var 26 [(.int .i64 0), (.str ⟨#[]⟩), (.sl 0 true []), (.sl 0 true [])]), (2, .var 26 (zp o2)), (3, .row 26 (([o2] : LN).map Node.cells).flatten), (4, .var 26 [(.int .i64 (21 : Int)), (.str ⟨#[]⟩), (.bs 1 5 5 0 ([] : LB).length), (.bs 4 3 3 0 ([o2] : LN).length)]), (5, .row 9 (([] : LB).map sc).flatten)]) (xs := [(.ptr 0 0 0), (.ptr 4 4 0), (.str (⟨#[46]⟩ : BA))]) (qc _ _ _ _ _ _ _ hx) [0, 4, 5, 3] [0, 4, 5, 3] rfl rfl rfl rfl rfl rfl) (qi (qo _) (qi (qo _) (qi (qo _) je))) (qe (qe (qe (qe (jd (qd (qk _) (qd (qk _) (qd (zi rfl) (qd (qk _) jy)))) (zu _))))))))
   refine qb (ACalls.ghost (e := 9) (ACalls.wkg (AC.go (objs := [(0, .var 77 (Reader.cells o0)), (1, .var 26 [(.int .i64 0), (.str ⟨#[]⟩), (.sl 0 true []), (.sl 0 true [])]), (2, .var 26 (zp o2)), (3, .row 26 (([o2] : LN).map Node.cells).flatten), (4, .var 26 [(.int .i64 (21 : Int)), (.str ⟨#[]⟩), (.bs 1 5 5 0 ([] : LB).length), (.bs 4 3 3 0 ([o2] : LN).length)]), (5, .row 9 (([] : LB).map sc).flatten)]) (xs := [(.ptr 0 0 0), (.ptr 4 4 0), (.str (⟨#[46]⟩ : BA))]) (qc _ _ _ _ _ _ _ hx) [0, 4, 5, 3] [0, 4, 5, 3] rfl rfl rfl rfl rfl rfl rfl rfl rfl) (qi (qo _) (qi (qo _) (qi (qo _) je))) (qe (qe (qe (qe (jd (qd (qk _) (qd (qk _) (qd (zi rfl) (qd (qk _) jy)))) (zu _)))))))) ?_
   refine kr [3000023] ?_
   obtain ⟨x42, hx, h⟩ := bind_some h
   rcases x42 with ee | x42
   ·replace h : some (.error ee) = some r := h
    cases h
    exact zd (FC.go (zl _ _ _ _ _ _ hx) [0, 4, 5, 3] [0, 4, 6, 3] rfl rfl rfl rfl rfl rfl)
   refine qb (AC.g9 (zl _ _ _ _ _ _ hx) [0, 4, 5, 3] [0, 4, 6, 3]) ?_
   refine kr [3000023] ?_
   obtain ⟨x43, hx, h⟩ := bind_some h
   rcases x43 with ee | x43
   ·replace h : some (.error ee) = some r := h
    cases h
    exact zd (FC.go (y7 _ _ _ _ _ _ hx) [0, 4, 5, 3] [0, 4, 7, 3] rfl rfl rfl rfl rfl rfl)
   refine qb (AC.g9 (y7 _ _ _ _ _ _ hx) [0, 4, 5, 3] [0, 4, 7, 3]) ?_
   refine kr [3000023] ?_
   refine qkq 2 2 5 zr rfl rfl rfl rfl rfl ?_
   refine qkq 2 3 3 ql rfl rfl rfl rfl rfl ?_
   exact wd (by kernel_rfl) lQ (u0 _ _ _ h)
  replace h := qx hb h
  refine kr [3000023] ?_
  cases h
  exact j8 env rfl rfl (tS [some 0] (sV (lS (lS lN)) q7) (yf (yr (qh (qg (zy rfl) rfl) (qh (qg (jw rfl) rfl) (qh (qg (kg (.inl rfl)) rfl) (qh (qg (kg (.inl rfl)) rfl) yq))))) (by simp)))
 ·unfold qa at h
  refine Jw (T := tt) (N := 23) (rs := []) (fun vs w => by simp) Tryz.func106 rfl rfl rfl (by kernel_rfl) (by kernel_rfl) (zm rfl rfl (zm rfl rfl (ju zr rfl (ju ql rfl jv)))) (qj (qj (ze zr (ze ql zf)))) (fun r => (zo rfl (zo rfl (jt zr (jt ql j3))))) (fun r => (qj (qj (ze zr (ze ql zf))))) (fun _ => rfl) (fun _ => rfl) rfl (fun _ => rfl) ?_
  refine kr [12] ?_
  obtain ⟨x33, hx, h⟩ := bind_some h
  rcases x33 with ee | x33
  ·replace h : some (.error ee) = some r := h
   cases h
   exact zd (FC.go (qc _ _ _ _ _ _ _ hx) [0, 1, 2, 3] [0, 1, 2, 3] rfl rfl rfl rfl rfl rfl)
  refine qb (AC.g9 (qc _ _ _ _ _ _ _ hx) [0, 1, 2, 3] [0, 1, 2, 3]) ?_
  refine kr [12] ?_
  exact wx (by kernel_rfl) lQ (wv _ _ _ _ _ _ _ h)
 ·unfold qa at h
  refine uy ?_
  refine kr [12] ?_
  obtain ⟨x44, hx, h⟩ := bind_some h
  refine qb (AC.g9 (zj _ _ _ hx) [0] [0]) ?_
  refine kr [12] ?_
  refine qf (fun hb => ?_) (fun hb => ?_)
  ·replace h := qw hb h
   refine kr [12] ?_
   refine qf (fun hb => ?_) (fun hb => ?_)
   ·replace h := qw hb h
    refine kr [12] ?_
    obtain ⟨x45, hx, h⟩ := bind_some h
    rcases x45 with ee | x45
    ·replace h : some (.error ee) = some r := h
     cases h
     exact zd (FC.go (qc _ _ _ _ _ _ _ hx) [0, 1, 2, 3] [0, 1, 5, 6] rfl rfl rfl rfl rfl rfl)
    refine qb (AC.g9 (qc _ _ _ _ _ _ _ hx) [0, 1, 2, 3] [0, 1, 5, 6]) ?_
    refine kr [12] ?_
    exact qz (by kernel_rfl) rfl lQ (vk _ _ _ _ _ _ h)
   replace h := qx hb h
   refine kr [12] ?_
   exact qz (by kernel_rfl) rfl lQ (vk _ _ _ _ _ _ h)
  replace h := qx hb h
  refine kr [12] ?_
  obtain ⟨x46, hx, h⟩ := bind_some h
  rcases x46 with ee | x46
  ·replace h : some (.error ee) = some r := h
   cases h
   exact zd (FC.go (qc _ _ _ _ _ _ _ hx) [0, 1, 2, 3] [0, 1, 5, 6] rfl rfl rfl rfl rfl rfl)
  refine qb (AC.g9 (qc _ _ _ _ _ _ _ hx) [0, 1, 2, 3] [0, 1, 5, 6]) ?_
  refine kr [12] ?_
  cases h
  exact ji env rfl (tS [some 0, some 1, some 2, some 3] (sV (lS (lS lN)) (sV (lS (lS (lS (lS lN)))) (sR zr (sR ql q7)))) (j4 jg))
 ·unfold qa at h
  refine kr [12] ?_
  obtain ⟨x47, hx, h⟩ := bind_some h
  rcases x47 with ee | x47
  ·replace h : some (.error ee) = some r := h
   cases h
   exact zd (FC.go (qu _ _ _ hx) [0] [0] rfl rfl rfl rfl rfl rfl)
  refine qb (AC.g9 (qu _ _ _ hx) [0] [0]) ?_
  refine kr [12] ?_
  obtain ⟨x48, hx, h⟩ := bind_some h
  refine qb (AC.g9 (z8 _ _ _ _ _ _ hx) [1, 2, 3] [1, 8, 9]) ?_
  refine kr [12] ?_
  exact wd (by kernel_rfl) lQ (wv _ _ _ _ _ _ _ h)
 unfold qa at h
 refine Jw (T := tt) (N := 61) (rs := [.cell 2 26]) (fun vs w => by simp) Tryz.func105 rfl rfl rfl (by kernel_rfl) (by kernel_rfl) (zm rfl rfl jv) (qj zf) (fun r => (zo rfl j3)) (fun r => (qj zf)) (fun _ => rfl) (fun _ => rfl) rfl (fun _ => rfl) ?_
 refine kr [56] ?_
 obtain ⟨x12, hx, h⟩ := bind_some h
 refine qb (AC.g9 (zt _ _ hx) [0] [0]) ?_
 refine kr [56] ?_
 refine qf (fun hb => ?_) (fun hb => ?_)
 ·replace h := qw hb h
  refine kr [56] ?_
  obtain ⟨x13, hx, h⟩ := bind_some h
  refine qb (ACalls.ghost (e := 26) (AC.g9 (kz _ _ _ hx) [0, 3] [0, 3])) ?_
  refine kr [56] ?_
  cases h
  exact j8 env rfl rfl (tS [some 0] (sV (lS (lS lN)) q7) (yf (yr (qh (qg (zy rfl) rfl) (qh (qg (jw rfl) rfl) (qh (qg (kg (.inl rfl)) rfl) (qh (qg (ya ql rfl) rfl) yq))))) (by simp)))
 replace h := qx hb h
 refine kr [56] ?_
 obtain ⟨x14, hx, h⟩ := bind_some h
 refine qb (AC.g9 (zj _ _ _ hx) [0] [0]) ?_
 refine kr [56] ?_
 refine qf (fun hb => ?_) (fun hb => ?_)
 ·replace h := qw hb h
  refine kr [56] ?_
  obtain ⟨x15, hx, h⟩ := bind_some h
  refine qb (ACalls.ghost (e := 26) (AC.g9 (kz _ _ _ hx) [0, 3] [0, 3])) ?_
  refine kr [56] ?_
  cases h
  exact j8 env rfl rfl (tS [some 0] (sV (lS (lS lN)) q7) (yf (yr (qh (qg (zy rfl) rfl) (qh (qg (jw rfl) rfl) (qh (qg (kg (.inl rfl)) rfl) (qh (qg (ya ql rfl) rfl) yq))))) (by simp)))
 replace h := qx hb h
 refine kr [56] ?_
 obtain ⟨x16, hx, h⟩ := bind_some h
 refine qb (AC.g9 (zj _ _ _ hx) [0] [0]) ?_
 refine kr [56] ?_
 refine qf (fun hb => ?_) (fun hb => ?_)
 ·replace h := qw hb h
  refine kr [56] ?_
  obtain ⟨x17, hx, h⟩ := bind_some h
  refine qb (ACalls.ghost (e := 26) (AC.g9 (kz _ _ _ hx) [0, 3] [0, 3])) ?_
  refine kr [56] ?_
  cases h
  exact j8 env rfl rfl (tS [some 0] (sV (lS (lS lN)) q7) (yf (yr (qh (qg (zy rfl) rfl) (qh (qg (jw rfl) rfl) (qh (qg (kg (.inl rfl)) rfl) (qh (qg (ya ql rfl) rfl) yq))))) (by simp)))
 replace h := qx hb h
 refine kr [56] ?_
 obtain ⟨x18, hx, h⟩ := bind_some h
 refine qb (AC.g9 (zj _ _ _ hx) [0] [0]) ?_
 refine kr [56] ?_
 refine qf (fun hb => ?_) (fun hb => ?_)
 ·replace h := qw hb h
  refine kr [56] ?_
  obtain ⟨x19, hx, h⟩ := bind_some h
  refine qb (ACalls.ghost (e := 26) (AC.g9 (kz _ _ _ hx) [0, 3] [0, 3])) ?_
  refine kr [56] ?_
  cases h
  exact j8 env rfl rfl (tS [some 0] (sV (lS (lS lN)) q7) (yf (yr (qh (qg (zy rfl) rfl) (qh (qg (jw rfl) rfl) (qh (qg (kg (.inl rfl)) rfl) (qh (qg (ya ql rfl) rfl) yq))))) (by simp)))
 replace h := qx hb h
 refine kr [56] ?_
 obtain ⟨x20, hx, h⟩ := bind_some h
 refine qb (AC.g9 (zj _ _ _ hx) [0] [0]) ?_
 refine kr [56] ?_
 refine qf (fun hb => ?_) (fun hb => ?_)
 ·replace h := qw hb h
  refine kr [56] ?_
  obtain ⟨x21, hx, h⟩ := bind_some h
  rcases x21 with ee | x21
  ·replace h : some (.error ee) = some r := h
   cases h
   exact zd (FCalls.ghost (e := 9) (FCalls.ghost (e := 26) (FCalls.wkg (FC.go (objs := [(0, .var 77 (Reader.cells a0)), (1, .var 26 [(.int .i64 0), (.str ⟨#[]⟩), (.sl 0 true []), (.sl 0 true [])]), (2, .var 49 (Token.cells x12)), (3, .var 26 [(.int .i64 (22 : Int)), (.str ⟨#[]⟩), (.bs 1 4 4 0 ([] : LB).length), (.bs 4 5 5 0 ([] : LN).length)]), (4, .row 9 (([] : LB).map sc).flatten), (5, .row 26 (([] : LN).map Node.cells).flatten)]) (xs := [(.ptr 0 0 0), (.ptr 3 3 0), (.str (⟨#[110, 101, 119]⟩ : BA))]) (qc _ _ _ _ _ _ _ hx) [0, 3, 4, 5] [0, 3, 4, 5] rfl rfl rfl rfl rfl rfl) (qi (qo _) (qi (qo _) (qi (qo _) je))) (qe (qe (qe (jd (qd (qk _) (qd (qk _) (qd (zi rfl) (qd (zi rfl) jy)))) (zu _))))))))
  refine qb (ACalls.ghost (e := 9) (ACalls.ghost (e := 26) (ACalls.wkg (AC.go (objs := [(0, .var 77 (Reader.cells a0)), (1, .var 26 [(.int .i64 0), (.str ⟨#[]⟩), (.sl 0 true []), (.sl 0 true [])]), (2, .var 49 (Token.cells x12)), (3, .var 26 [(.int .i64 (22 : Int)), (.str ⟨#[]⟩), (.bs 1 4 4 0 ([] : LB).length), (.bs 4 5 5 0 ([] : LN).length)]), (4, .row 9 (([] : LB).map sc).flatten), (5, .row 26 (([] : LN).map Node.cells).flatten)]) (xs := [(.ptr 0 0 0), (.ptr 3 3 0), (.str (⟨#[110, 101, 119]⟩ : BA))]) (qc _ _ _ _ _ _ _ hx) [0, 3, 4, 5] [0, 3, 4, 5] rfl rfl rfl rfl rfl rfl rfl rfl rfl) (qi (qo _) (qi (qo _) (qi (qo _) je))) (qe (qe (qe (jd (qd (qk _) (qd (qk _) (qd (zi rfl) (qd (zi rfl) jy)))) (zu _)))))))) ?_
  refine kr [56] ?_
  obtain ⟨x22, hx, h⟩ := bind_some h
  rcases x22 with ee | x22
  ·replace h : some (.error ee) = some r := h
   cases h
   exact zd (FC.go (zl _ _ _ _ _ _ hx) [0, 3, 4, 5] [0, 3, 6, 5] rfl rfl rfl rfl rfl rfl)
  refine qb (AC.g9 (zl _ _ _ _ _ _ hx) [0, 3, 4, 5] [0, 3, 6, 5]) ?_
  refine kr [56] ?_
  obtain ⟨x23, hx, h⟩ := bind_some h
  rcases x23 with ee | x23
  ·replace h : some (.error ee) = some r := h
   cases h
   exact zd (FC.go (qc _ _ _ _ _ _ _ hx) [0, 3, 4, 5] [0, 3, 7, 5] rfl rfl rfl rfl rfl rfl)
  refine qb (AC.g9 (qc _ _ _ _ _ _ _ hx) [0, 3, 4, 5] [0, 3, 7, 5]) ?_
  refine kr [56] ?_
  obtain ⟨x24, hx, h⟩ := bind_some h
  rcases x24 with ee | x24
  ·replace h : some (.error ee) = some r := h
   cases h
   exact zd (FC.go (qc _ _ _ _ _ _ _ hx) [0, 3, 4, 5] [0, 3, 8, 5] rfl rfl rfl rfl rfl rfl)
  refine qb (AC.g9 (qc _ _ _ _ _ _ _ hx) [0, 3, 4, 5] [0, 3, 8, 5]) ?_
  refine kr [56] ?_
  cases h
  exact j8 env rfl rfl (tS [some 0] (sV (lS (lS lN)) q7) (yf (yr (qh (qg (zy rfl) rfl) (qh (qg (jw rfl) rfl) (qh (qg (ya zr rfl) rfl) (qh (qg (ya ql rfl) rfl) yq))))) (by simp)))
 replace h := qx hb h
 refine kr [56] ?_
 obtain ⟨x25, hx, h⟩ := bind_some h
 refine qb (AC.g9 (zj _ _ _ hx) [0] [0]) ?_
 refine kr [56] ?_
 refine qf (fun hb => ?_) (fun hb => ?_)
 ·replace h := qw hb h
  refine kr [56] ?_
  obtain ⟨x26, hx, h⟩ := bind_some h
  rcases x26 with ee | x26
  ·replace h : some (.error ee) = some r := h
   cases h
   exact zd (FCalls.ghost (e := 9) (FCalls.ghost (e := 26) (FCalls.wkg (FC.go (objs := [(0, .var 77 (Reader.cells a0)), (1, .var 26 [(.int .i64 0), (.str ⟨#[]⟩), (.sl 0 true []), (.sl 0 true [])]), (2, .var 49 (Token.cells x12)), (3, .var 26 [(.int .i64 (26 : Int)), (.str ⟨#[]⟩), (.bs 1 4 4 0 ([] : LB).length), (.bs 4 5 5 0 ([] : LN).length)]), (4, .row 9 (([] : LB).map sc).flatten), (5, .row 26 (([] : LN).map Node.cells).flatten)]) (xs := [(.ptr 0 0 0), (.ptr 3 3 0), (.str (⟨#[40]⟩ : BA))]) (qc _ _ _ _ _ _ _ hx) [0, 3, 4, 5] [0, 3, 4, 5] rfl rfl rfl rfl rfl rfl) (qi (qo _) (qi (qo _) (qi (qo _) je))) (qe (qe (qe (jd (qd (qk _) (qd (qk _) (qd (zi rfl) (qd (zi rfl) jy)))) (zu _))))))))
  refine qb (ACalls.ghost (e := 9) (ACalls.ghost (e := 26) (ACalls.wkg (AC.go (objs := [(0, .var 77 (Reader.cells a0)), (1, .var 26 [(.int .i64 0), (.str ⟨#[]⟩), (.sl 0 true []), (.sl 0 true [])]), (2, .var 49 (Token.cells x12)), (3, .var 26 [(.int .i64 (26 : Int)), (.str ⟨#[]⟩), (.bs 1 4 4 0 ([] : LB).length), (.bs 4 5 5 0 ([] : LN).length)]), (4, .row 9 (([] : LB).map sc).flatten), (5, .row 26 (([] : LN).map Node.cells).flatten)]) (xs := [(.ptr 0 0 0), (.ptr 3 3 0), (.str (⟨#[40]⟩ : BA))]) (qc _ _ _ _ _ _ _ hx) [0, 3, 4, 5] [0, 3, 4, 5] rfl rfl rfl rfl rfl rfl rfl rfl rfl) (qi (qo _) (qi (qo _) (qi (qo _) je))) (qe (qe (qe (jd (qd (qk _) (qd (qk _) (qd (zi rfl) (qd (zi rfl) jy)))) (zu _)))))))) ?_
  refine kr [56] ?_
  obtain ⟨x27, hx, h⟩ := bind_some h
  rcases x27 with ee | x27
  ·replace h : some (.error ee) = some r := h
   cases h
   exact zd (FC.go (qu _ _ _ hx) [0] [0] rfl rfl rfl rfl rfl rfl)
  refine qb (AC.g9 (qu _ _ _ hx) [0] [0]) ?_
  refine kr [56] ?_
  obtain ⟨x28, hx, h⟩ := bind_some h
  refine qb (AC.g9 (z8 _ _ _ _ _ _ hx) [3, 4, 5] [3, 6, 5]) ?_
  refine kr [56] ?_
  obtain ⟨x29, hx, h⟩ := bind_some h
  rcases x29 with ee | x29
  ·replace h : some (.error ee) = some r := h
   cases h
   exact zd (FC.go (qc _ _ _ _ _ _ _ hx) [0, 3, 4, 5] [0, 3, 6, 7] rfl rfl rfl rfl rfl rfl)
  refine qb (AC.g9 (qc _ _ _ _ _ _ _ hx) [0, 3, 4, 5] [0, 3, 6, 7]) ?_
  refine kr [56] ?_
  cases h
  exact j8 env rfl rfl (tS [some 0] (sV (lS (lS lN)) q7) (yf (yr (qh (qg (zy rfl) rfl) (qh (qg (jw rfl) rfl) (qh (qg (ya zr rfl) rfl) (qh (qg (ya ql rfl) rfl) yq))))) (by simp)))
 replace h := qx hb h
 refine kr [56] ?_
 obtain ⟨x30, hx, h⟩ := bind_some h
 rcases x30 with ee | x30
 ·replace h : some (.error ee) = some r := h
  cases h
  exact zd (FCalls.ghost (e := 9) (FCalls.ghost (e := 26) (FCalls.wkg (FC.go (objs := [(0, .var 77 (Reader.cells a0)), (1, .var 26 [(.int .i64 0), (.str ⟨#[]⟩), (.sl 0 true []), (.sl 0 true [])]), (2, .var 49 (Token.cells x12)), (3, .var 26 [(.int .i64 (19 : Int)), (.str ⟨#[]⟩), (.bs 1 4 4 0 ([] : LB).length), (.bs 4 5 5 0 ([] : LN).length)]), (4, .row 9 (([] : LB).map sc).flatten), (5, .row 26 (([] : LN).map Node.cells).flatten)]) (xs := [(.ptr 0 0 0), (.ptr 3 3 0)]) (zl _ _ _ _ _ _ hx) [0, 3, 4, 5] [0, 3, 4, 5] rfl rfl rfl rfl rfl rfl) (qi (qo _) (qi (qo _) je)) (qe (qe (qe (jd (qd (qk _) (qd (qk _) (qd (zi rfl) (qd (zi rfl) jy)))) (zu _))))))))
 refine qb (ACalls.ghost (e := 9) (ACalls.ghost (e := 26) (ACalls.wkg (AC.go (objs := [(0, .var 77 (Reader.cells a0)), (1, .var 26 [(.int .i64 0), (.str ⟨#[]⟩), (.sl 0 true []), (.sl 0 true [])]), (2, .var 49 (Token.cells x12)), (3, .var 26 [(.int .i64 (19 : Int)), (.str ⟨#[]⟩), (.bs 1 4 4 0 ([] : LB).length), (.bs 4 5 5 0 ([] : LN).length)]), (4, .row 9 (([] : LB).map sc).flatten), (5, .row 26 (([] : LN).map Node.cells).flatten)]) (xs := [(.ptr 0 0 0), (.ptr 3 3 0)]) (zl _ _ _ _ _ _ hx) [0, 3, 4, 5] [0, 3, 4, 5] rfl rfl rfl rfl rfl rfl rfl rfl rfl) (qi (qo _) (qi (qo _) je)) (qe (qe (qe (jd (qd (qk _) (qd (qk _) (qd (zi rfl) (qd (zi rfl) jy)))) (zu _)))))))) ?_
 refine kr [56] ?_
 obtain ⟨x31, hx, h⟩ := bind_some h
 refine qb (AC.g9 (zj _ _ _ hx) [0] [0]) ?_
 refine kr [56] ?_
 refine qf (fun hb => ?_) (fun hb => ?_)
 ·replace h := qw hb h
  refine kr [56] ?_
  obtain ⟨x32, hx, h⟩ := bind_some h
  rcases x32 with ee | x32
  ·replace h : some (.error ee) = some r := h
   cases h
   exact zd (FC.go (y7 _ _ _ _ _ _ hx) [0, 3, 4, 5] [0, 3, 6, 5] rfl rfl rfl rfl rfl rfl)
  refine qb (AC.g9 (y7 _ _ _ _ _ _ hx) [0, 3, 4, 5] [0, 3, 6, 5]) ?_
  refine kr [56] ?_
  exact qz (by kernel_rfl) rfl lQ (Jf _ _ _ _ _ _ h)
 replace h := qx hb h
 refine kr [56] ?_
 exact qz (by kernel_rfl) rfl lQ (Jf _ _ _ _ _ _ h)
theorem qu : PC2 Zl q8 := yc.1
theorem uu : PC3 Qn j6 := yc.2.1
theorem yt : PC1 Zz yh := yc.2.2.1
theorem u0 : PC2 Qp js := yc.2.2.2.1
theorem y7 : PC5 Qo jm := yc.2.2.2.2.1
theorem wv : PC6 vv jj := yc.2.2.2.2.2.1
theorem vk : PC5 vi ye := yc.2.2.2.2.2.2.1
theorem Za : PC1 Q7 km := yc.2.2.2.2.2.2.2
def ue (a0 : Reader) (a1 : Int) (a2 : BA) : Option (Except Int (Node × Reader)) :=
 qm a0 a1 (⟨#[]⟩) ([] : LB) ([] : LN) a2 >>= fun x1 =>
 match x1 with
 | .error ee => some (.error ee)
 | .ok x1 =>
 jb x1.1 a1 (⟨#[]⟩) x1.2 ([] : LN) >>= fun x2 =>
 match x2 with
 | .error ee => some (.error ee)
 | .ok x2 =>
 qm x2.1 a1 x2.2.1 x2.2.2 ([] : LN) (⟨#[61]⟩ : BA) >>= fun x3 =>
 match x3 with
 | .error ee => some (.error ee)
 | .ok x3 =>
 q8 x3.1 (1 : Int) >>= fun x4 =>
 match x4 with
 | .error ee => some (.error ee)
 | .ok x4 =>
 z6 a1 x2.2.1 x3.2 ([] : LN) x4.1 >>= fun x5 =>
 qm x4.2 a1 x2.2.1 x3.2 x5 (⟨#[59]⟩ : BA) >>= fun x6 =>
 match x6 with
 | .error ee => some (.error ee)
 | .ok x6 =>
 some (.ok ((Node.mk a1 x2.2.1 x6.2 x5), x6.1))
@[reducible] def qct (a0 : Reader) (a1 : Int) (a2 : BA) (r : Except Int (Node × Reader)) : Prop :=
  exq (fun (r : Node × Reader) => AC Tryz.prog G 56 [(.ptr 0 0 0), (.int .i64 a1), (.str a2)] 1 [(0, .var 77 (Reader.cells a0))] (.agg (zp r.1)) 1 [(0, .var 77 (Reader.cells r.2))]) (fun e => FC Tryz.prog G 56 [(.ptr 0 0 0), (.int .i64 a1), (.str a2)] 1 [(0, .var 77 (Reader.cells a0))] (flt e)) r
theorem Qc : PC3 qct ue := fun a0 a1 a2 r h => by
 rw [ue.eq_def] at h
 refine Jw (T := tt) (N := 23) (rs := [.cell 6 26]) (fun vs w => by simp) Tryz.func56 rfl rfl rfl (by kernel_rfl) (by kernel_rfl) (zm rfl rfl jv) (qj zf) (fun r => (zo rfl j3)) (fun r => (qj zf)) (fun _ => rfl) (fun _ => rfl) rfl (fun _ => rfl) ?_
 refine kr [] ?_
 obtain ⟨x1, hx, h⟩ := bind_some h
 rcases x1 with ee | x1
 ·replace h : some (.error ee) = some r := h
  cases h
  exact zd (FCalls.ghost (e := 9) (FCalls.ghost (e := 26) (FCalls.wkg (FC.go (objs := [(0, .var 77 (Reader.cells a0)), (1, .var 26 [(.int .i64 0), (.str ⟨#[]⟩), (.sl 0 true []), (.sl 0 true [])]), (2, .var 26 [(.int .i64 a1), (.str ⟨#[]⟩), (.bs 1 3 3 0 ([] : LB).length), (.bs 4 4 4 0 ([] : LN).length)]), (3, .row 9 (([] : LB).map sc).flatten), (4, .row 26 (([] : LN).map Node.cells).flatten)]) (xs := [(.ptr 0 0 0), (.ptr 2 2 0), (.str a2)]) (qc _ _ _ _ _ _ _ hx) [0, 2, 3, 4] [0, 2, 3, 4] rfl rfl rfl rfl rfl rfl) (qi (qo _) (qi (qo _) (qi (qo _) je))) (qe (qe (jd (qd (qk _) (qd (qk _) (qd (zi rfl) (qd (zi rfl) jy)))) (zu _)))))))
 refine qb (ACalls.ghost (e := 9) (ACalls.ghost (e := 26) (ACalls.wkg (AC.go (objs := [(0, .var 77 (Reader.cells a0)), (1, .var 26 [(.int .i64 0), (.str ⟨#[]⟩), (.sl 0 true []), (.sl 0 true [])]), (2, .var 26 [(.int .i64 a1), (.str ⟨#[]⟩), (.bs 1 3 3 0 ([] : LB).length), (.bs 4 4 4 0 ([] : LN).length)]), (3, .row 9 (([] : LB).map sc).flatten), (4, .row 26 (([] : LN).map Node.cells).flatten)]) (xs := [(.ptr 0 0 0), (.ptr 2 2 0), (.str a2)]) (qc _ _ _ _ _ _ _ hx) [0, 2, 3, 4] [0, 2, 3, 4] rfl rfl rfl rfl rfl rfl rfl rfl rfl) (qi (qo _) (qi (qo _) (qi (qo _) je))) (qe (qe (jd (qd (qk _) (qd (qk _) (qd (zi rfl) (qd (zi rfl) jy)))) (zu _))))))) ?_
 refine kr [] ?_
 obtain ⟨x2, hx, h⟩ := bind_some h
 rcases x2 with ee | x2
 ·replace h : some (.error ee) = some r := h
  cases h
  exact zd (FC.go (zl _ _ _ _ _ _ hx) [0, 2, 3, 4] [0, 2, 5, 4] rfl rfl rfl rfl rfl rfl)
 refine qb (AC.g9 (zl _ _ _ _ _ _ hx) [0, 2, 3, 4] [0, 2, 5, 4]) ?_
 refine kr [] ?_
 obtain ⟨x3, hx, h⟩ := bind_some h
 rcases x3 with ee | x3
 ·replace h : some (.error ee) = some r := h
  cases h
  exact zd (FC.go (qc _ _ _ _ _ _ _ hx) [0, 2, 3, 4] [0, 2, 6, 4] rfl rfl rfl rfl rfl rfl)
 refine qb (AC.g9 (qc _ _ _ _ _ _ _ hx) [0, 2, 3, 4] [0, 2, 6, 4]) ?_
 refine kr [] ?_
 obtain ⟨x4, hx, h⟩ := bind_some h
 rcases x4 with ee | x4
 ·replace h : some (.error ee) = some r := h
  cases h
  exact zd (FC.go (qu _ _ _ hx) [0] [0] rfl rfl rfl rfl rfl rfl)
 refine qb (AC.g9 (qu _ _ _ hx) [0] [0]) ?_
 refine kr [] ?_
 obtain ⟨x5, hx, h⟩ := bind_some h
 refine qb (AC.g9 (z8 _ _ _ _ _ _ hx) [2, 3, 4] [2, 7, 4]) ?_
 refine kr [] ?_
 obtain ⟨x6, hx, h⟩ := bind_some h
 rcases x6 with ee | x6
 ·replace h : some (.error ee) = some r := h
  cases h
  exact zd (FC.go (qc _ _ _ _ _ _ _ hx) [0, 2, 3, 4] [0, 2, 7, 8] rfl rfl rfl rfl rfl rfl)
 refine qb (AC.g9 (qc _ _ _ _ _ _ _ hx) [0, 2, 3, 4] [0, 2, 7, 8]) ?_
 refine kr [] ?_
 cases h
 exact j8 env rfl rfl (tS [some 0] (sV (lS (lS lN)) q7) (yf (yr (qh (qg (zy rfl) rfl) (qh (qg (jw rfl) rfl) (qh (qg (ya zr rfl) rfl) (qh (qg (ya ql rfl) rfl) yq))))) (by simp)))
def yv (o0 : Reader) (o2_0 : Int) (o2_1 : BA) (o2_2 : LB) (o2_3 : LN) (o5 : Node) : Option (Except Int (Node × Reader)) :=
 z6 o2_0 o2_1 o2_2 o2_3 o5 >>= fun x37 =>
 some (.ok ((Node.mk o2_0 o2_1 o2_2 x37), o0))
@[reducible] def Wg (o0 : Reader) (o2_0 : Int) (o2_1 : BA) (o2_2 : LB) (o2_3 : LN) (o5 : Node) (r : Except Int (Node × Reader)) : Prop :=
  Ok Tryz.prog G tt 106 1 (exq (fun (r : Node × Reader) => Ret Tryz.prog [.cell 2 26] (fun y H => vd Tryz.prog G 1 H y (.agg (zp r.1)) ⟨1, [(0, .var 77 (Reader.cells r.2))]⟩)) (fun e => Jg (flt e)) r) (.go [] (v7 [41, 87] Tryz.f34 41) [] (.n .undef (.n .undef .z (.n (.ptr 5 8 0) .z .z)) (.n (.ptr 1 1 0) (.n (.ptr 2 2 0) .z .z) .z)) 13 [(0, .var 77 (Reader.cells o0)), (1, .var 26 [(.int .i64 0), (.str ⟨#[]⟩), (.sl 0 true []), (.sl 0 true [])]), (2, .var 26 [(.int .i64 o2_0), (.str o2_1), (.bs 1 3 5 0 o2_2.length), (.bs 4 4 7 0 o2_3.length)]), (5, .row 9 (o2_2.map sc).flatten), (7, .row 26 (o2_3.map Node.cells).flatten), (8, .var 26 (zp o5))])
theorem Zs : PC6 Wg yv := fun o0 o2_0 o2_1 o2_2 o2_3 o5 r h => by
 rw [yv.eq_def] at h
 refine kr [41, 87] ?_
 obtain ⟨x37, hx, h⟩ := bind_some h
 refine qb (AC.g9 (z8 _ _ _ _ _ _ hx) [2, 3, 4] [2, 5, 7]) ?_
 refine kr [41, 87] ?_
 cases h
 exact j8 env rfl rfl (tS [some 0] (sV (lS (lS lN)) q7) (yf (yr (qh (qg (zy rfl) rfl) (qh (qg (jw rfl) rfl) (qh (qg (ya zr rfl) rfl) (qh (qg (ya ql rfl) rfl) yq))))) (by simp)))
def yd (o0 : Reader) : Option (Except Int (Node × Reader)) :=
 q8 o0 (1 : Int) >>= fun x38 =>
 match x38 with
 | .error ee => some (.error ee)
 | .ok x38 =>
 z6 (16 : Int) (⟨#[]⟩) ([] : LB) ([] : LN) x38.1 >>= fun x39 =>
 qm x38.2 (16 : Int) (⟨#[]⟩) ([] : LB) x39 (⟨#[59]⟩ : BA) >>= fun x40 =>
 match x40 with
 | .error ee => some (.error ee)
 | .ok x40 =>
 some (.ok ((Node.mk (16 : Int) (⟨#[]⟩) x40.2 x39), x40.1))
@[reducible] def We (o0 : Reader) (r : Except Int (Node × Reader)) : Prop :=
  Ok Tryz.prog G tt 106 1 (exq (fun (r : Node × Reader) => Ret Tryz.prog [.cell 2 26] (fun y H => vd Tryz.prog G 1 H y (.agg (zp r.1)) ⟨1, [(0, .var 77 (Reader.cells r.2))]⟩)) (fun e => Jg (flt e)) r) (.go [] (v7 [41, 87] Tryz.f34 87) [] (.n (.ptr 0 0 0) .z (.n (.ptr 1 1 0) .z .z)) 3 [(0, .var 77 (Reader.cells o0)), (1, .var 26 [(.int .i64 0), (.str ⟨#[]⟩), (.sl 0 true []), (.sl 0 true [])])])
theorem vj : PC1 We yd := fun o0 r h => by
 rw [yd.eq_def] at h
 refine kr [41, 87] ?_
 obtain ⟨x38, hx, h⟩ := bind_some h
 rcases x38 with ee | x38
 ·replace h : some (.error ee) = some r := h
  cases h
  exact zd (FC.go (qu _ _ _ hx) [0] [0] rfl rfl rfl rfl rfl rfl)
 refine qb (AC.g9 (qu _ _ _ hx) [0] [0]) ?_
 refine kr [41, 87] ?_
 obtain ⟨x39, hx, h⟩ := bind_some h
 refine qb (ACalls.ghost (e := 9) (ACalls.ghost (e := 26) (ACalls.wkg (AC.go (objs := [(0, .var 77 (Reader.cells x38.2)), (1, .var 26 [(.int .i64 0), (.str ⟨#[]⟩), (.sl 0 true []), (.sl 0 true [])]), (3, .var 26 [(.int .i64 (16 : Int)), (.str ⟨#[]⟩), (.bs 1 3 4 0 ([] : LB).length), (.bs 4 4 5 0 ([] : LN).length)]), (4, .row 9 (([] : LB).map sc).flatten), (5, .row 26 (([] : LN).map Node.cells).flatten)]) (xs := [(.ptr 2 3 0), (.agg (zp x38.1))]) (z8 _ _ _ _ _ _ hx) [2, 3, 4] [3, 4, 5] rfl rfl rfl rfl rfl rfl rfl rfl rfl) (qi (qo _) (qi (qo _) je)) (qe (qe (jd (qd (qk _) (qd (qk _) (qd (zi rfl) (qd (zi rfl) jy)))) (zu _))))))) ?_
 refine kr [41, 87] ?_
 obtain ⟨x40, hx, h⟩ := bind_some h
 rcases x40 with ee | x40
 ·replace h : some (.error ee) = some r := h
  cases h
  exact zd (FC.go (qc _ _ _ _ _ _ _ hx) [0, 2, 3, 4] [0, 3, 4, 6] rfl rfl rfl rfl rfl rfl)
 refine qb (AC.g9 (qc _ _ _ _ _ _ _ hx) [0, 2, 3, 4] [0, 3, 4, 6]) ?_
 refine kr [41, 87] ?_
 cases h
 exact j8 env rfl rfl (tS [some 0] (sV (lS (lS lN)) q7) (yf (yr (qh (qg (zy rfl) rfl) (qh (qg (jw rfl) rfl) (qh (qg (ya zr rfl) rfl) (qh (qg (ya ql rfl) rfl) yq))))) (by simp)))
mutual
def jh (a0 : Reader) : Option (Except Int (Node × Reader)) :=
 qm (qa a0) (6 : Int) (⟨#[]⟩) ([] : LB) ([] : LN) (⟨#[123]⟩ : BA) >>= fun x1 =>
 match x1 with
 | .error ee => some (.error ee)
 | .ok x1 =>
 j9 x1.1 (6 : Int) (⟨#[]⟩) x1.2 ([] : LN)
 partial_fixpoint
def j5 (a0 : Reader) : Option (Except Int (Node × Reader)) :=
 zg (qa a0) (⟨#[108, 101, 116]⟩ : BA) >>= fun x2 =>
 if x2 = true then
  ue (qa a0) (10 : Int) (⟨#[108, 101, 116]⟩ : BA) >>= fun x3 =>
  match x3 with
  | .error ee => some (.error ee)
  | .ok x3 =>
  some (.ok (x3.1, x3.2))
 else
  zg (qa a0) (⟨#[114, 101, 116, 117, 114, 110]⟩ : BA) >>= fun x4 =>
  if x4 = true then
   qm (qa a0) (12 : Int) (⟨#[]⟩) ([] : LB) ([] : LN) (⟨#[114, 101, 116, 117, 114, 110]⟩ : BA) >>= fun x5 =>
   match x5 with
   | .error ee => some (.error ee)
   | .ok x5 =>
   q8 x5.1 (1 : Int) >>= fun x6 =>
   match x6 with
   | .error ee => some (.error ee)
   | .ok x6 =>
   z6 (12 : Int) (⟨#[]⟩) x5.2 ([] : LN) x6.1 >>= fun x7 =>
   qm x6.2 (12 : Int) (⟨#[]⟩) x5.2 (qa x7) (⟨#[59]⟩ : BA) >>= fun x8 =>
   match x8 with
   | .error ee => some (.error ee)
   | .ok x8 =>
   some (.ok ((Node.mk (12 : Int) (⟨#[]⟩) x8.2 x7), x8.1))
  else
   zg (qa a0) (⟨#[105, 102]⟩ : BA) >>= fun x9 =>
   if x9 = true then
    qm (qa a0) (13 : Int) (⟨#[]⟩) ([] : LB) ([] : LN) (⟨#[105, 102]⟩ : BA) >>= fun x10 =>
    match x10 with
    | .error ee => some (.error ee)
    | .ok x10 =>
    q8 x10.1 (1 : Int) >>= fun x11 =>
    match x11 with
    | .error ee => some (.error ee)
    | .ok x11 =>
    z6 (13 : Int) (⟨#[]⟩) x10.2 ([] : LN) x11.1 >>= fun x12 =>
    jh x11.2 >>= fun x13 =>
    match x13 with
    | .error ee => some (.error ee)
    | .ok x13 =>
    z6 (13 : Int) (⟨#[]⟩) x10.2 (qa x12) x13.1 >>= fun x14 =>
    zg x13.2 (⟨#[101, 108, 115, 101]⟩ : BA) >>= fun x15 =>
    if x15 = true then
     qm x13.2 (14 : Int) (⟨#[]⟩) ([] : LB) ([] : LN) (⟨#[101, 108, 115, 101]⟩ : BA) >>= fun x16 =>
     match x16 with
     | .error ee => some (.error ee)
     | .ok x16 =>
     jh x16.1 >>= fun x17 =>
     match x17 with
     | .error ee => some (.error ee)
     | .ok x17 =>
     z6 (14 : Int) (⟨#[]⟩) x16.2 ([] : LN) x17.1 >>= fun x18 =>
     yv x17.2 (13 : Int) (⟨#[]⟩) x10.2 (qa x14) (Node.mk (14 : Int) (⟨#[]⟩) x16.2 x18)
    else
     yv x13.2 (13 : Int) (⟨#[]⟩) x10.2 (qa x14) (Node.mk (14 : Int) (⟨#[]⟩) ([] : LB) ([] : LN))
   else
    zg (qa a0) (⟨#[119, 104, 105, 108, 101]⟩ : BA) >>= fun x19 =>
    if x19 = true then
     qm (qa a0) (15 : Int) (⟨#[]⟩) ([] : LB) ([] : LN) (⟨#[119, 104, 105, 108, 101]⟩ : BA) >>= fun x20 =>
     match x20 with
     | .error ee => some (.error ee)
     | .ok x20 =>
     q8 x20.1 (1 : Int) >>= fun x21 =>
     match x21 with
     | .error ee => some (.error ee)
     | .ok x21 =>
     z6 (15 : Int) (⟨#[]⟩) x20.2 ([] : LN) x21.1 >>= fun x22 =>
     jh x21.2 >>= fun x23 =>
     match x23 with
     | .error ee => some (.error ee)
     | .ok x23 =>
     z6 (15 : Int) (⟨#[]⟩) x20.2 (qa x22) x23.1 >>= fun x24 =>
     some (.ok ((Node.mk (15 : Int) (⟨#[]⟩) x20.2 x24), x23.2))
    else
     zn (qa a0) >>= fun x25 =>
     if (decide (x25.Kind = (1 : Int))) = true then
      Wq x25.Text >>= fun x26 =>
      if x26 = true then
       ix a0.l_ (IntKind.i64.wrap (a0.at_ + (1 : Int))) >>= fun x27 =>
       if (decide (x27.Text = (⟨#[61]⟩ : BA))) = true then
        jb (qa a0) (11 : Int) (⟨#[]⟩) ([] : LB) ([] : LN) >>= fun x28 =>
        match x28 with
        | .error ee => some (.error ee)
        | .ok x28 =>
        qm x28.1 (11 : Int) x28.2.1 x28.2.2 ([] : LN) (⟨#[61]⟩ : BA) >>= fun x29 =>
        match x29 with
        | .error ee => some (.error ee)
        | .ok x29 =>
        q8 x29.1 (1 : Int) >>= fun x30 =>
        match x30 with
        | .error ee => some (.error ee)
        | .ok x30 =>
        z6 (11 : Int) x28.2.1 x29.2 ([] : LN) x30.1 >>= fun x31 =>
        qm x30.2 (11 : Int) x28.2.1 x29.2 (qa x31) (⟨#[59]⟩ : BA) >>= fun x32 =>
        match x32 with
        | .error ee => some (.error ee)
        | .ok x32 =>
        some (.ok ((Node.mk (11 : Int) x28.2.1 x32.2 x31), x32.1))
       else
        yd (qa a0)
      else
       yd (qa a0)
     else
      yd (qa a0)
 partial_fixpoint
def j9 (o0 : Reader) (o2_0 : Int) (o2_1 : BA) (o2_2 : LB) (o2_3 : LN) : Option (Except Int (Node × Reader)) :=
 zg (qa o0) (⟨#[125]⟩ : BA) >>= fun x33 =>
 if (!x33) = true then
  j5 (qa o0) >>= fun x34 =>
  match x34 with
  | .error ee => some (.error ee)
  | .ok x34 =>
  z6 (qa o2_0) (qa o2_1) (qa o2_2) (qa o2_3) x34.1 >>= fun x35 =>
  j9 x34.2 (qa o2_0) (qa o2_1) (qa o2_2) (qa x35)
 else
  qm (qa o0) (qa o2_0) (qa o2_1) (qa o2_2) (qa o2_3) (⟨#[125]⟩ : BA) >>= fun x36 =>
  match x36 with
  | .error ee => some (.error ee)
  | .ok x36 =>
  some (.ok ((Node.mk o2_0 o2_1 x36.2 o2_3), x36.1))
 partial_fixpoint
end
@[reducible] def Z1 (a0 : Reader) (r : Except Int (Node × Reader)) : Prop :=
  exq (fun (r : Node × Reader) => AC Tryz.prog G 71 [(.ptr 0 0 0)] 1 [(0, .var 77 (Reader.cells a0))] (.agg (zp r.1)) 1 [(0, .var 77 (Reader.cells r.2))]) (fun e => FC Tryz.prog G 71 [(.ptr 0 0 0)] 1 [(0, .var 77 (Reader.cells a0))] (flt e)) r
@[reducible] def Qm (a0 : Reader) (r : Except Int (Node × Reader)) : Prop :=
  exq (fun (r : Node × Reader) => AC Tryz.prog G 34 [(.ptr 0 0 0)] 1 [(0, .var 77 (Reader.cells a0))] (.agg (zp r.1)) 1 [(0, .var 77 (Reader.cells r.2))]) (fun e => FC Tryz.prog G 34 [(.ptr 0 0 0)] 1 [(0, .var 77 (Reader.cells a0))] (flt e)) r
@[reducible] def Qt (o0 : Reader) (o2_0 : Int) (o2_1 : BA) (o2_2 : LB) (o2_3 : LN) (r : Except Int (Node × Reader)) : Prop :=
  Ok Tryz.prog G tt 16 1 (exq (fun (r : Node × Reader) => Ret Tryz.prog [.cell 2 26] (fun y H => vd Tryz.prog G 1 H y (.agg (zp r.1)) ⟨1, [(0, .var 77 (Reader.cells r.2))]⟩)) (fun e => Jg (flt e)) r) (.again (ud [] Tryz.f71 0).1 (ud [] Tryz.f71 0).2 (.n (.ptr 0 0 0) (.n .undef (.n (.ptr 2 2 0) .z .z) .z) (.n (.ptr 1 1 0) .z .z)) 6 [(0, .var 77 (Reader.cells o0)), (1, .var 26 [(.int .i64 0), (.str ⟨#[]⟩), (.sl 0 true []), (.sl 0 true [])]), (2, .var 26 [(.int .i64 o2_0), (.str o2_1), (.bs 1 3 5 0 o2_2.length), (.bs 4 4 4 0 o2_3.length)]), (5, .row 9 (o2_2.map sc).flatten), (4, .row 26 (o2_3.map Node.cells).flatten)])
theorem Zd : PC1 Z1 jh ∧ PC5 Qt j9 ∧ PC1 Qm j5 := by
 refine jh.mutual_partial_correctness Z1 Qt Qm (fun j9 u5 a0 r h => ?_) (fun j9 j5 u5 wr o0 o2_0 o2_1 o2_2 o2_3 r h => ?_) (fun jh yg a0 r h => ?_)
 ·unfold qa at h
  refine Jw (T := tt) (N := 16) (rs := [.cell 2 26]) (fun vs w => by simp) Tryz.func71 rfl rfl rfl (by kernel_rfl) (by kernel_rfl) (zm rfl rfl jv) (qj zf) (fun r => (zo rfl j3)) (fun r => (qj zf)) (fun _ => rfl) (fun _ => rfl) rfl (fun _ => rfl) ?_
  refine kr [] ?_
  obtain ⟨x1, hx, h⟩ := bind_some h
  rcases x1 with ee | x1
  ·replace h : some (.error ee) = some r := h
   cases h
   exact zd (FCalls.ghost (e := 9) (FCalls.ghost (e := 26) (FCalls.wkg (FC.go (objs := [(0, .var 77 (Reader.cells a0)), (1, .var 26 [(.int .i64 0), (.str ⟨#[]⟩), (.sl 0 true []), (.sl 0 true [])]), (2, .var 26 [(.int .i64 (6 : Int)), (.str ⟨#[]⟩), (.bs 1 3 3 0 ([] : LB).length), (.bs 4 4 4 0 ([] : LN).length)]), (3, .row 9 (([] : LB).map sc).flatten), (4, .row 26 (([] : LN).map Node.cells).flatten)]) (xs := [(.ptr 0 0 0), (.ptr 2 2 0), (.str (⟨#[123]⟩ : BA))]) (qc _ _ _ _ _ _ _ hx) [0, 2, 3, 4] [0, 2, 3, 4] rfl rfl rfl rfl rfl rfl) (qi (qo _) (qi (qo _) (qi (qo _) je))) (qe (qe (jd (qd (qk _) (qd (qk _) (qd (zi rfl) (qd (zi rfl) jy)))) (zu _)))))))
  refine qb (ACalls.ghost (e := 9) (ACalls.ghost (e := 26) (ACalls.wkg (AC.go (objs := [(0, .var 77 (Reader.cells a0)), (1, .var 26 [(.int .i64 0), (.str ⟨#[]⟩), (.sl 0 true []), (.sl 0 true [])]), (2, .var 26 [(.int .i64 (6 : Int)), (.str ⟨#[]⟩), (.bs 1 3 3 0 ([] : LB).length), (.bs 4 4 4 0 ([] : LN).length)]), (3, .row 9 (([] : LB).map sc).flatten), (4, .row 26 (([] : LN).map Node.cells).flatten)]) (xs := [(.ptr 0 0 0), (.ptr 2 2 0), (.str (⟨#[123]⟩ : BA))]) (qc _ _ _ _ _ _ _ hx) [0, 2, 3, 4] [0, 2, 3, 4] rfl rfl rfl rfl rfl rfl rfl rfl rfl) (qi (qo _) (qi (qo _) (qi (qo _) je))) (qe (qe (jd (qd (qk _) (qd (qk _) (qd (zi rfl) (qd (zi rfl) jy)))) (zu _))))))) ?_
  refine kr [] ?_
  exact wx (by kernel_rfl) lQ (u5 _ _ _ _ _ _ h)
 ·unfold qa at h
  refine uy ?_
  refine kr [] ?_
  obtain ⟨x33, hx, h⟩ := bind_some h
  refine qb (AC.g9 (zj _ _ _ hx) [0] [0]) ?_
  refine kr [] ?_
  refine qf (fun hb => ?_) (fun hb => ?_)
  ·replace h := qw hb h
   refine kr [] ?_
   obtain ⟨x34, hx, h⟩ := bind_some h
   rcases x34 with ee | x34
   ·replace h : some (.error ee) = some r := h
    cases h
    exact zd (FC.go (wr _ _ hx) [0] [0] rfl rfl rfl rfl rfl rfl)
   refine qb (AC.g9 (wr _ _ hx) [0] [0]) ?_
   refine kr [] ?_
   obtain ⟨x35, hx, h⟩ := bind_some h
   refine qb (AC.g9 (z8 _ _ _ _ _ _ hx) [2, 3, 4] [2, 5, 4]) ?_
   refine kr [] ?_
   exact wd (by kernel_rfl) lQ (u5 _ _ _ _ _ _ h)
  replace h := qx hb h
  refine kr [] ?_
  obtain ⟨x36, hx, h⟩ := bind_some h
  rcases x36 with ee | x36
  ·replace h : some (.error ee) = some r := h
   cases h
   exact zd (FC.go (qc _ _ _ _ _ _ _ hx) [0, 2, 3, 4] [0, 2, 5, 4] rfl rfl rfl rfl rfl rfl)
  refine qb (AC.g9 (qc _ _ _ _ _ _ _ hx) [0, 2, 3, 4] [0, 2, 5, 4]) ?_
  refine kr [] ?_
  cases h
  exact j8 env rfl rfl (tS [some 0] (sV (lS (lS lN)) q7) (yf (yr (qh (qg (zy rfl) rfl) (qh (qg (jw rfl) rfl) (qh (qg (ya zr rfl) rfl) (qh (qg (ya ql rfl) rfl) yq))))) (by simp)))
 unfold qa at h
 refine Jw (T := tt) (N := 106) (rs := [.cell 2 26]) (fun vs w => by simp) Tryz.func34 rfl rfl rfl (by kernel_rfl) (by kernel_rfl) (zm rfl rfl jv) (qj zf) (fun r => (zo rfl j3)) (fun r => (qj zf)) (fun _ => rfl) (fun _ => rfl) rfl (fun _ => rfl) ?_
 refine kr [41, 87] ?_
 obtain ⟨x2, hx, h⟩ := bind_some h
 refine qb (AC.g9 (zj _ _ _ hx) [0] [0]) ?_
 refine kr [41, 87] ?_
 refine qf (fun hb => ?_) (fun hb => ?_)
 ·replace h := qw hb h
  refine kr [41, 87] ?_
  obtain ⟨x3, hx, h⟩ := bind_some h
  rcases x3 with ee | x3
  ·replace h : some (.error ee) = some r := h
   cases h
   exact zd (FC.go (Qc _ _ _ _ hx) [0] [0] rfl rfl rfl rfl rfl rfl)
  refine qb (AC.g9 (Qc _ _ _ _ hx) [0] [0]) ?_
  refine kr [41, 87] ?_
  cases h
  exact j8 env rfl rfl (tS [some 0] (sV (lS (lS lN)) q7) (yf (yr (qh (qg (zy rfl) rfl) (qh (qg (jw rfl) rfl) (qh (qg (kg (.inl rfl)) rfl) (qh (qg (kg (.inl rfl)) rfl) yq))))) (by simp)))
 replace h := qx hb h
 refine kr [41, 87] ?_
 obtain ⟨x4, hx, h⟩ := bind_some h
 refine qb (AC.g9 (zj _ _ _ hx) [0] [0]) ?_
 refine kr [41, 87] ?_
 refine qf (fun hb => ?_) (fun hb => ?_)
 ·replace h := qw hb h
  refine kr [41, 87] ?_
  obtain ⟨x5, hx, h⟩ := bind_some h
  rcases x5 with ee | x5
  ·replace h : some (.error ee) = some r := h
   cases h
   exact zd (FCalls.ghost (e := 9) (FCalls.ghost (e := 26) (FCalls.wkg (FC.go (objs := [(0, .var 77 (Reader.cells a0)), (1, .var 26 [(.int .i64 0), (.str ⟨#[]⟩), (.sl 0 true []), (.sl 0 true [])]), (2, .var 26 [(.int .i64 (12 : Int)), (.str ⟨#[]⟩), (.bs 1 3 3 0 ([] : LB).length), (.bs 4 4 4 0 ([] : LN).length)]), (3, .row 9 (([] : LB).map sc).flatten), (4, .row 26 (([] : LN).map Node.cells).flatten)]) (xs := [(.ptr 0 0 0), (.ptr 2 2 0), (.str (⟨#[114, 101, 116, 117, 114, 110]⟩ : BA))]) (qc _ _ _ _ _ _ _ hx) [0, 2, 3, 4] [0, 2, 3, 4] rfl rfl rfl rfl rfl rfl) (qi (qo _) (qi (qo _) (qi (qo _) je))) (qe (qe (jd (qd (qk _) (qd (qk _) (qd (zi rfl) (qd (zi rfl) jy)))) (zu _)))))))
  refine qb (ACalls.ghost (e := 9) (ACalls.ghost (e := 26) (ACalls.wkg (AC.go (objs := [(0, .var 77 (Reader.cells a0)), (1, .var 26 [(.int .i64 0), (.str ⟨#[]⟩), (.sl 0 true []), (.sl 0 true [])]), (2, .var 26 [(.int .i64 (12 : Int)), (.str ⟨#[]⟩), (.bs 1 3 3 0 ([] : LB).length), (.bs 4 4 4 0 ([] : LN).length)]), (3, .row 9 (([] : LB).map sc).flatten), (4, .row 26 (([] : LN).map Node.cells).flatten)]) (xs := [(.ptr 0 0 0), (.ptr 2 2 0), (.str (⟨#[114, 101, 116, 117, 114, 110]⟩ : BA))]) (qc _ _ _ _ _ _ _ hx) [0, 2, 3, 4] [0, 2, 3, 4] rfl rfl rfl rfl rfl rfl rfl rfl rfl) (qi (qo _) (qi (qo _) (qi (qo _) je))) (qe (qe (jd (qd (qk _) (qd (qk _) (qd (zi rfl) (qd (zi rfl) jy)))) (zu _))))))) ?_
  refine kr [41, 87] ?_
  obtain ⟨x6, hx, h⟩ := bind_some h
  rcases x6 with ee | x6
  ·replace h : some (.error ee) = some r := h
   cases h
   exact zd (FC.go (qu _ _ _ hx) [0] [0] rfl rfl rfl rfl rfl rfl)
  refine qb (AC.g9 (qu _ _ _ hx) [0] [0]) ?_
  refine kr [41, 87] ?_
  obtain ⟨x7, hx, h⟩ := bind_some h
  refine qb (AC.g9 (z8 _ _ _ _ _ _ hx) [2, 3, 4] [2, 5, 4]) ?_
  refine kr [41, 87] ?_
  obtain ⟨x8, hx, h⟩ := bind_some h
  rcases x8 with ee | x8
  ·replace h : some (.error ee) = some r := h
   cases h
   exact zd (FC.go (qc _ _ _ _ _ _ _ hx) [0, 2, 3, 4] [0, 2, 5, 6] rfl rfl rfl rfl rfl rfl)
  refine qb (AC.g9 (qc _ _ _ _ _ _ _ hx) [0, 2, 3, 4] [0, 2, 5, 6]) ?_
  refine kr [41, 87] ?_
  cases h
  exact j8 env rfl rfl (tS [some 0] (sV (lS (lS lN)) q7) (yf (yr (qh (qg (zy rfl) rfl) (qh (qg (jw rfl) rfl) (qh (qg (ya zr rfl) rfl) (qh (qg (ya ql rfl) rfl) yq))))) (by simp)))
 replace h := qx hb h
 refine kr [41, 87] ?_
 obtain ⟨x9, hx, h⟩ := bind_some h
 refine qb (AC.g9 (zj _ _ _ hx) [0] [0]) ?_
 refine kr [41, 87] ?_
 refine qf (fun hb => ?_) (fun hb => ?_)
 ·replace h := qw hb h
  refine kr [41, 87] ?_
  obtain ⟨x10, hx, h⟩ := bind_some h
  rcases x10 with ee | x10
  ·replace h : some (.error ee) = some r := h
   cases h
   exact zd (FCalls.ghost (e := 9) (FCalls.ghost (e := 26) (FCalls.wkg (FC.go (objs := [(0, .var 77 (Reader.cells a0)), (1, .var 26 [(.int .i64 0), (.str ⟨#[]⟩), (.sl 0 true []), (.sl 0 true [])]), (2, .var 26 [(.int .i64 (13 : Int)), (.str ⟨#[]⟩), (.bs 1 3 3 0 ([] : LB).length), (.bs 4 4 4 0 ([] : LN).length)]), (3, .row 9 (([] : LB).map sc).flatten), (4, .row 26 (([] : LN).map Node.cells).flatten)]) (xs := [(.ptr 0 0 0), (.ptr 2 2 0), (.str (⟨#[105, 102]⟩ : BA))]) (qc _ _ _ _ _ _ _ hx) [0, 2, 3, 4] [0, 2, 3, 4] rfl rfl rfl rfl rfl rfl) (qi (qo _) (qi (qo _) (qi (qo _) je))) (qe (qe (jd (qd (qk _) (qd (qk _) (qd (zi rfl) (qd (zi rfl) jy)))) (zu _)))))))
  refine qb (ACalls.ghost (e := 9) (ACalls.ghost (e := 26) (ACalls.wkg (AC.go (objs := [(0, .var 77 (Reader.cells a0)), (1, .var 26 [(.int .i64 0), (.str ⟨#[]⟩), (.sl 0 true []), (.sl 0 true [])]), (2, .var 26 [(.int .i64 (13 : Int)), (.str ⟨#[]⟩), (.bs 1 3 3 0 ([] : LB).length), (.bs 4 4 4 0 ([] : LN).length)]), (3, .row 9 (([] : LB).map sc).flatten), (4, .row 26 (([] : LN).map Node.cells).flatten)]) (xs := [(.ptr 0 0 0), (.ptr 2 2 0), (.str (⟨#[105, 102]⟩ : BA))]) (qc _ _ _ _ _ _ _ hx) [0, 2, 3, 4] [0, 2, 3, 4] rfl rfl rfl rfl rfl rfl rfl rfl rfl) (qi (qo _) (qi (qo _) (qi (qo _) je))) (qe (qe (jd (qd (qk _) (qd (qk _) (qd (zi rfl) (qd (zi rfl) jy)))) (zu _))))))) ?_
  refine kr [41, 87] ?_
  obtain ⟨x11, hx, h⟩ := bind_some h
  rcases x11 with ee | x11
  ·replace h : some (.error ee) = some r := h
   cases h
   exact zd (FC.go (qu _ _ _ hx) [0] [0] rfl rfl rfl rfl rfl rfl)
  refine qb (AC.g9 (qu _ _ _ hx) [0] [0]) ?_
  refine kr [41, 87] ?_
  obtain ⟨x12, hx, h⟩ := bind_some h
  refine qb (AC.g9 (z8 _ _ _ _ _ _ hx) [2, 3, 4] [2, 5, 4]) ?_
  refine kr [41, 87] ?_
  obtain ⟨x13, hx, h⟩ := bind_some h
  rcases x13 with ee | x13
  ·replace h : some (.error ee) = some r := h
   cases h
   exact zd (FC.go (yg _ _ hx) [0] [0] rfl rfl rfl rfl rfl rfl)
  refine qb (AC.g9 (yg _ _ hx) [0] [0]) ?_
  refine kr [41, 87] ?_
  obtain ⟨x14, hx, h⟩ := bind_some h
  refine qb (AC.g9 (z8 _ _ _ _ _ _ hx) [2, 3, 4] [2, 5, 6]) ?_
  refine kr [41, 87] ?_
  obtain ⟨x15, hx, h⟩ := bind_some h
  refine qb (AC.g9 (zj _ _ _ hx) [0] [0]) ?_
  refine kr [41, 87] ?_
  refine qf (fun hb => ?_) (fun hb => ?_)
  ·replace h := qw hb h
   refine kr [41, 87] ?_
   obtain ⟨x16, hx, h⟩ := bind_some h
   rcases x16 with ee | x16
   ·replace h : some (.error ee) = some r := h
    cases h
    exact zd (FCalls.ghost (e := 9) (FCalls.ghost (e := 26) (FCalls.wkg (FC.go (objs := [(0, .var 77 (Reader.cells x13.2)), (1, .var 26 [(.int .i64 0), (.str ⟨#[]⟩), (.sl 0 true []), (.sl 0 true [])]), (2, .var 26 [(.int .i64 (13 : Int)), (.str ⟨#[]⟩), (.bs 1 3 5 0 x10.2.length), (.bs 4 4 7 0 x14.length)]), (5, .row 9 (x10.2.map sc).flatten), (7, .row 26 (x14.map Node.cells).flatten), (8, .var 26 [(.int .i64 (14 : Int)), (.str ⟨#[]⟩), (.bs 1 6 9 0 ([] : LB).length), (.bs 4 7 10 0 ([] : LN).length)]), (9, .row 9 (([] : LB).map sc).flatten), (10, .row 26 (([] : LN).map Node.cells).flatten)]) (xs := [(.ptr 0 0 0), (.ptr 5 8 0), (.str (⟨#[101, 108, 115, 101]⟩ : BA))]) (qc _ _ _ _ _ _ _ hx) [0, 5, 6, 7] [0, 8, 9, 10] rfl rfl rfl rfl rfl rfl) (qi (qo _) (qi (qo _) (qi (qo _) je))) (qe (qe (qe (qe (qe (jd (qd (qk _) (qd (qk _) (qd (zi rfl) (qd (zi rfl) jy)))) (zu _))))))))))
   refine qb (ACalls.ghost (e := 9) (ACalls.ghost (e := 26) (ACalls.wkg (AC.go (objs := [(0, .var 77 (Reader.cells x13.2)), (1, .var 26 [(.int .i64 0), (.str ⟨#[]⟩), (.sl 0 true []), (.sl 0 true [])]), (2, .var 26 [(.int .i64 (13 : Int)), (.str ⟨#[]⟩), (.bs 1 3 5 0 x10.2.length), (.bs 4 4 7 0 x14.length)]), (5, .row 9 (x10.2.map sc).flatten), (7, .row 26 (x14.map Node.cells).flatten), (8, .var 26 [(.int .i64 (14 : Int)), (.str ⟨#[]⟩), (.bs 1 6 9 0 ([] : LB).length), (.bs 4 7 10 0 ([] : LN).length)]), (9, .row 9 (([] : LB).map sc).flatten), (10, .row 26 (([] : LN).map Node.cells).flatten)]) (xs := [(.ptr 0 0 0), (.ptr 5 8 0), (.str (⟨#[101, 108, 115, 101]⟩ : BA))]) (qc _ _ _ _ _ _ _ hx) [0, 5, 6, 7] [0, 8, 9, 10] rfl rfl rfl rfl rfl rfl rfl rfl rfl) (qi (qo _) (qi (qo _) (qi (qo _) je))) (qe (qe (qe (qe (qe (jd (qd (qk _) (qd (qk _) (qd (zi rfl) (qd (zi rfl) jy)))) (zu _)))))))))) ?_
   refine kr [41, 87] ?_
   obtain ⟨x17, hx, h⟩ := bind_some h
   rcases x17 with ee | x17
   ·replace h : some (.error ee) = some r := h
    cases h
    exact zd (FC.go (yg _ _ hx) [0] [0] rfl rfl rfl rfl rfl rfl)
   refine qb (AC.g9 (yg _ _ hx) [0] [0]) ?_
   refine kr [41, 87] ?_
   obtain ⟨x18, hx, h⟩ := bind_some h
   refine qb (AC.g9 (z8 _ _ _ _ _ _ hx) [5, 6, 7] [8, 11, 10]) ?_
   refine kr [41, 87] ?_
   refine Yo 5 2 6 zr rfl rfl rfl rfl rfl rfl ?_
   refine Yo 5 3 7 ql rfl rfl rfl rfl rfl rfl ?_
   exact qz (by kernel_rfl) rfl lQ (Zs _ _ _ _ _ _ _ h)
  replace h := qx hb h
  refine kr [41, 87] ?_
  exact qz (by kernel_rfl) rfl lQ (Zs _ _ _ _ _ _ _ h)
 replace h := qx hb h
 refine kr [41, 87] ?_
 obtain ⟨x19, hx, h⟩ := bind_some h
 refine qb (AC.g9 (zj _ _ _ hx) [0] [0]) ?_
 refine kr [41, 87] ?_
 refine qf (fun hb => ?_) (fun hb => ?_)
 ·replace h := qw hb h
  refine kr [41, 87] ?_
  obtain ⟨x20, hx, h⟩ := bind_some h
  rcases x20 with ee | x20
  ·replace h : some (.error ee) = some r := h
   cases h
   exact zd (FCalls.ghost (e := 9) (FCalls.ghost (e := 26) (FCalls.wkg (FC.go (objs := [(0, .var 77 (Reader.cells a0)), (1, .var 26 [(.int .i64 0), (.str ⟨#[]⟩), (.sl 0 true []), (.sl 0 true [])]), (2, .var 26 [(.int .i64 (15 : Int)), (.str ⟨#[]⟩), (.bs 1 3 3 0 ([] : LB).length), (.bs 4 4 4 0 ([] : LN).length)]), (3, .row 9 (([] : LB).map sc).flatten), (4, .row 26 (([] : LN).map Node.cells).flatten)]) (xs := [(.ptr 0 0 0), (.ptr 2 2 0), (.str (⟨#[119, 104, 105, 108, 101]⟩ : BA))]) (qc _ _ _ _ _ _ _ hx) [0, 2, 3, 4] [0, 2, 3, 4] rfl rfl rfl rfl rfl rfl) (qi (qo _) (qi (qo _) (qi (qo _) je))) (qe (qe (jd (qd (qk _) (qd (qk _) (qd (zi rfl) (qd (zi rfl) jy)))) (zu _)))))))
  refine qb (ACalls.ghost (e := 9) (ACalls.ghost (e := 26) (ACalls.wkg (AC.go (objs := [(0, .var 77 (Reader.cells a0)), (1, .var 26 [(.int .i64 0), (.str ⟨#[]⟩), (.sl 0 true []), (.sl 0 true [])]), (2, .var 26 [(.int .i64 (15 : Int)), (.str ⟨#[]⟩), (.bs 1 3 3 0 ([] : LB).length), (.bs 4 4 4 0 ([] : LN).length)]), (3, .row 9 (([] : LB).map sc).flatten), (4, .row 26 (([] : LN).map Node.cells).flatten)]) (xs := [(.ptr 0 0 0), (.ptr 2 2 0), (.str (⟨#[119, 104, 105, 108, 101]⟩ : BA))]) (qc _ _ _ _ _ _ _ hx) [0, 2, 3, 4] [0, 2, 3, 4] rfl rfl rfl rfl rfl rfl rfl rfl rfl) (qi (qo _) (qi (qo _) (qi (qo _) je))) (qe (qe (jd (qd (qk _) (qd (qk _) (qd (zi rfl) (qd (zi rfl) jy)))) (zu _))))))) ?_
  refine kr [41, 87] ?_
  obtain ⟨x21, hx, h⟩ := bind_some h
  rcases x21 with ee | x21
  ·replace h : some (.error ee) = some r := h
   cases h
   exact zd (FC.go (qu _ _ _ hx) [0] [0] rfl rfl rfl rfl rfl rfl)
  refine qb (AC.g9 (qu _ _ _ hx) [0] [0]) ?_
  refine kr [41, 87] ?_
  obtain ⟨x22, hx, h⟩ := bind_some h
  refine qb (AC.g9 (z8 _ _ _ _ _ _ hx) [2, 3, 4] [2, 5, 4]) ?_
  refine kr [41, 87] ?_
  obtain ⟨x23, hx, h⟩ := bind_some h
  rcases x23 with ee | x23
  ·replace h : some (.error ee) = some r := h
   cases h
   exact zd (FC.go (yg _ _ hx) [0] [0] rfl rfl rfl rfl rfl rfl)
  refine qb (AC.g9 (yg _ _ hx) [0] [0]) ?_
  refine kr [41, 87] ?_
  obtain ⟨x24, hx, h⟩ := bind_some h
  refine qb (AC.g9 (z8 _ _ _ _ _ _ hx) [2, 3, 4] [2, 5, 6]) ?_
  refine kr [41, 87] ?_
  cases h
  exact j8 env rfl rfl (tS [some 0] (sV (lS (lS lN)) q7) (yf (yr (qh (qg (zy rfl) rfl) (qh (qg (jw rfl) rfl) (qh (qg (ya zr rfl) rfl) (qh (qg (ya ql rfl) rfl) yq))))) (by simp)))
 replace h := qx hb h
 refine kr [41, 87] ?_
 obtain ⟨x25, hx, h⟩ := bind_some h
 refine qb (AC.g9 (zt _ _ hx) [0] [0]) ?_
 refine kr [41, 87] ?_
 refine qv (fun hb => ?_) (fun hb => ?_)
 ·replace h := qw hb h
  refine kr [41, 87] ?_
  obtain ⟨x26, hx, h⟩ := bind_some h
  refine qn (qgh _ _ hx) ?_
  refine kr [41, 87] ?_
  refine qv (fun hb => ?_) (fun hb => ?_)
  ·replace h := qw hb h
   refine kr [41, 87] ?_
   obtain ⟨x27, hx, h⟩ := bind_some h
   refine Kf env hx rfl rfl rfl rfl rfl ?_
   refine kr [41, 87] ?_
   refine qf (fun hb => ?_) (fun hb => ?_)
   ·replace h := qw hb h
    refine kr [41, 87] ?_
    obtain ⟨x28, hx, h⟩ := bind_some h
    rcases x28 with ee | x28
    ·replace h : some (.error ee) = some r := h
     cases h
     exact zd (FCalls.ghost (e := 9) (FCalls.ghost (e := 26) (FCalls.wkg (FC.go (objs := [(0, .var 77 (Reader.cells a0)), (1, .var 26 [(.int .i64 0), (.str ⟨#[]⟩), (.sl 0 true []), (.sl 0 true [])]), (2, .var 49 (Token.cells x25)), (3, .var 26 [(.int .i64 (11 : Int)), (.str ⟨#[]⟩), (.bs 1 4 4 0 ([] : LB).length), (.bs 4 5 5 0 ([] : LN).length)]), (4, .row 9 (([] : LB).map sc).flatten), (5, .row 26 (([] : LN).map Node.cells).flatten)]) (xs := [(.ptr 0 0 0), (.ptr 3 3 0)]) (zl _ _ _ _ _ _ hx) [0, 3, 4, 5] [0, 3, 4, 5] rfl rfl rfl rfl rfl rfl) (qi (qo _) (qi (qo _) je)) (qe (qe (qe (jd (qd (qk _) (qd (qk _) (qd (zi rfl) (qd (zi rfl) jy)))) (zu _))))))))
    refine qb (ACalls.ghost (e := 9) (ACalls.ghost (e := 26) (ACalls.wkg (AC.go (objs := [(0, .var 77 (Reader.cells a0)), (1, .var 26 [(.int .i64 0), (.str ⟨#[]⟩), (.sl 0 true []), (.sl 0 true [])]), (2, .var 49 (Token.cells x25)), (3, .var 26 [(.int .i64 (11 : Int)), (.str ⟨#[]⟩), (.bs 1 4 4 0 ([] : LB).length), (.bs 4 5 5 0 ([] : LN).length)]), (4, .row 9 (([] : LB).map sc).flatten), (5, .row 26 (([] : LN).map Node.cells).flatten)]) (xs := [(.ptr 0 0 0), (.ptr 3 3 0)]) (zl _ _ _ _ _ _ hx) [0, 3, 4, 5] [0, 3, 4, 5] rfl rfl rfl rfl rfl rfl rfl rfl rfl) (qi (qo _) (qi (qo _) je)) (qe (qe (qe (jd (qd (qk _) (qd (qk _) (qd (zi rfl) (qd (zi rfl) jy)))) (zu _)))))))) ?_
    refine kr [41, 87] ?_
    obtain ⟨x29, hx, h⟩ := bind_some h
    rcases x29 with ee | x29
    ·replace h : some (.error ee) = some r := h
     cases h
     exact zd (FC.go (qc _ _ _ _ _ _ _ hx) [0, 3, 4, 5] [0, 3, 6, 5] rfl rfl rfl rfl rfl rfl)
    refine qb (AC.g9 (qc _ _ _ _ _ _ _ hx) [0, 3, 4, 5] [0, 3, 6, 5]) ?_
    refine kr [41, 87] ?_
    obtain ⟨x30, hx, h⟩ := bind_some h
    rcases x30 with ee | x30
    ·replace h : some (.error ee) = some r := h
     cases h
     exact zd (FC.go (qu _ _ _ hx) [0] [0] rfl rfl rfl rfl rfl rfl)
    refine qb (AC.g9 (qu _ _ _ hx) [0] [0]) ?_
    refine kr [41, 87] ?_
    obtain ⟨x31, hx, h⟩ := bind_some h
    refine qb (AC.g9 (z8 _ _ _ _ _ _ hx) [3, 4, 5] [3, 7, 5]) ?_
    refine kr [41, 87] ?_
    obtain ⟨x32, hx, h⟩ := bind_some h
    rcases x32 with ee | x32
    ·replace h : some (.error ee) = some r := h
     cases h
     exact zd (FC.go (qc _ _ _ _ _ _ _ hx) [0, 3, 4, 5] [0, 3, 7, 8] rfl rfl rfl rfl rfl rfl)
    refine qb (AC.g9 (qc _ _ _ _ _ _ _ hx) [0, 3, 4, 5] [0, 3, 7, 8]) ?_
    refine kr [41, 87] ?_
    cases h
    exact j8 env rfl rfl (tS [some 0] (sV (lS (lS lN)) q7) (yf (yr (qh (qg (zy rfl) rfl) (qh (qg (jw rfl) rfl) (qh (qg (ya zr rfl) rfl) (qh (qg (ya ql rfl) rfl) yq))))) (by simp)))
   replace h := qx hb h
   refine kr [41, 87] ?_
   exact qz (by kernel_rfl) rfl lQ (vj _ _ h)
  replace h := qx hb h
  refine kr [41, 87] ?_
  exact qz (by kernel_rfl) rfl lQ (vj _ _ h)
 replace h := qx hb h
 refine kr [41, 87] ?_
 exact qz (by kernel_rfl) rfl lQ (vj _ _ h)
theorem yg : PC1 Z1 jh := Zd.1
theorem u5 : PC5 Qt j9 := Zd.2.1
theorem wr : PC1 Qm j5 := Zd.2.2
mutual
def j7 (o0 : Reader) (o2_0 : Int) (o2_1 : BA) (o2_2 : LB) (o2_3 : LN) (o5_0 : Int) (o5_1 : BA) (o5_2 : LB) (o5_3 : LN) : Option (Except Int (Node × Reader)) :=
 zg (qa o0) (⟨#[41]⟩ : BA) >>= fun x4 =>
 if (!x4) = true then
  if (decide ((0 : Int) < (o5_3.length : Int))) = true then
   qm (qa o0) (qa o5_0) (qa o5_1) (qa o5_2) (qa o5_3) (⟨#[44]⟩ : BA) >>= fun x5 =>
   match x5 with
   | .error ee => some (.error ee)
   | .ok x5 =>
   yj x5.1 (qa o2_0) (qa o2_1) (qa o2_2) (qa o2_3) (qa o5_0) (qa o5_1) x5.2 (qa o5_3)
  else
   yj (qa o0) (qa o2_0) (qa o2_1) (qa o2_2) (qa o2_3) (qa o5_0) (qa o5_1) (qa o5_2) (qa o5_3)
 else
  qm (qa o0) (qa o5_0) (qa o5_1) (qa o5_2) (qa o5_3) (⟨#[41]⟩ : BA) >>= fun x6 =>
  match x6 with
  | .error ee => some (.error ee)
  | .ok x6 =>
  z6 (qa o2_0) (qa o2_1) (qa o2_2) (qa o2_3) (Node.mk o5_0 o5_1 x6.2 o5_3) >>= fun x7 =>
  ui x6.1 >>= fun x8 =>
  match x8 with
  | .error ee => some (.error ee)
  | .ok x8 =>
  z6 (qa o2_0) (qa o2_1) (qa o2_2) (qa x7) x8.1 >>= fun x9 =>
  jh x8.2 >>= fun x10 =>
  match x10 with
  | .error ee => some (.error ee)
  | .ok x10 =>
  z6 (qa o2_0) (qa o2_1) (qa o2_2) (qa x9) x10.1 >>= fun x11 =>
  some (.ok ((Node.mk o2_0 o2_1 o2_2 x11), x10.2))
 partial_fixpoint
def yj (o0 : Reader) (o2_0 : Int) (o2_1 : BA) (o2_2 : LB) (o2_3 : LN) (o5_0 : Int) (o5_1 : BA) (o5_2 : LB) (o5_3 : LN) : Option (Except Int (Node × Reader)) :=
 jb (qa o0) (4 : Int) (⟨#[]⟩) ([] : LB) ([] : LN) >>= fun x12 =>
 match x12 with
 | .error ee => some (.error ee)
 | .ok x12 =>
 ui x12.1 >>= fun x13 =>
 match x13 with
 | .error ee => some (.error ee)
 | .ok x13 =>
 z6 (4 : Int) x12.2.1 x12.2.2 ([] : LN) x13.1 >>= fun x14 =>
 z6 (qa o5_0) (qa o5_1) (qa o5_2) (qa o5_3) (Node.mk (4 : Int) x12.2.1 x12.2.2 x14) >>= fun x15 =>
 j7 x13.2 (qa o2_0) (qa o2_1) (qa o2_2) (qa o2_3) (qa o5_0) (qa o5_1) (qa o5_2) (qa x15)
 partial_fixpoint
end
@[reducible] def v8 (o0 : Reader) (o2_0 : Int) (o2_1 : BA) (o2_2 : LB) (o2_3 : LN) (o5_0 : Int) (o5_1 : BA) (o5_2 : LB) (o5_3 : LN) (r : Except Int (Node × Reader)) : Prop :=
  Ok Tryz.prog G tt 42 1 (exq (fun (r : Node × Reader) => Ret Tryz.prog [.cell 2 26] (fun y H => vd Tryz.prog G 1 H y (.agg (zp r.1)) ⟨1, [(0, .var 77 (Reader.cells r.2))]⟩)) (fun e => Jg (flt e)) r) (.again (ud [20, 2000011, 2000013] Tryz.f54 0).1 (ud [20, 2000011, 2000013] Tryz.f54 0).2 (.n (.ptr 0 0 0) (.n .undef (.n (.ptr 2 2 0) .z .z) .z) (.n (.ptr 1 1 0) (.n (.ptr 5 7 0) .z .z) .z)) 11 [(0, .var 77 (Reader.cells o0)), (1, .var 26 [(.int .i64 0), (.str ⟨#[]⟩), (.sl 0 true []), (.sl 0 true [])]), (2, .var 26 [(.int .i64 o2_0), (.str o2_1), (.bs 1 3 6 0 o2_2.length), (.bs 4 4 4 0 o2_3.length)]), (6, .row 9 (o2_2.map sc).flatten), (4, .row 26 (o2_3.map Node.cells).flatten), (7, .var 26 [(.int .i64 o5_0), (.str o5_1), (.bs 1 6 10 0 o5_2.length), (.bs 4 7 9 0 o5_3.length)]), (10, .row 9 (o5_2.map sc).flatten), (9, .row 26 (o5_3.map Node.cells).flatten)])
@[reducible] def vu (o0 : Reader) (o2_0 : Int) (o2_1 : BA) (o2_2 : LB) (o2_3 : LN) (o5_0 : Int) (o5_1 : BA) (o5_2 : LB) (o5_3 : LN) (r : Except Int (Node × Reader)) : Prop :=
  Ok Tryz.prog G tt 42 1 (exq (fun (r : Node × Reader) => Ret Tryz.prog [.cell 2 26] (fun y H => vd Tryz.prog G 1 H y (.agg (zp r.1)) ⟨1, [(0, .var 77 (Reader.cells r.2))]⟩)) (fun e => Jg (flt e)) r) (.go [] (v7 [20, 2000011, 2000013] Tryz.f54 20) [] (.n (.ptr 0 0 0) (.n .undef (.n (.ptr 2 2 0) .z .z) .z) (.n (.ptr 1 1 0) (.n (.ptr 5 7 0) .z .z) .z)) 12 [(0, .var 77 (Reader.cells o0)), (1, .var 26 [(.int .i64 0), (.str ⟨#[]⟩), (.sl 0 true []), (.sl 0 true [])]), (2, .var 26 [(.int .i64 o2_0), (.str o2_1), (.bs 1 3 6 0 o2_2.length), (.bs 4 4 4 0 o2_3.length)]), (6, .row 9 (o2_2.map sc).flatten), (4, .row 26 (o2_3.map Node.cells).flatten), (7, .var 26 [(.int .i64 o5_0), (.str o5_1), (.bs 1 6 11 0 o5_2.length), (.bs 4 7 9 0 o5_3.length)]), (11, .row 9 (o5_2.map sc).flatten), (9, .row 26 (o5_3.map Node.cells).flatten)])
theorem Zv : PC9 v8 j7 ∧ PC9 vu yj := by
 refine j7.mutual_partial_correctness v8 vu (fun yj v6 o0 o2_0 o2_1 o2_2 o2_3 o5_0 o5_1 o5_2 o5_3 r h => ?_) (fun j7 Qa o0 o2_0 o2_1 o2_2 o2_3 o5_0 o5_1 o5_2 o5_3 r h => ?_)
 ·unfold qa at h
  refine uy ?_
  refine kr [20, 2000011, 2000013] ?_
  obtain ⟨x4, hx, h⟩ := bind_some h
  refine qb (AC.g9 (zj _ _ _ hx) [0] [0]) ?_
  refine kr [20, 2000011, 2000013] ?_
  refine qf (fun hb => ?_) (fun hb => ?_)
  ·replace h := qw hb h
   refine kr [20, 2000011, 2000013] ?_
   refine qf (fun hb => ?_) (fun hb => ?_)
   ·replace h := qw hb h
    refine kr [20, 2000011, 2000013] ?_
    obtain ⟨x5, hx, h⟩ := bind_some h
    rcases x5 with ee | x5
    ·replace h : some (.error ee) = some r := h
     cases h
     exact zd (FC.go (qc _ _ _ _ _ _ _ hx) [0, 5, 6, 7] [0, 7, 10, 9] rfl rfl rfl rfl rfl rfl)
    refine qb (AC.g9 (qc _ _ _ _ _ _ _ hx) [0, 5, 6, 7] [0, 7, 10, 9]) ?_
    refine kr [20, 2000011, 2000013] ?_
    exact qz (by kernel_rfl) rfl lQ (v6 _ _ _ _ _ _ _ _ _ _ h)
   replace h := qx hb h
   refine kr [20, 2000011, 2000013] ?_
   exact qz (by kernel_rfl) rfl lQ (v6 _ _ _ _ _ _ _ _ _ _ h)
  replace h := qx hb h
  refine kr [20, 2000011, 2000013] ?_
  obtain ⟨x6, hx, h⟩ := bind_some h
  rcases x6 with ee | x6
  ·replace h : some (.error ee) = some r := h
   cases h
   exact zd (FC.go (qc _ _ _ _ _ _ _ hx) [0, 5, 6, 7] [0, 7, 10, 9] rfl rfl rfl rfl rfl rfl)
  refine qb (AC.g9 (qc _ _ _ _ _ _ _ hx) [0, 5, 6, 7] [0, 7, 10, 9]) ?_
  refine kr [20, 2000011, 2000013] ?_
  refine Yo 5 2 6 zr rfl rfl rfl rfl rfl rfl ?_
  refine Yo 5 3 7 ql rfl rfl rfl rfl rfl rfl ?_
  refine qg1 ?_
  refine kr [20, 2000011, 2000013] ?_
  obtain ⟨x7, hx, h⟩ := bind_some h
  refine qb (AC.g9 (z8 _ _ _ _ _ _ hx) [2, 3, 4] [2, 6, 4]) ?_
  refine kr [20, 2000011, 2000013] ?_
  obtain ⟨x8, hx, h⟩ := bind_some h
  rcases x8 with ee | x8
  ·replace h : some (.error ee) = some r := h
   cases h
   exact zd (FC.go (Qj _ _ hx) [0] [0] rfl rfl rfl rfl rfl rfl)
  refine qb (AC.g9 (Qj _ _ hx) [0] [0]) ?_
  refine kr [20, 2000011, 2000013] ?_
  obtain ⟨x9, hx, h⟩ := bind_some h
  refine qb (AC.g9 (z8 _ _ _ _ _ _ hx) [2, 3, 4] [2, 6, 12]) ?_
  refine kr [20, 2000011, 2000013] ?_
  obtain ⟨x10, hx, h⟩ := bind_some h
  rcases x10 with ee | x10
  ·replace h : some (.error ee) = some r := h
   cases h
   exact zd (FC.go (yg _ _ hx) [0] [0] rfl rfl rfl rfl rfl rfl)
  refine qb (AC.g9 (yg _ _ hx) [0] [0]) ?_
  refine kr [20, 2000011, 2000013] ?_
  obtain ⟨x11, hx, h⟩ := bind_some h
  refine qb (AC.g9 (z8 _ _ _ _ _ _ hx) [2, 3, 4] [2, 6, 13]) ?_
  refine kr [20, 2000011, 2000013] ?_
  cases h
  exact j8 env rfl rfl (tS [some 0] (sV (lS (lS lN)) q7) (yf (yr (qh (qg (zy rfl) rfl) (qh (qg (jw rfl) rfl) (qh (qg (ya zr rfl) rfl) (qh (qg (ya ql rfl) rfl) yq))))) (by simp)))
 unfold qa at h
 refine kr [20, 2000011, 2000013] ?_
 obtain ⟨x12, hx, h⟩ := bind_some h
 rcases x12 with ee | x12
 ·replace h : some (.error ee) = some r := h
  cases h
  exact zd (FCalls.ghost (e := 9) (FCalls.ghost (e := 26) (FCalls.wkg (FC.go (objs := [(0, .var 77 (Reader.cells o0)), (1, .var 26 [(.int .i64 0), (.str ⟨#[]⟩), (.sl 0 true []), (.sl 0 true [])]), (2, .var 26 [(.int .i64 o2_0), (.str o2_1), (.bs 1 3 6 0 o2_2.length), (.bs 4 4 4 0 o2_3.length)]), (6, .row 9 (o2_2.map sc).flatten), (4, .row 26 (o2_3.map Node.cells).flatten), (7, .var 26 [(.int .i64 o5_0), (.str o5_1), (.bs 1 6 11 0 o5_2.length), (.bs 4 7 9 0 o5_3.length)]), (11, .row 9 (o5_2.map sc).flatten), (9, .row 26 (o5_3.map Node.cells).flatten), (12, .var 26 [(.int .i64 (4 : Int)), (.str ⟨#[]⟩), (.bs 1 9 13 0 ([] : LB).length), (.bs 4 10 14 0 ([] : LN).length)]), (13, .row 9 (([] : LB).map sc).flatten), (14, .row 26 (([] : LN).map Node.cells).flatten)]) (xs := [(.ptr 0 0 0), (.ptr 8 12 0)]) (zl _ _ _ _ _ _ hx) [0, 8, 9, 10] [0, 12, 13, 14] rfl rfl rfl rfl rfl rfl) (qi (qo _) (qi (qo _) je)) (qe (qe (qe (qe (qe (qe (qe (qe (jd (qd (qk _) (qd (qk _) (qd (zi rfl) (qd (zi rfl) jy)))) (zu _)))))))))))))
 refine qb (ACalls.ghost (e := 9) (ACalls.ghost (e := 26) (ACalls.wkg (AC.go (objs := [(0, .var 77 (Reader.cells o0)), (1, .var 26 [(.int .i64 0), (.str ⟨#[]⟩), (.sl 0 true []), (.sl 0 true [])]), (2, .var 26 [(.int .i64 o2_0), (.str o2_1), (.bs 1 3 6 0 o2_2.length), (.bs 4 4 4 0 o2_3.length)]), (6, .row 9 (o2_2.map sc).flatten), (4, .row 26 (o2_3.map Node.cells).flatten), (7, .var 26 [(.int .i64 o5_0), (.str o5_1), (.bs 1 6 11 0 o5_2.length), (.bs 4 7 9 0 o5_3.length)]), (11, .row 9 (o5_2.map sc).flatten), (9, .row 26 (o5_3.map Node.cells).flatten), (12, .var 26 [(.int .i64 (4 : Int)), (.str ⟨#[]⟩), (.bs 1 9 13 0 ([] : LB).length), (.bs 4 10 14 0 ([] : LN).length)]), (13, .row 9 (([] : LB).map sc).flatten), (14, .row 26 (([] : LN).map Node.cells).flatten)]) (xs := [(.ptr 0 0 0), (.ptr 8 12 0)]) (zl _ _ _ _ _ _ hx) [0, 8, 9, 10] [0, 12, 13, 14] rfl rfl rfl rfl rfl rfl rfl rfl rfl) (qi (qo _) (qi (qo _) je)) (qe (qe (qe (qe (qe (qe (qe (qe (jd (qd (qk _) (qd (qk _) (qd (zi rfl) (qd (zi rfl) jy)))) (zu _))))))))))))) ?_
 refine kr [20, 2000011, 2000013] ?_
 obtain ⟨x13, hx, h⟩ := bind_some h
 rcases x13 with ee | x13
 ·replace h : some (.error ee) = some r := h
  cases h
  exact zd (FC.go (Qj _ _ hx) [0] [0] rfl rfl rfl rfl rfl rfl)
 refine qb (AC.g9 (Qj _ _ hx) [0] [0]) ?_
 refine kr [20, 2000011, 2000013] ?_
 obtain ⟨x14, hx, h⟩ := bind_some h
 refine qb (AC.g9 (z8 _ _ _ _ _ _ hx) [8, 9, 10] [12, 15, 14]) ?_
 refine kr [20, 2000011, 2000013] ?_
 refine Yo 8 2 9 zr rfl rfl rfl rfl rfl rfl ?_
 refine Yo 8 3 10 ql rfl rfl rfl rfl rfl rfl ?_
 refine qg1 ?_
 refine kr [20, 2000011, 2000013] ?_
 obtain ⟨x15, hx, h⟩ := bind_some h
 refine qb (AC.g9 (z8 _ _ _ _ _ _ hx) [5, 6, 7] [7, 11, 9]) ?_
 refine kr [20, 2000011, 2000013] ?_
 exact wd (by kernel_rfl) lQ (Qa _ _ _ _ _ _ _ _ _ _ h)
theorem Qa : PC9 v8 j7 := Zv.1
theorem v6 : PC9 vu yj := Zv.2
def y4 (a0 : Reader) : Option (Except Int (Node × Reader)) :=
 qm a0 (2 : Int) (⟨#[]⟩) ([] : LB) ([] : LN) (⟨#[102, 110]⟩ : BA) >>= fun x1 =>
 match x1 with
 | .error ee => some (.error ee)
 | .ok x1 =>
 jb x1.1 (2 : Int) (⟨#[]⟩) x1.2 ([] : LN) >>= fun x2 =>
 match x2 with
 | .error ee => some (.error ee)
 | .ok x2 =>
 qm x2.1 (3 : Int) (⟨#[]⟩) ([] : LB) ([] : LN) (⟨#[40]⟩ : BA) >>= fun x3 =>
 match x3 with
 | .error ee => some (.error ee)
 | .ok x3 =>
 j7 x3.1 (2 : Int) x2.2.1 x2.2.2 ([] : LN) (3 : Int) (⟨#[]⟩) x3.2 ([] : LN)
@[reducible] def qa7 (a0 : Reader) (r : Except Int (Node × Reader)) : Prop :=
  exq (fun (r : Node × Reader) => AC Tryz.prog G 54 [(.ptr 0 0 0)] 1 [(0, .var 77 (Reader.cells a0))] (.agg (zp r.1)) 1 [(0, .var 77 (Reader.cells r.2))]) (fun e => FC Tryz.prog G 54 [(.ptr 0 0 0)] 1 [(0, .var 77 (Reader.cells a0))] (flt e)) r
theorem u1 : PC1 qa7 y4 := fun a0 r h => by
 rw [y4.eq_def] at h
 refine Jw (T := tt) (N := 42) (rs := [.cell 2 26]) (fun vs w => by simp) Tryz.func54 rfl rfl rfl (by kernel_rfl) (by kernel_rfl) (zm rfl rfl jv) (qj zf) (fun r => (zo rfl j3)) (fun r => (qj zf)) (fun _ => rfl) (fun _ => rfl) rfl (fun _ => rfl) ?_
 refine kr [20, 2000011, 2000013] ?_
 obtain ⟨x1, hx, h⟩ := bind_some h
 rcases x1 with ee | x1
 ·replace h : some (.error ee) = some r := h
  cases h
  exact zd (FCalls.ghost (e := 9) (FCalls.ghost (e := 26) (FCalls.wkg (FC.go (objs := [(0, .var 77 (Reader.cells a0)), (1, .var 26 [(.int .i64 0), (.str ⟨#[]⟩), (.sl 0 true []), (.sl 0 true [])]), (2, .var 26 [(.int .i64 (2 : Int)), (.str ⟨#[]⟩), (.bs 1 3 3 0 ([] : LB).length), (.bs 4 4 4 0 ([] : LN).length)]), (3, .row 9 (([] : LB).map sc).flatten), (4, .row 26 (([] : LN).map Node.cells).flatten)]) (xs := [(.ptr 0 0 0), (.ptr 2 2 0), (.str (⟨#[102, 110]⟩ : BA))]) (qc _ _ _ _ _ _ _ hx) [0, 2, 3, 4] [0, 2, 3, 4] rfl rfl rfl rfl rfl rfl) (qi (qo _) (qi (qo _) (qi (qo _) je))) (qe (qe (jd (qd (qk _) (qd (qk _) (qd (zi rfl) (qd (zi rfl) jy)))) (zu _)))))))
 refine qb (ACalls.ghost (e := 9) (ACalls.ghost (e := 26) (ACalls.wkg (AC.go (objs := [(0, .var 77 (Reader.cells a0)), (1, .var 26 [(.int .i64 0), (.str ⟨#[]⟩), (.sl 0 true []), (.sl 0 true [])]), (2, .var 26 [(.int .i64 (2 : Int)), (.str ⟨#[]⟩), (.bs 1 3 3 0 ([] : LB).length), (.bs 4 4 4 0 ([] : LN).length)]), (3, .row 9 (([] : LB).map sc).flatten), (4, .row 26 (([] : LN).map Node.cells).flatten)]) (xs := [(.ptr 0 0 0), (.ptr 2 2 0), (.str (⟨#[102, 110]⟩ : BA))]) (qc _ _ _ _ _ _ _ hx) [0, 2, 3, 4] [0, 2, 3, 4] rfl rfl rfl rfl rfl rfl rfl rfl rfl) (qi (qo _) (qi (qo _) (qi (qo _) je))) (qe (qe (jd (qd (qk _) (qd (qk _) (qd (zi rfl) (qd (zi rfl) jy)))) (zu _))))))) ?_
 refine kr [20, 2000011, 2000013] ?_
 obtain ⟨x2, hx, h⟩ := bind_some h
 rcases x2 with ee | x2
 ·replace h : some (.error ee) = some r := h
  cases h
  exact zd (FC.go (zl _ _ _ _ _ _ hx) [0, 2, 3, 4] [0, 2, 5, 4] rfl rfl rfl rfl rfl rfl)
 refine qb (AC.g9 (zl _ _ _ _ _ _ hx) [0, 2, 3, 4] [0, 2, 5, 4]) ?_
 refine kr [20, 2000011, 2000013] ?_
 obtain ⟨x3, hx, h⟩ := bind_some h
 rcases x3 with ee | x3
 ·replace h : some (.error ee) = some r := h
  cases h
  exact zd (FCalls.ghost (e := 9) (FCalls.ghost (e := 26) (FCalls.wkg (FC.go (objs := [(0, .var 77 (Reader.cells x2.1)), (1, .var 26 [(.int .i64 0), (.str ⟨#[]⟩), (.sl 0 true []), (.sl 0 true [])]), (2, .var 26 [(.int .i64 (2 : Int)), (.str x2.2.1), (.bs 1 3 6 0 x2.2.2.length), (.bs 4 4 4 0 ([] : LN).length)]), (6, .row 9 (x2.2.2.map sc).flatten), (4, .row 26 (([] : LN).map Node.cells).flatten), (7, .var 26 [(.int .i64 (3 : Int)), (.str ⟨#[]⟩), (.bs 1 6 8 0 ([] : LB).length), (.bs 4 7 9 0 ([] : LN).length)]), (8, .row 9 (([] : LB).map sc).flatten), (9, .row 26 (([] : LN).map Node.cells).flatten)]) (xs := [(.ptr 0 0 0), (.ptr 5 7 0), (.str (⟨#[40]⟩ : BA))]) (qc _ _ _ _ _ _ _ hx) [0, 5, 6, 7] [0, 7, 8, 9] rfl rfl rfl rfl rfl rfl) (qi (qo _) (qi (qo _) (qi (qo _) je))) (qe (qe (qe (qe (qe (jd (qd (qk _) (qd (qk _) (qd (zi rfl) (qd (zi rfl) jy)))) (zu _))))))))))
 refine qb (ACalls.ghost (e := 9) (ACalls.ghost (e := 26) (ACalls.wkg (AC.go (objs := [(0, .var 77 (Reader.cells x2.1)), (1, .var 26 [(.int .i64 0), (.str ⟨#[]⟩), (.sl 0 true []), (.sl 0 true [])]), (2, .var 26 [(.int .i64 (2 : Int)), (.str x2.2.1), (.bs 1 3 6 0 x2.2.2.length), (.bs 4 4 4 0 ([] : LN).length)]), (6, .row 9 (x2.2.2.map sc).flatten), (4, .row 26 (([] : LN).map Node.cells).flatten), (7, .var 26 [(.int .i64 (3 : Int)), (.str ⟨#[]⟩), (.bs 1 6 8 0 ([] : LB).length), (.bs 4 7 9 0 ([] : LN).length)]), (8, .row 9 (([] : LB).map sc).flatten), (9, .row 26 (([] : LN).map Node.cells).flatten)]) (xs := [(.ptr 0 0 0), (.ptr 5 7 0), (.str (⟨#[40]⟩ : BA))]) (qc _ _ _ _ _ _ _ hx) [0, 5, 6, 7] [0, 7, 8, 9] rfl rfl rfl rfl rfl rfl rfl rfl rfl) (qi (qo _) (qi (qo _) (qi (qo _) je))) (qe (qe (qe (qe (qe (jd (qd (qk _) (qd (qk _) (qd (zi rfl) (qd (zi rfl) jy)))) (zu _)))))))))) ?_
 refine kr [20, 2000011, 2000013] ?_
 exact wx (by kernel_rfl) lQ (Qa _ _ _ _ _ _ _ _ _ _ h)
def yo (o0 : Reader) (o2_0 : Int) (o2_1 : BA) (o2_2 : LB) (o2_3 : LN) : Option (Except Int (Node × Reader)) :=
 zg (qa o0) (⟨#[102, 110]⟩ : BA) >>= fun x8 =>
 if x8 = true then
  y4 (qa o0) >>= fun x9 =>
  match x9 with
  | .error ee => some (.error ee)
  | .ok x9 =>
  z6 (qa o2_0) (qa o2_1) (qa o2_2) (qa o2_3) x9.1 >>= fun x10 =>
  yo x9.2 (qa o2_0) (qa o2_1) (qa o2_2) (qa x10)
 else
  qm (qa o0) (qa o2_0) (qa o2_1) (qa o2_2) (qa o2_3) (⟨#[125]⟩ : BA) >>= fun x11 =>
  match x11 with
  | .error ee => some (.error ee)
  | .ok x11 =>
  some (.ok ((Node.mk o2_0 o2_1 x11.2 o2_3), x11.1))
 partial_fixpoint
@[reducible] def Yb (o0 : Reader) (o2_0 : Int) (o2_1 : BA) (o2_2 : LB) (o2_3 : LN) (r : Except Int (Node × Reader)) : Prop :=
  Ok Tryz.prog G tt 29 1 (exq (fun (r : Node × Reader) => Ret Tryz.prog [.cell 2 26] (fun y H => vd Tryz.prog G 1 H y (.agg (zp r.1)) ⟨1, [(0, .var 77 (Reader.cells r.2))]⟩)) (fun e => Jg (flt e)) r) (.again (ud [12] Tryz.f55 0).1 (ud [12] Tryz.f55 0).2 (.n (.ptr 0 0 0) (.n .undef (.n (.ptr 2 2 0) .z .z) .z) (.n (.ptr 1 1 0) .z .z)) 14 [(0, .var 77 (Reader.cells o0)), (1, .var 26 [(.int .i64 0), (.str ⟨#[]⟩), (.sl 0 true []), (.sl 0 true [])]), (2, .var 26 [(.int .i64 o2_0), (.str o2_1), (.bs 1 3 13 0 o2_2.length), (.bs 4 4 12 0 o2_3.length)]), (13, .row 9 (o2_2.map sc).flatten), (12, .row 26 (o2_3.map Node.cells).flatten)])
theorem Qw : PC5 Yb yo := by
 refine yo.partial_correctness Yb (fun yo Qw o0 o2_0 o2_1 o2_2 o2_3 r h => ?_)
 unfold qa at h
 refine uy ?_
 refine kr [12] ?_
 obtain ⟨x8, hx, h⟩ := bind_some h
 refine qb (AC.g9 (zj _ _ _ hx) [0] [0]) ?_
 refine kr [12] ?_
 refine qf (fun hb => ?_) (fun hb => ?_)
 ·replace h := qw hb h
  refine kr [12] ?_
  obtain ⟨x9, hx, h⟩ := bind_some h
  rcases x9 with ee | x9
  ·replace h : some (.error ee) = some r := h
   cases h
   exact zd (FC.go (u1 _ _ hx) [0] [0] rfl rfl rfl rfl rfl rfl)
  refine qb (AC.g9 (u1 _ _ hx) [0] [0]) ?_
  refine kr [12] ?_
  obtain ⟨x10, hx, h⟩ := bind_some h
  refine qb (AC.g9 (z8 _ _ _ _ _ _ hx) [2, 3, 4] [2, 13, 12]) ?_
  refine kr [12] ?_
  exact wd (by kernel_rfl) lQ (Qw _ _ _ _ _ _ h)
 replace h := qx hb h
 refine kr [12] ?_
 obtain ⟨x11, hx, h⟩ := bind_some h
 rcases x11 with ee | x11
 ·replace h : some (.error ee) = some r := h
  cases h
  exact zd (FC.go (qc _ _ _ _ _ _ _ hx) [0, 2, 3, 4] [0, 2, 13, 12] rfl rfl rfl rfl rfl rfl)
 refine qb (AC.g9 (qc _ _ _ _ _ _ _ hx) [0, 2, 3, 4] [0, 2, 13, 12]) ?_
 refine kr [12] ?_
 cases h
 exact j8 env rfl rfl (tS [some 0] (sV (lS (lS lN)) q7) (yf (yr (qh (qg (zy rfl) rfl) (qh (qg (jw rfl) rfl) (qh (qg (ya zr rfl) rfl) (qh (qg (ya ql rfl) rfl) yq))))) (by simp)))
def k7 (o0 : Reader) (o2_0 : Int) (o2_1 : BA) (o2_2 : LB) (o2_3 : LN) (o5 : Node) : Option (Except Int (Node × Reader)) :=
 z6 o2_0 o2_1 o2_2 o2_3 o5 >>= fun x6 =>
 qm o0 o2_0 o2_1 o2_2 x6 (⟨#[123]⟩ : BA) >>= fun x7 =>
 match x7 with
 | .error ee => some (.error ee)
 | .ok x7 =>
 yo x7.1 o2_0 o2_1 x7.2 x6
@[reducible] def qam (o0 : Reader) (o2_0 : Int) (o2_1 : BA) (o2_2 : LB) (o2_3 : LN) (o5 : Node) (r : Except Int (Node × Reader)) : Prop :=
  Ok Tryz.prog G tt 29 1 (exq (fun (r : Node × Reader) => Ret Tryz.prog [.cell 2 26] (fun y H => vd Tryz.prog G 1 H y (.agg (zp r.1)) ⟨1, [(0, .var 77 (Reader.cells r.2))]⟩)) (fun e => Jg (flt e)) r) (.go [] (v7 [12] Tryz.f55 12) [] (.n (.ptr 0 0 0) (.n .undef (.n (.ptr 2 2 0) .z .z) .z) (.n (.ptr 1 1 0) (.n (.ptr 5 7 0) .z .z) .z)) 12 [(0, .var 77 (Reader.cells o0)), (1, .var 26 [(.int .i64 0), (.str ⟨#[]⟩), (.sl 0 true []), (.sl 0 true [])]), (2, .var 26 [(.int .i64 o2_0), (.str o2_1), (.bs 1 3 6 0 o2_2.length), (.bs 4 4 4 0 o2_3.length)]), (6, .row 9 (o2_2.map sc).flatten), (4, .row 26 (o2_3.map Node.cells).flatten), (7, .var 26 (zp o5))])
theorem Jz : PC6 qam k7 := fun o0 o2_0 o2_1 o2_2 o2_3 o5 r h => by
 rw [k7.eq_def] at h
 refine kr [12] ?_
 obtain ⟨x6, hx, h⟩ := bind_some h
 refine qb (AC.g9 (z8 _ _ _ _ _ _ hx) [2, 3, 4] [2, 6, 4]) ?_
 refine kr [12] ?_
 obtain ⟨x7, hx, h⟩ := bind_some h
 rcases x7 with ee | x7
 ·replace h : some (.error ee) = some r := h
  cases h
  exact zd (FC.go (qc _ _ _ _ _ _ _ hx) [0, 2, 3, 4] [0, 2, 6, 12] rfl rfl rfl rfl rfl rfl)
 refine qb (AC.g9 (qc _ _ _ _ _ _ _ hx) [0, 2, 3, 4] [0, 2, 6, 12]) ?_
 refine kr [12] ?_
 exact wx (by kernel_rfl) lQ (Qw _ _ _ _ _ _ h)
def uf (a0 : Reader) : Option (Except Int (Node × Reader)) :=
 qm a0 (7 : Int) (⟨#[]⟩) ([] : LB) ([] : LN) (⟨#[99, 108, 97, 115, 115]⟩ : BA) >>= fun x1 =>
 match x1 with
 | .error ee => some (.error ee)
 | .ok x1 =>
 jb x1.1 (7 : Int) (⟨#[]⟩) x1.2 ([] : LN) >>= fun x2 =>
 match x2 with
 | .error ee => some (.error ee)
 | .ok x2 =>
 zg x2.1 (⟨#[58]⟩ : BA) >>= fun x3 =>
 if x3 = true then
  qm x2.1 (8 : Int) (⟨#[]⟩) ([] : LB) ([] : LN) (⟨#[58]⟩ : BA) >>= fun x4 =>
  match x4 with
  | .error ee => some (.error ee)
  | .ok x4 =>
  jb x4.1 (8 : Int) (⟨#[]⟩) x4.2 ([] : LN) >>= fun x5 =>
  match x5 with
  | .error ee => some (.error ee)
  | .ok x5 =>
  k7 x5.1 (7 : Int) x2.2.1 x2.2.2 ([] : LN) (Node.mk (8 : Int) x5.2.1 x5.2.2 ([] : LN))
 else
  k7 x2.1 (7 : Int) x2.2.1 x2.2.2 ([] : LN) (Node.mk (8 : Int) (⟨#[]⟩) ([] : LB) ([] : LN))
@[reducible] def qcu (a0 : Reader) (r : Except Int (Node × Reader)) : Prop :=
  exq (fun (r : Node × Reader) => AC Tryz.prog G 55 [(.ptr 0 0 0)] 1 [(0, .var 77 (Reader.cells a0))] (.agg (zp r.1)) 1 [(0, .var 77 (Reader.cells r.2))]) (fun e => FC Tryz.prog G 55 [(.ptr 0 0 0)] 1 [(0, .var 77 (Reader.cells a0))] (flt e)) r
theorem Y3 : PC1 qcu uf := fun a0 r h => by
 rw [uf.eq_def] at h
 refine Jw (T := tt) (N := 29) (rs := [.cell 2 26]) (fun vs w => by simp) Tryz.func55 rfl rfl rfl (by kernel_rfl) (by kernel_rfl) (zm rfl rfl jv) (qj zf) (fun r => (zo rfl j3)) (fun r => (qj zf)) (fun _ => rfl) (fun _ => rfl) rfl (fun _ => rfl) ?_
 refine kr [12] ?_
 obtain ⟨x1, hx, h⟩ := bind_some h
 rcases x1 with ee | x1
 ·replace h : some (.error ee) = some r := h
  cases h
  exact zd (FCalls.ghost (e := 9) (FCalls.ghost (e := 26) (FCalls.wkg (FC.go (objs := [(0, .var 77 (Reader.cells a0)), (1, .var 26 [(.int .i64 0), (.str ⟨#[]⟩), (.sl 0 true []), (.sl 0 true [])]), (2, .var 26 [(.int .i64 (7 : Int)), (.str ⟨#[]⟩), (.bs 1 3 3 0 ([] : LB).length), (.bs 4 4 4 0 ([] : LN).length)]), (3, .row 9 (([] : LB).map sc).flatten), (4, .row 26 (([] : LN).map Node.cells).flatten)]) (xs := [(.ptr 0 0 0), (.ptr 2 2 0), (.str (⟨#[99, 108, 97, 115, 115]⟩ : BA))]) (qc _ _ _ _ _ _ _ hx) [0, 2, 3, 4] [0, 2, 3, 4] rfl rfl rfl rfl rfl rfl) (qi (qo _) (qi (qo _) (qi (qo _) je))) (qe (qe (jd (qd (qk _) (qd (qk _) (qd (zi rfl) (qd (zi rfl) jy)))) (zu _)))))))
 refine qb (ACalls.ghost (e := 9) (ACalls.ghost (e := 26) (ACalls.wkg (AC.go (objs := [(0, .var 77 (Reader.cells a0)), (1, .var 26 [(.int .i64 0), (.str ⟨#[]⟩), (.sl 0 true []), (.sl 0 true [])]), (2, .var 26 [(.int .i64 (7 : Int)), (.str ⟨#[]⟩), (.bs 1 3 3 0 ([] : LB).length), (.bs 4 4 4 0 ([] : LN).length)]), (3, .row 9 (([] : LB).map sc).flatten), (4, .row 26 (([] : LN).map Node.cells).flatten)]) (xs := [(.ptr 0 0 0), (.ptr 2 2 0), (.str (⟨#[99, 108, 97, 115, 115]⟩ : BA))]) (qc _ _ _ _ _ _ _ hx) [0, 2, 3, 4] [0, 2, 3, 4] rfl rfl rfl rfl rfl rfl rfl rfl rfl) (qi (qo _) (qi (qo _) (qi (qo _) je))) (qe (qe (jd (qd (qk _) (qd (qk _) (qd (zi rfl) (qd (zi rfl) jy)))) (zu _))))))) ?_
 refine kr [12] ?_
 obtain ⟨x2, hx, h⟩ := bind_some h
 rcases x2 with ee | x2
 ·replace h : some (.error ee) = some r := h
  cases h
  exact zd (FC.go (zl _ _ _ _ _ _ hx) [0, 2, 3, 4] [0, 2, 5, 4] rfl rfl rfl rfl rfl rfl)
 refine qb (AC.g9 (zl _ _ _ _ _ _ hx) [0, 2, 3, 4] [0, 2, 5, 4]) ?_
 refine kr [12] ?_
 obtain ⟨x3, hx, h⟩ := bind_some h
 refine qb (AC.g9 (zj _ _ _ hx) [0] [0]) ?_
 refine kr [12] ?_
 refine qf (fun hb => ?_) (fun hb => ?_)
 ·replace h := qw hb h
  refine kr [12] ?_
  obtain ⟨x4, hx, h⟩ := bind_some h
  rcases x4 with ee | x4
  ·replace h : some (.error ee) = some r := h
   cases h
   exact zd (FCalls.ghost (e := 9) (FCalls.ghost (e := 26) (FCalls.wkg (FC.go (objs := [(0, .var 77 (Reader.cells x2.1)), (1, .var 26 [(.int .i64 0), (.str ⟨#[]⟩), (.sl 0 true []), (.sl 0 true [])]), (2, .var 26 [(.int .i64 (7 : Int)), (.str x2.2.1), (.bs 1 3 6 0 x2.2.2.length), (.bs 4 4 4 0 ([] : LN).length)]), (6, .row 9 (x2.2.2.map sc).flatten), (4, .row 26 (([] : LN).map Node.cells).flatten), (7, .var 26 [(.int .i64 (8 : Int)), (.str ⟨#[]⟩), (.bs 1 6 8 0 ([] : LB).length), (.bs 4 7 9 0 ([] : LN).length)]), (8, .row 9 (([] : LB).map sc).flatten), (9, .row 26 (([] : LN).map Node.cells).flatten)]) (xs := [(.ptr 0 0 0), (.ptr 5 7 0), (.str (⟨#[58]⟩ : BA))]) (qc _ _ _ _ _ _ _ hx) [0, 5, 6, 7] [0, 7, 8, 9] rfl rfl rfl rfl rfl rfl) (qi (qo _) (qi (qo _) (qi (qo _) je))) (qe (qe (qe (qe (qe (jd (qd (qk _) (qd (qk _) (qd (zi rfl) (qd (zi rfl) jy)))) (zu _))))))))))
  refine qb (ACalls.ghost (e := 9) (ACalls.ghost (e := 26) (ACalls.wkg (AC.go (objs := [(0, .var 77 (Reader.cells x2.1)), (1, .var 26 [(.int .i64 0), (.str ⟨#[]⟩), (.sl 0 true []), (.sl 0 true [])]), (2, .var 26 [(.int .i64 (7 : Int)), (.str x2.2.1), (.bs 1 3 6 0 x2.2.2.length), (.bs 4 4 4 0 ([] : LN).length)]), (6, .row 9 (x2.2.2.map sc).flatten), (4, .row 26 (([] : LN).map Node.cells).flatten), (7, .var 26 [(.int .i64 (8 : Int)), (.str ⟨#[]⟩), (.bs 1 6 8 0 ([] : LB).length), (.bs 4 7 9 0 ([] : LN).length)]), (8, .row 9 (([] : LB).map sc).flatten), (9, .row 26 (([] : LN).map Node.cells).flatten)]) (xs := [(.ptr 0 0 0), (.ptr 5 7 0), (.str (⟨#[58]⟩ : BA))]) (qc _ _ _ _ _ _ _ hx) [0, 5, 6, 7] [0, 7, 8, 9] rfl rfl rfl rfl rfl rfl rfl rfl rfl) (qi (qo _) (qi (qo _) (qi (qo _) je))) (qe (qe (qe (qe (qe (jd (qd (qk _) (qd (qk _) (qd (zi rfl) (qd (zi rfl) jy)))) (zu _)))))))))) ?_
  refine kr [12] ?_
  obtain ⟨x5, hx, h⟩ := bind_some h
  rcases x5 with ee | x5
  ·replace h : some (.error ee) = some r := h
   cases h
   exact zd (FC.go (zl _ _ _ _ _ _ hx) [0, 5, 6, 7] [0, 7, 10, 9] rfl rfl rfl rfl rfl rfl)
  refine qb (AC.g9 (zl _ _ _ _ _ _ hx) [0, 5, 6, 7] [0, 7, 10, 9]) ?_
  refine kr [12] ?_
  refine Yo 5 2 6 zr rfl rfl rfl rfl rfl rfl ?_
  refine Yo 5 3 7 ql rfl rfl rfl rfl rfl rfl ?_
  exact qz (by kernel_rfl) rfl lQ (Jz _ _ _ _ _ _ _ h)
 replace h := qx hb h
 refine kr [12] ?_
 exact qz (by kernel_rfl) rfl lQ (Jz _ _ _ _ _ _ _ h)
mutual
def ja (o0 : Reader) (o2_0 : Int) (o2_1 : BA) (o2_2 : LB) (o2_3 : LN) : Option (Except Int (Node × Reader)) :=
 zn (qa o0) >>= fun x1 =>
 if (!decide (x1.Kind = (4 : Int))) = true then
  zg (qa o0) (⟨#[102, 110]⟩ : BA) >>= fun x2 =>
  if x2 = true then
   y4 (qa o0) >>= fun x3 =>
   match x3 with
   | .error ee => some (.error ee)
   | .ok x3 =>
   z6 (qa o2_0) (qa o2_1) (qa o2_2) (qa o2_3) x3.1 >>= fun x4 =>
   yn x3.2 (qa o2_0) (qa o2_1) (qa o2_2) (qa x4)
  else
   zg (qa o0) (⟨#[99, 108, 97, 115, 115]⟩ : BA) >>= fun x5 =>
   if x5 = true then
    uf (qa o0) >>= fun x6 =>
    match x6 with
    | .error ee => some (.error ee)
    | .ok x6 =>
    z6 (qa o2_0) (qa o2_1) (qa o2_2) (qa o2_3) x6.1 >>= fun x7 =>
    ym x6.2 (qa o2_0) (qa o2_1) (qa o2_2) (qa x7)
   else
    zg (qa o0) (⟨#[99, 111, 110, 115, 116]⟩ : BA) >>= fun x8 =>
    if x8 = true then
     ue (qa o0) (9 : Int) (⟨#[99, 111, 110, 115, 116]⟩ : BA) >>= fun x9 =>
     match x9 with
     | .error ee => some (.error ee)
     | .ok x9 =>
     z6 (qa o2_0) (qa o2_1) (qa o2_2) (qa o2_3) x9.1 >>= fun x10 =>
     y5 x9.2 (qa o2_0) (qa o2_1) (qa o2_2) (qa x10)
    else
     jc (qa o0) >>= fun x11 =>
     match x11 with
     | .error ee => some (.error ee)
     | .ok x11 =>
     y5 (qa o0) (qa o2_0) (qa o2_1) (qa o2_2) (qa o2_3)
 else
  zn (qa o0) >>= fun x12 =>
  app 16 o2_2 ([x12.Lead]) >>= fun x13 =>
  some (.ok ((Node.mk o2_0 o2_1 x13 o2_3), o0))
 partial_fixpoint
def yn (o0 : Reader) (o2_0 : Int) (o2_1 : BA) (o2_2 : LB) (o2_3 : LN) : Option (Except Int (Node × Reader)) :=
 ja (qa o0) (qa o2_0) (qa o2_1) (qa o2_2) (qa o2_3)
 partial_fixpoint
def ym (o0 : Reader) (o2_0 : Int) (o2_1 : BA) (o2_2 : LB) (o2_3 : LN) : Option (Except Int (Node × Reader)) :=
 yn (qa o0) (qa o2_0) (qa o2_1) (qa o2_2) (qa o2_3)
 partial_fixpoint
def y5 (o0 : Reader) (o2_0 : Int) (o2_1 : BA) (o2_2 : LB) (o2_3 : LN) : Option (Except Int (Node × Reader)) :=
 ym (qa o0) (qa o2_0) (qa o2_1) (qa o2_2) (qa o2_3)
 partial_fixpoint
end
@[reducible] def Q8 (o0 : Reader) (o2_0 : Int) (o2_1 : BA) (o2_2 : LB) (o2_3 : LN) (r : Except Int (Node × Reader)) : Prop :=
  Ok Tryz.prog G tt 38 1 (exq (fun (r : Node × Reader) => Ret Tryz.prog [.cell 2 26] (fun y H => vd Tryz.prog G 1 H y (.agg (zp r.1)) ⟨1, [(0, .var 77 (Reader.cells r.2))]⟩)) (fun e => Jg (flt e)) r) (.again (ud [11, 17, 23] Tryz.f24 0).1 (ud [11, 17, 23] Tryz.f24 0).2 (.n (.ptr 0 0 0) (.n .undef (.n (.ptr 2 2 0) .z .z) .z) (.n (.ptr 1 1 0) .z .z)) 5 [(0, .var 77 (Reader.cells o0)), (1, .var 26 [(.int .i64 0), (.str ⟨#[]⟩), (.sl 0 true []), (.sl 0 true [])]), (2, .var 26 [(.int .i64 o2_0), (.str o2_1), (.bs 1 3 3 0 o2_2.length), (.bs 4 4 4 0 o2_3.length)]), (3, .row 9 (o2_2.map sc).flatten), (4, .row 26 (o2_3.map Node.cells).flatten)])
@[reducible] def Qs (o0 : Reader) (o2_0 : Int) (o2_1 : BA) (o2_2 : LB) (o2_3 : LN) (r : Except Int (Node × Reader)) : Prop :=
  Ok Tryz.prog G tt 38 1 (exq (fun (r : Node × Reader) => Ret Tryz.prog [.cell 2 26] (fun y H => vd Tryz.prog G 1 H y (.agg (zp r.1)) ⟨1, [(0, .var 77 (Reader.cells r.2))]⟩)) (fun e => Jg (flt e)) r) (.go [] (v7 [11, 17, 23] Tryz.f24 11) [] (.n (.ptr 0 0 0) (.n .undef (.n (.ptr 2 2 0) .z .z) .z) (.n (.ptr 1 1 0) .z .z)) 6 [(0, .var 77 (Reader.cells o0)), (1, .var 26 [(.int .i64 0), (.str ⟨#[]⟩), (.sl 0 true []), (.sl 0 true [])]), (2, .var 26 [(.int .i64 o2_0), (.str o2_1), (.bs 1 3 3 0 o2_2.length), (.bs 4 4 5 0 o2_3.length)]), (3, .row 9 (o2_2.map sc).flatten), (5, .row 26 (o2_3.map Node.cells).flatten)])
@[reducible] def Qr (o0 : Reader) (o2_0 : Int) (o2_1 : BA) (o2_2 : LB) (o2_3 : LN) (r : Except Int (Node × Reader)) : Prop :=
  Ok Tryz.prog G tt 38 1 (exq (fun (r : Node × Reader) => Ret Tryz.prog [.cell 2 26] (fun y H => vd Tryz.prog G 1 H y (.agg (zp r.1)) ⟨1, [(0, .var 77 (Reader.cells r.2))]⟩)) (fun e => Jg (flt e)) r) (.go [] (v7 [11, 17, 23] Tryz.f24 17) [] (.n (.ptr 0 0 0) (.n .undef (.n (.ptr 2 2 0) .z .z) .z) (.n (.ptr 1 1 0) .z .z)) 6 [(0, .var 77 (Reader.cells o0)), (1, .var 26 [(.int .i64 0), (.str ⟨#[]⟩), (.sl 0 true []), (.sl 0 true [])]), (2, .var 26 [(.int .i64 o2_0), (.str o2_1), (.bs 1 3 3 0 o2_2.length), (.bs 4 4 5 0 o2_3.length)]), (3, .row 9 (o2_2.map sc).flatten), (5, .row 26 (o2_3.map Node.cells).flatten)])
@[reducible] def Qq (o0 : Reader) (o2_0 : Int) (o2_1 : BA) (o2_2 : LB) (o2_3 : LN) (r : Except Int (Node × Reader)) : Prop :=
  Ok Tryz.prog G tt 38 1 (exq (fun (r : Node × Reader) => Ret Tryz.prog [.cell 2 26] (fun y H => vd Tryz.prog G 1 H y (.agg (zp r.1)) ⟨1, [(0, .var 77 (Reader.cells r.2))]⟩)) (fun e => Jg (flt e)) r) (.go [] (v7 [11, 17, 23] Tryz.f24 23) [] (.n (.ptr 0 0 0) (.n .undef (.n (.ptr 2 2 0) .z .z) .z) (.n (.ptr 1 1 0) .z .z)) 6 [(0, .var 77 (Reader.cells o0)), (1, .var 26 [(.int .i64 0), (.str ⟨#[]⟩), (.sl 0 true []), (.sl 0 true [])]), (2, .var 26 [(.int .i64 o2_0), (.str o2_1), (.bs 1 3 3 0 o2_2.length), (.bs 4 4 5 0 o2_3.length)]), (3, .row 9 (o2_2.map sc).flatten), (5, .row 26 (o2_3.map Node.cells).flatten)])
theorem uw : PC5 Q8 ja ∧ PC5 Qq y5 ∧ PC5 Qr ym ∧ PC5 Qs yn := by
 refine ja.mutual_partial_correctness Q8 Qq Qr Qs (fun y5 ym yn Qv u3 u4 o0 o2_0 o2_1 o2_2 o2_3 r h => ?_) (fun ym u3 o0 o2_0 o2_1 o2_2 o2_3 r h => ?_) (fun yn u4 o0 o2_0 o2_1 o2_2 o2_3 r h => ?_) (fun ja Zb o0 o2_0 o2_1 o2_2 o2_3 r h => ?_)
 ·unfold qa at h
  refine uy ?_
  refine kr [11, 17, 23] ?_
  obtain ⟨x1, hx, h⟩ := bind_some h
  refine qb (AC.g9 (zt _ _ hx) [0] [0]) ?_
  refine kr [11, 17, 23] ?_
  refine qf (fun hb => ?_) (fun hb => ?_)
  ·replace h := qw hb h
   refine kr [11, 17, 23] ?_
   obtain ⟨x2, hx, h⟩ := bind_some h
   refine qb (AC.g9 (zj _ _ _ hx) [0] [0]) ?_
   refine kr [11, 17, 23] ?_
   refine qf (fun hb => ?_) (fun hb => ?_)
   ·replace h := qw hb h
    refine kr [11, 17, 23] ?_
    obtain ⟨x3, hx, h⟩ := bind_some h
    rcases x3 with ee | x3
    ·replace h : some (.error ee) = some r := h
     cases h
     exact zd (FC.go (u1 _ _ hx) [0] [0] rfl rfl rfl rfl rfl rfl)
    refine qb (AC.g9 (u1 _ _ hx) [0] [0]) ?_
    refine kr [11, 17, 23] ?_
    obtain ⟨x4, hx, h⟩ := bind_some h
    refine qb (AC.g9 (z8 _ _ _ _ _ _ hx) [2, 3, 4] [2, 3, 4]) ?_
    refine kr [11, 17, 23] ?_
    exact qz (by kernel_rfl) rfl lQ (u4 _ _ _ _ _ _ h)
   replace h := qx hb h
   refine kr [11, 17, 23] ?_
   obtain ⟨x5, hx, h⟩ := bind_some h
   refine qb (AC.g9 (zj _ _ _ hx) [0] [0]) ?_
   refine kr [11, 17, 23] ?_
   refine qf (fun hb => ?_) (fun hb => ?_)
   ·replace h := qw hb h
    refine kr [11, 17, 23] ?_
    obtain ⟨x6, hx, h⟩ := bind_some h
    rcases x6 with ee | x6
    ·replace h : some (.error ee) = some r := h
     cases h
     exact zd (FC.go (Y3 _ _ hx) [0] [0] rfl rfl rfl rfl rfl rfl)
    refine qb (AC.g9 (Y3 _ _ hx) [0] [0]) ?_
    refine kr [11, 17, 23] ?_
    obtain ⟨x7, hx, h⟩ := bind_some h
    refine qb (AC.g9 (z8 _ _ _ _ _ _ hx) [2, 3, 4] [2, 3, 4]) ?_
    refine kr [11, 17, 23] ?_
    exact qz (by kernel_rfl) rfl lQ (u3 _ _ _ _ _ _ h)
   replace h := qx hb h
   refine kr [11, 17, 23] ?_
   obtain ⟨x8, hx, h⟩ := bind_some h
   refine qb (AC.g9 (zj _ _ _ hx) [0] [0]) ?_
   refine kr [11, 17, 23] ?_
   refine qf (fun hb => ?_) (fun hb => ?_)
   ·replace h := qw hb h
    refine kr [11, 17, 23] ?_
    obtain ⟨x9, hx, h⟩ := bind_some h
    rcases x9 with ee | x9
    ·replace h : some (.error ee) = some r := h
     cases h
     exact zd (FC.go (Qc _ _ _ _ hx) [0] [0] rfl rfl rfl rfl rfl rfl)
    refine qb (AC.g9 (Qc _ _ _ _ hx) [0] [0]) ?_
    refine kr [11, 17, 23] ?_
    obtain ⟨x10, hx, h⟩ := bind_some h
    refine qb (AC.g9 (z8 _ _ _ _ _ _ hx) [2, 3, 4] [2, 3, 4]) ?_
    refine kr [11, 17, 23] ?_
    exact qz (by kernel_rfl) rfl lQ (Qv _ _ _ _ _ _ h)
   replace h := qx hb h
   refine kr [11, 17, 23] ?_
   obtain ⟨x11, hx, h⟩ := bind_some h
   rcases x11 with ee | x11
   ·replace h : some (.error ee) = some r := h
    cases h
    exact zd (FC.go (zq _ _ hx) [0] [0] rfl rfl rfl rfl rfl rfl)
   refine qb (AC.g9 (zq _ _ hx) [0] [0]) ?_
   refine kr [11, 17, 23] ?_
   exact qz (by kernel_rfl) rfl lQ (Qv _ _ _ _ _ _ h)
  replace h := qx hb h
  refine kr [11, 17, 23] ?_
  obtain ⟨x12, hx, h⟩ := bind_some h
  refine qb (AC.g9 (zt _ _ hx) [0] [0]) ?_
  refine kr [11, 17, 23] ?_
  obtain ⟨x13, hx, h⟩ := bind_some h
  have hp_x13 := qgx hx (by simp)
  refine qex (C := sc) env hx rfl rfl (by simp) (fun _ => rfl) rfl rfl rfl rfl rfl (by decide) rfl rfl rfl ?_
  refine kr [11, 17, 23] ?_
  cases h
  exact j8 env rfl rfl (tS [some 0] (sV (lS (lS lN)) q7) (yf (yr (qh (qg (zy rfl) rfl) (qh (qg (jw rfl) rfl) (qh (qg (ya zr rfl) rfl) (qh (qg (ya ql rfl) rfl) yq))))) (by simp)))
 ·unfold qa at h
  refine kr [11, 17, 23] ?_
  exact qz (by kernel_rfl) rfl lQ (u3 _ _ _ _ _ _ h)
 ·unfold qa at h
  refine kr [11, 17, 23] ?_
  exact qz (by kernel_rfl) rfl lQ (u4 _ _ _ _ _ _ h)
 unfold qa at h
 refine kr [11, 17, 23] ?_
 exact wd (by kernel_rfl) lQ (Zb _ _ _ _ _ _ h)
theorem Zb : PC5 Q8 ja := uw.1
theorem Qv : PC5 Qq y5 := uw.2.1
theorem u3 : PC5 Qr ym := uw.2.2.1
theorem u4 : PC5 Qs yn := uw.2.2.2
def Zg (a0 : Reader) : Option (Except Int (Node × Reader)) :=
 ja a0 (1 : Int) (⟨#[]⟩) ([] : LB) ([] : LN)
@[reducible] def qdv (a0 : Reader) (r : Except Int (Node × Reader)) : Prop :=
  exq (fun (r : Node × Reader) => AC Tryz.prog G 24 [(.ptr 0 0 0)] 1 [(0, .var 77 (Reader.cells a0))] (.agg (zp r.1)) 1 [(0, .var 77 (Reader.cells r.2))]) (fun e => FC Tryz.prog G 24 [(.ptr 0 0 0)] 1 [(0, .var 77 (Reader.cells a0))] (flt e)) r
theorem Ko : PC1 qdv Zg := fun a0 r h => by
 rw [Zg.eq_def] at h
 refine Jw (T := tt) (N := 38) (rs := [.cell 2 26]) (fun vs w => by simp) Tryz.func24 rfl rfl rfl (by kernel_rfl) (by kernel_rfl) (zm rfl rfl jv) (qj zf) (fun r => (zo rfl j3)) (fun r => (qj zf)) (fun _ => rfl) (fun _ => rfl) rfl (fun _ => rfl) ?_
 refine kr [11, 17, 23] ?_
 refine qzw 2 2 1 9 rfl rfl rfl ?_
 refine qzw 2 3 4 26 rfl rfl rfl ?_
 exact wx (by kernel_rfl) lQ (Zb _ _ _ _ _ _ h)
def qb8 (a0 : Reader) : Option (Except Int (Node × Reader)) :=
 Zg a0 >>= fun x1 =>
 match x1 with
 | .error ee => some (.error ee)
 | .ok x1 =>
 some (.ok (x1.1, x1.2))
@[reducible] def qxu (a0 : Reader) (r : Except Int (Node × Reader)) : Prop :=
  exq (fun (r : Node × Reader) => AC Tryz.prog G 23 [(.ptr 0 0 0)] 1 [(0, .var 77 (Reader.cells a0))] (.agg (zp r.1)) 1 [(0, .var 77 (Reader.cells r.2))]) (fun e => FC Tryz.prog G 23 [(.ptr 0 0 0)] 1 [(0, .var 77 (Reader.cells a0))] (flt e)) r
theorem qpn : PC1 qxu qb8 := fun a0 r h => by
 rw [qb8.eq_def] at h
 refine Jw (T := tt) (N := 5) (rs := [.cell 2 26]) (fun vs w => by simp) Tryz.func23 rfl rfl rfl (by kernel_rfl) (by kernel_rfl) (zm rfl rfl jv) (qj zf) (fun r => (zo rfl j3)) (fun r => (qj zf)) (fun _ => rfl) (fun _ => rfl) rfl (fun _ => rfl) ?_
 refine kr [] ?_
 obtain ⟨x1, hx, h⟩ := bind_some h
 rcases x1 with ee | x1
 ·replace h : some (.error ee) = some r := h
  cases h
  exact zd (FC.go (Ko _ _ hx) [0] [0] rfl rfl rfl rfl rfl rfl)
 refine qb (AC.g9 (Ko _ _ hx) [0] [0]) ?_
 refine kr [] ?_
 cases h
 exact j8 env rfl rfl (tS [some 0] (sV (lS (lS lN)) q7) (yf (yr (qh (qg (zy rfl) rfl) (qh (qg (jw rfl) rfl) (qh (qg (kg (.inl rfl)) rfl) (qh (qg (kg (.inl rfl)) rfl) yq))))) (by simp)))
noncomputable def cfst : Code → Code
 | .seq x _ => x
 | c => c
noncomputable def csnd : Code → Code
 | .seq _ y => y
 | c => c
noncomputable def cthen : Code → Code
 | .cond _ x _ => x
 | c => c
theorem q7e (e : Int) (w : World) : (Instr.typeAssert (.iface 74 (.int .i64 e)) 20 74 true).run Tryz.prog w = .ok (.tuple #[.int .i64 e, .bool true]) w := by kernel_rfl
theorem qnk (x y z : Value) (w : World) : CallsD Tryz.prog 50 #[x, y, z] .returning w fun e u' w' => (∃ v, e = .returned v) ∧ u' = .returning ∧ w' = w := by
 refine callsD_of_wpS Tryz.func50 rfl fun c₀ cs hu => ?_
 apply wpS_seq
 apply wpS_region
 simp [wpOpsS, go_sem, recoverD, hu, Tryz.ntmps50, Exit.thenS]
 apply wpS_seq
 apply wpS_region
 simp [wpOpsS, go_sem, Exit.thenS]
 refine wpS_cond (t := false) (by simp [Act.eval, Array.replicate]) ?_
 simp only [Bool.false_eq_true, if_false]
 refine wpS_of_wp (wp_skip ?_)
 cases c₀
 simp_all [bodyPostS, results, Tryz.results50]
def qqb : List AV := [.int .i64 0, .str ⟨#[]⟩, .sl 0 true [], .sl 0 true []]
def qnl (e : Int) : Objs := [(0, .var 26 qqb), (1, .var 27 [.int .i64 1]), (2, .var 3 [.int .i64 e])]
noncomputable def rec5 : Code := csnd (csnd (cthen (csnd (csnd (qev Tryz.f50)))))
theorem q2l (e c6 : Int) : Ok Tryz.prog G tt 19 3 (Jk (fun _ H => H = ⟨3, qnl e⟩) (fun _ _ _ => False)) (.go [(0, .ptr 0 0 0), (1, .ptr 1 1 0), (2, .ptr 2 2 0), (4, .int .i64 e)] [.code rec5] [] .z 3 [(0, .var 26 qqb), (1, .var 27 [.int .i64 0]), (2, .var 3 [.int .i64 c6])]) := by
 refine kr [] ?_
 exact qmt rfl
theorem qht {w : World} {S F : Nat → Prop} {β : Nat → Nat} (e c6 : Int) (hH : HR G w S F β ⟨3, [(0, .var 26 qqb), (1, .var 27 [.int .i64 0]), (2, .var 3 [.int .i64 c6])]⟩) :
 CallsD Tryz.prog 50 #[.pointer (some ⟨β 0, 0, none⟩), .pointer (some ⟨β 1, 0, none⟩), .pointer (some ⟨β 2, 0, none⟩)] (.panicking (flt e)) w fun r u' w' =>
  (∃ v, r = .returned v) ∧ settle u' = .returning ∧ ∃ S' β', Ext w S F β 3 w' S' β' 3 ∧ HR G w' S' F β' ⟨3, qnl e⟩ := by
 refine callsD_of_wpS Tryz.func50 rfl fun c₀ cs hu => ?_
 have hA := Y2 (N := 19) (by kernel_rfl) (q2l e c6)
 apply wpS_seq
 apply wpS_region
 simp [wpOpsS, go_sem, recoverD, hu, Tryz.ntmps50, Exit.thenS, flt]
 apply wpS_seq
 apply wpS_region
 simp [wpOpsS, go_sem, Exit.thenS]
 refine wpS_cond (t := true) (by simp [Act.eval, Array.replicate]) ?_
 simp only [if_true]
 apply wpS_seq
 apply wpS_region
 simp [wpOpsS, go_sem, Exit.thenS, q7e]
 apply wpS_seq
 apply wpS_seq
 apply wpS_region
 simp [wpOpsS, go_sem, Exit.thenS]
 refine wpS_cond (t := false) (by simp [Act.eval, Array.replicate]) ?_
 simp only [Bool.false_eq_true, if_false]
 refine wpS_of_wp (wp_skip ?_)
 show rec5.wpS Tryz.prog _ _ _ _
 refine wpS_of_wp (wp_mono (hA [] w S F β _ (Nat.le_refl _) hH (FRx.of _ (by simp) rfl ?_)) ?_)
 ·intro q hq
  simp only [List.mem_cons, List.not_mem_nil, or_false] at hq
  rcases hq with rfl | rfl | rfl | rfl
  ·simpa using RV.ptr (w := w) (S := S) (β := β) 0 0 0 (by decide)
  ·simpa using RV.ptr (w := w) (S := S) (β := β) 1 1 0 (by decide)
  ·simpa using RV.ptr (w := w) (S := S) (β := β) 2 2 0 (by decide)
  simpa using RV.int .i64 e
 rintro x a' w' ⟨fr', H', S', β', q, hx, hp, hH', hf'⟩
 cases x with
 | normal =>
   cases (show H' = ⟨3, qnl e⟩ from q)
   exact ⟨hf'.defers, _, rfl, .tuple #[], by simp [results, Tryz.results50, go_sem], ⟨_, rfl⟩, rfl, S', β', hx, hH'⟩
 | _ => exact q.elim
abbrev rds : List ResultVar := [.cell 4 26, .cell 5 27, .cell 6 3]
noncomputable def rd0 : Code := cfst (qev Tryz.f22)
noncomputable def rd1 : Code := cfst (csnd (qev Tryz.f22))
noncomputable def rd2 : Code := cfst (csnd (csnd (qev Tryz.f22)))
noncomputable def rd2a : Code := cfst rd2
noncomputable def rd2b : Code := csnd rd2
noncomputable def cops : Code → List Oper
 | .region _ l _ => l.toList
 | _ => []
noncomputable def rdL : List Oper := cops (cfst (cthen rd2b))
theorem qw1 : rd2 = .seq rd2a (.cond (.tmp 16) (.seq (.region 3 rdL.toArray true) .ret) .skip) := by kernel_rfl
noncomputable def rd3 : Code := cfst (csnd (csnd (csnd (qev Tryz.f22))))
noncomputable def rd4 : Code := csnd (csnd (csnd (csnd (qev Tryz.f22))))
theorem qr6 : Tryz.f22.body = some (.seq rd0 (.seq rd1 (.seq rd2 (.seq rd3 rd4)))) := by kernel_rfl
def rdX (x : Node × Int × Int) : AV := .tup [.agg (zp x.1), .int .i64 x.2.1, .int .i64 x.2.2]
abbrev rdR (x : Node × Int × Int) : Exit → Fr → Hp → Prop := Ret Tryz.prog rds (fun z H => Told Tryz.prog G H z (rdX x))
def rdO (e at_ : Int) : Objs := [(0, .var 26 qqb), (1, .var 27 [.int .i64 e]), (2, .var 3 [.int .i64 at_])]
theorem qix {n : Nat} {objs : Objs} (a b : Int) : Told Tryz.prog G ⟨n, objs⟩ (.tup [.agg qqb, .int .i64 a, .int .i64 b]) (rdX (Node.mk 0 ⟨#[]⟩ [] [], a, b)) :=
 qgo (qgn (vr (q1z (qd5 (zy rfl) (qd5 (jw rfl) (qd5 (kg (.inr rfl)) (qd5 (kg (.inr rfl)) q0c))))) (vr (Ye (zy rfl) (by simp)) (vr (Ye (zy rfl) (by simp)) qd4))))
theorem qj8 (e : Int) : rdR (Node.mk 0 ⟨#[]⟩ [] [], 1, e) .normal (puts [(4, .ptr 0 0 0), (5, .ptr 1 1 0), (6, .ptr 2 2 0)] (frT .z)) ⟨3, qnl e⟩ := by
 have h : Ok Tryz.prog G tt 32 0 (rdR (Node.mk 0 ⟨#[]⟩ [] [], 1, e)) (.go [(4, .ptr 0 0 0), (5, .ptr 1 1 0), (6, .ptr 2 2 0)] [] [] .z 3 (qnl e)) := by
  refine kr [] ?_
  exact ji env rfl (qix 1 e)
 unfold Ok at h
 exact h rfl
theorem qno (e at_ : Int) : AWp Tryz.prog G 32 0 (.seq (.region 3 rdL.toArray true) .ret) (fun x fr H => x = .ret ∧ rdR (Node.mk 0 ⟨#[]⟩ [] [], e, at_) .ret fr H) (puts [(4, .ptr 0 0 0), (5, .ptr 1 1 0), (6, .ptr 2 2 0)] (frT .z)) ⟨3, rdO e at_⟩ := by
 have h : anyS tt G rdL.toArray (fun fr _ objs => qiv tt fr objs rds qha) [(4, .ptr 0 0 0), (5, .ptr 1 1 0), (6, .ptr 2 2 0)] .z 3 (rdO e at_) = some (List.replicate 15 (.tup [.agg qqb, .int .i64 e, .int .i64 at_])) := by kernel_rfl
 refine qjw (q6q env (by kernel_rfl) h (fun z hz fr n objs hl => Qf (qz5 ⟨rfl, ?_⟩)))
 obtain rfl := List.eq_of_mem_replicate hz
 have h := j8 (P := Tryz.prog) (G := G) (N := 32) (p := 0) (n := n) (k := []) (K := fun z H => Told Tryz.prog G H z (rdX (Node.mk 0 ⟨#[]⟩ [] [], e, at_))) env rfl hl (qix _ _)
 unfold Ok at h
 exact h rfl
def qg8 (w : World) (S F : Nat → Prop) (β : Nat → Nat) (x : Node × Int × Int) (e : Ending) (w' : World) : Prop :=
 ∃ v, e = .returned v ∧ ∃ S' β', Ext w S F β 0 w' S' β' 0 ∧ HR G w' S' F β' ⟨0, []⟩ ∧ RV w' S' β' 0 (rdX x) v
theorem q2n (x : Node × Int × Int) : Pure (rdX x) := .tup _ (by
 intro y hy
 simp only [List.mem_cons, List.not_mem_nil, or_false] at hy
 rcases hy with rfl | rfl | rfl
 ·exact .agg _ (by
   intro z hz
   simp only [List.mem_cons, List.not_mem_nil, or_false] at hz
   rcases hz with rfl | rfl | rfl | rfl <;> constructor)
 ·constructor
 constructor)
theorem qef {w w' : World} {S F S' : Nat → Prop} {β β' : Nat → Nat} {D : List Deferred} {fr : Fr} {H : Hp} {a : Act} {x : Node × Int × Int} (q : rdR x .normal fr H) (hx : Ext w S F β 0 w' S' β' 0) (hH : HR G w' S' F β' H) (hf : FRx D w' S' β' H.n 32 fr a) (hG : HR G w S F β ⟨0, []⟩) :
 Leaves Tryz.prog Tryz.f22 a.tmps (qg8 w S F β x) [] .returning w' := by
 obtain ⟨z, hz, ht⟩ := q
 unfold Told at ht
 obtain ⟨v, hrun, hR⟩ := qhr (P := Tryz.prog) (fn := Tryz.f22) hH hf (show Q3 _ Tryz.f22.results.toList fr H = some z from hz)
 obtain ⟨S2, hx2, hl, hR2⟩ := ht w' S' F β' v hH hR
 exact ⟨v, hrun, v, rfl, S2, β', hx.trans hx2, ⟨hl, fun k hk => Nat.lt_of_lt_of_le (hG.ltf k hk) (hx.trans hx2).size, fun g => (hG.glob g).ext (hx.trans hx2), by simp, by simp, by simp⟩, hR2.pure (q2n x)⟩
theorem qaj {w : World} {S : Nat → Prop} {β : Nat → Nat} {n i s : Nat} {v : Value} (h : RV w S β n (.ptr i s 0) v) : v = .pointer (some ⟨β s, 0, none⟩) := by
 cases h; rfl
def Wo (s : BA) : Option (Node × Int × Int) :=
 uo s >>= fun t =>
 if (!decide (t.2.1 = (0 : Int))) = true then some (Node.mk 0 ⟨#[]⟩ [] [], t.2.1, t.2.2)
 else qb8 ⟨t.1, 0⟩ >>= fun x => match x with
  | .error e => some (Node.mk 0 ⟨#[]⟩ [] [], 1, e)
  | .ok x => yw x.1 >>= fun c => if (decide (c = (3 : Int))) = true then some (Node.mk 0 ⟨#[]⟩ [] [], 3, 0) else some (x.1, 0, 0)
def vw (t : List Token × Int × Int) (fr : Fr) (H : Hp) : Prop := (fr 1 = .fn 23 [] ∧ fr 4 = .ptr 0 0 0 ∧ fr 5 = .ptr 1 1 0 ∧ fr 6 = .ptr 2 2 0 ∧ fr 7 = .sl 4 false (t.1.map Token.cells)) ∧ H = ⟨3, rdO t.2.1 t.2.2⟩
theorem qle (s : BA) (t : List Token × Int × Int) (ht : uo s = some t) (x : Node × Int × Int) :
 Ok Tryz.prog G tt 32 0 (Jk (fun fr H => fr 16 = .bool (!decide (t.2.1 = (0 : Int))) ∧ vw t fr H) (rdR x)) (.go (qfa 0 [.str s, .fn 23 []]) [.code rd0, .code rd1, .code rd2a] [] .z 0 []) := by
 refine kr [] ?_
 refine qn (W4 _ _ ht) ?_
 refine kr [] ?_
 exact qmt ⟨rfl, ⟨rfl, rfl, rfl, rfl, rfl⟩, rfl⟩
theorem qlb (t : List Token × Int × Int) (x : Node × Int × Int) (hx : (!decide (t.2.1 = (0 : Int))) = true → x = (Node.mk 0 ⟨#[]⟩ [] [], t.2.1, t.2.2)) (fr : Fr) (H : Hp)
 (h : AWp Tryz.prog G 32 0 rd2a (Jk (fun fr H => fr 16 = .bool (!decide (t.2.1 = (0 : Int))) ∧ vw t fr H) (rdR x)) fr H) : AWp Tryz.prog G 32 0 rd2 (Jk (fun fr H => (!decide (t.2.1 = (0 : Int))) = false ∧ vw t fr H) (rdR x)) fr H := by
 rw [qw1]
 refine qjw (h.mono ?_)
 intro e fr H q
 cases e with
 | normal =>
   obtain ⟨hc, hk⟩ := (show _ ∧ _ from q)
   refine Qf (qd3 hc (fun hb => ?_) (fun hb => qjv (Qf ⟨hb, hk⟩)))
   obtain ⟨⟨g1, g4, g5, g6, g7⟩, rfl⟩ := hk
   cases hx hb
   refine (qcb (qke [(4, .ptr 0 0 0), (5, .ptr 1 1 0), (6, .ptr 2 2 0)] (by simp [g4, g5, g6])) (qno t.2.1 t.2.2)).mono ?_
   rintro e fr H ⟨rfl, q⟩
   exact q
 | _ => exact q
theorem qko (l : List Token) (e : Int) (h : qb8 ⟨l, 0⟩ = some (.error e)) :
 Ok Tryz.prog G tt 32 3 (fun e' fr _ => e' = .panic (flt e) ∧ fr 4 = .ptr 0 0 0 ∧ fr 5 = .ptr 1 1 0 ∧ fr 6 = .ptr 2 2 0) (.go [(1, .fn 23 []), (4, .ptr 0 0 0), (5, .ptr 1 1 0), (6, .ptr 2 2 0), (7, .sl 4 false (l.map Token.cells))] [.code rd4] [] .z 3 []) := by
 refine kr [] ?_
 exact qkt (FC.go (qpn _ _ h) [0] [3] rfl rfl rfl rfl rfl rfl) ⟨rfl, rfl, rfl, rfl⟩
theorem qk0 (l : List Token) (e at_ : Int) (r : Node × Reader) (h : qb8 ⟨l, 0⟩ = some (.ok r)) (c : Int) (hc : yw r.1 = some c) (x : Node × Int × Int) (hx : (if (decide (c = (3 : Int))) = true then some (Node.mk 0 ⟨#[]⟩ [] [], 3, 0) else some (r.1, 0, 0)) = some x) :
 Ok Tryz.prog G tt 32 0 (rdR x) (.go [(1, .fn 23 []), (4, .ptr 0 0 0), (5, .ptr 1 1 0), (6, .ptr 2 2 0), (7, .sl 4 false (l.map Token.cells))] [.code rd4] [] .z 3 (rdO e at_)) := by
 refine kr [] ?_
 refine qb (AC.g9 (qpn _ _ h) [3] [3]) ?_
 refine kr [] ?_
 refine qn (Zt _ _ hc) ?_
 refine kr [] ?_
 refine qf (fun hb => ?_) (fun hb => ?_)
 ·rw [if_pos hb] at hx
  cases hx
  refine kr [] ?_
  exact j8 env rfl rfl (qix _ _)
 rw [if_neg (by rw [hb]; decide)] at hx
 cases hx
 refine kr [] ?_
 exact j8 env rfl rfl (zk rfl)
theorem qk8 (s : BA) (x : Node × Int × Int) (h : Wo s = some x) : ACalls Tryz.prog G 22 [.str s, .fn 23 []] ⟨0, []⟩ (rdX x) ⟨0, []⟩ := by
 obtain ⟨t, ht, h⟩ := bind_some h
 intro w S F β vs hH hv
 rw [show (callFunc 22 vs).run Tryz.prog w = .ok (.enter 22 vs) w by simp]
 show Calls Tryz.prog 22 vs w (qg8 w S F β x)
 refine calls_of_wp_defers Tryz.func22 qr6 ?_
 have hA := Y2 (N := 32) (by kernel_rfl) (qle s t ht x)
 rw [Km] at hA
 have hf := qdi (N := 32) hv (Nat.le_of_ble_eq_true rfl)
 have fin : ∀ (e : Exit) (fr' : Fr) (H' : Hp) (w' : World) (S' : Nat → Prop) (β' : Nat → Nat) (a' : Act), rdR x e fr' H' → Ext w S F β 0 w' S' β' 0 → HR G w' S' F β' H' → FRx [] w' S' β' H'.n 32 fr' a' → bodyPostD Tryz.prog Tryz.f22 (qg8 w S F β x) e a' w' := by
  intro e fr' H' w' S' β' a' q hx hH' hf'
  have hl := fun q => qef (x := x) q hx hH' hf' hH
  cases e <;> first
   | exact q.elim
   | (show Leaves _ _ _ _ a'.defers _ _; rw [hf'.defers]; exact hl q)
 refine Kv hA (Nat.zero_le _) hH hf (fun fr1 H1 w1 S1 β1 a1 q1 hx1 _ hH1 hf1 => ?_) (fun e fr' H' w' S' β' a' he q hx _ hH' hf' => fin e fr' H' w' S' β' a' (W6 he (qxp he q)) hx hH' hf')
 refine Kv q1 (Nat.zero_le _) hH1 hf1 (fun fr2 H2 w2 S2 β2 a2 q2 hx2 _ hH2 hf2 => ?_) (fun e fr' H' w' S' β' a' he q hx _ hH' hf' => fin e fr' H' w' S' β' a' (W6 he q) (hx1.trans hx) hH' hf')
 refine Kv (qlb t x (fun hb => by rw [if_pos hb] at h; cases h; rfl) fr2 H2 q2) (Nat.zero_le _) hH2 hf2 (fun fr3 H3 w3 S3 β3 a3 q3 hx3 _ hH3 hf3 => ?_) (fun e fr' H' w' S' β' a' he q hx _ hH' hf' => fin e fr' H' w' S' β' a' q ((hx1.trans hx2).trans hx) hH' hf')
 obtain ⟨hb, ⟨g1, g4, g5, g6, g7⟩, rfl⟩ := (show _ ∧ _ ∧ _ from q3)
 have hx0 := (hx1.trans hx2).trans hx3
 rw [if_neg (by rw [hb]; decide)] at h
 obtain ⟨r, hr, h⟩ := bind_some h
 refine wp_seq ?_
 refine qee (u := 20) (f := 50) (cs := #[.tmp 4, .tmp 5, .tmp 6]) (by rw [hf3.size]; decide) ?_
 have e4 := qaj (g4 ▸ hf3.val 4)
 have e5 := qaj (g5 ▸ hf3.val 5)
 have e6 := qaj (g6 ▸ hf3.val 6)
 have hcs : (#[Operand.tmp 4, .tmp 5, .tmp 6] : Array Operand).map a3.eval = #[.pointer (some ⟨β3 0, 0, none⟩), .pointer (some ⟨β3 1, 0, none⟩), .pointer (some ⟨β3 2, 0, none⟩)] := by
  simp [Act.eval, e4, e5, e6]
 rw [hcs]
 have hf3' := hf3.put (d := some 20) rfl (RV.undef (w := w3) (S := S3) (β := β3) (n := 3) (.func (.func 50) #[] #[.pointer (some ⟨β3 0, 0, none⟩), .pointer (some ⟨β3 1, 0, none⟩), .pointer (some ⟨β3 2, 0, none⟩)]))
 have hq := hf3'.some [(1, .fn 23 []), (4, .ptr 0 0 0), (5, .ptr 1 1 0), (6, .ptr 2 2 0), (7, .sl 4 false (t.1.map Token.cells))] (by simp [Qg, g1, g4, g5, g6, g7])
 generalize hd : a3.defers = d3 at *
 have hd3 : d3 = [] := by rw [← hd]; exact hf3.defers
 subst hd3
 have hf4 := FRx.of (a := ⟨a3.tmps.setIfInBounds 20 (.func (.func 50) #[] #[.pointer (some ⟨β3 0, 0, none⟩), .pointer (some ⟨β3 1, 0, none⟩), .pointer (some ⟨β3 2, 0, none⟩)]), [{ target := .fn (.func 50) #[.pointer (some ⟨β3 0, 0, none⟩), .pointer (some ⟨β3 1, 0, none⟩), .pointer (some ⟨β3 2, 0, none⟩)], args := #[] }]⟩) _ hf3'.size rfl hq
 show rd4.wp _ _ _ _
 cases r with
 | error e =>
   cases h
   have hB := Y2 (N := 32) (by kernel_rfl) (qko t.1 e hr)
   refine wp_mono (hB _ w3 S3 _ β3 _ (Nat.le_refl _) hH3.hide hf4) ?_
   rintro e' a' w' ⟨fr', H', S', β', ⟨rfl, k4, k5, k6⟩, hx, hp, hH', hf'⟩
   obtain ⟨hx', hH''⟩ := hH3.unhide hx hH'.lts
   show Leaves _ _ _ _ a'.defers _ _
   rw [hf'.defers]
   refine leaves_cons (f := 50) (args := #[.pointer (some ⟨β3 0, 0, none⟩), .pointer (some ⟨β3 1, 0, none⟩), .pointer (some ⟨β3 2, 0, none⟩)]) (by simp) (by simp [go_sem]) ?_
   have hc := qht e t.2.2 (show HR G w' S' F β' ⟨3, rdO 0 t.2.2⟩ by
    have h0 : t.2.1 = 0 := by simpa using hb
    rw [← h0]; exact hH'')
   rw [hx'.beta 0 (show 0 < 3 by decide), hx'.beta 1 (show 1 < 3 by decide), hx'.beta 2 (show 2 < 3 by decide)] at hc
   refine hc.mono ?_
   rintro r u' w'' ⟨⟨v, rfl⟩, hs, S'', β'', hx'', hH3''⟩
   show Leaves _ _ _ _ [] (settle u') w''
   rw [hs]
   refine qef (D := a'.defers) (a := a') (qj8 e) (hx0.trans ((hx'.trans hx'').lower (Nat.zero_le _))) hH3'' (FRx.of _ hf'.size rfl ?_) hH
   intro q hm
   simp only [List.mem_cons, List.not_mem_nil, or_false] at hm
   have hv : ∀ (i s : Nat) (t : Nat), s < 3 → fr' t = .ptr i s 0 → RV w'' S'' β'' 3 (.ptr i s 0) (a'.tmps.getD t Go.undef) := fun i s t hs3 ht => by
    have h1 := hf'.val t
    rw [ht] at h1
    rw [qaj h1, ← hx''.beta s hs3]
    exact .ptr i s 0 hs3
   rcases hm with rfl | rfl | rfl
   ·exact hv _ _ _ (by decide) k4
   ·exact hv _ _ _ (by decide) k5
   exact hv _ _ _ (by decide) k6
 | ok r =>
   obtain ⟨c, hc, h⟩ := bind_some h
   have hB := Y2 (N := 32) (by kernel_rfl) (qk0 t.1 t.2.1 t.2.2 r hr c hc x h)
   refine wp_mono (hB _ w3 S3 F β3 _ (Nat.zero_le _) hH3 hf4) ?_
   rintro e' a' w' ⟨fr', H', S', β', q, hx, hp, hH', hf'⟩
   have hl : rdR x .normal fr' H' → Leaves Tryz.prog Tryz.f22 a'.tmps (qg8 w S F β x) a'.defers .returning w' := fun q => by
    rw [hf'.defers]
    refine leaves_cons (f := 50) (args := #[.pointer (some ⟨β3 0, 0, none⟩), .pointer (some ⟨β3 1, 0, none⟩), .pointer (some ⟨β3 2, 0, none⟩)]) (by simp) (by simp [go_sem]) ?_
    refine (qnk _ _ _ w').mono ?_
    rintro r u' w'' ⟨⟨v, rfl⟩, rfl, rfl⟩
    exact qef q (hx0.trans hx) hH' hf' hH
   cases e' <;> first
    | exact q.elim
    | exact hl q
theorem qk3 : PC1 (fun (s : BA) (x : Node × Int × Int) => AC Tryz.prog G 22 [.str s, .fn 23 []] 0 [] (.tup [.agg (zp x.1), .int .i64 x.2.1, .int .i64 x.2.2]) 0 []) Wo := fun s x h => AC.plain (qk8 s x h) rfl rfl
def Jr (a0 : BA) : Option (Node × Int × Int) :=
 Wo a0 >>= fun x1 =>
 some (x1.1, x1.2.1, x1.2.2)
@[reducible] def qpc (a0 : BA) (r : Node × Int × Int) : Prop :=
  Fn Tryz.prog G 9 [(.str a0)] (.tup [(.agg (zp r.1)), (.int .i64 r.2.1), (.int .i64 r.2.2)])
theorem qb1 : PC1 qpc Jr := fun a0 r h => by
 rw [Jr.eq_def] at h
 refine jk (T := tt) (N := 10) (rs := [.cell 2 26, .tmp 3, .tmp 4]) (fun vs w => by simp) Tryz.func9 rfl rfl rfl rfl (by kernel_rfl) (ko rfl) (jn _ rfl) ?_
 refine kr [] ?_
 obtain ⟨x1, hx, h⟩ := bind_some h
 refine qb (AC.g9 (qk3 _ _ hx) [] []) ?_
 refine kr [] ?_
 cases h
 exact kf
def Yt (a0 : Reader) : Option (Except Int (Node × Reader)) :=
 q8 a0 (1 : Int) >>= fun x1 =>
 match x1 with
 | .error ee => some (.error ee)
 | .ok x1 =>
 some (.ok (x1.1, x1.2))
@[reducible] def qih (a0 : Reader) (r : Except Int (Node × Reader)) : Prop :=
  exq (fun (r : Node × Reader) => AC Tryz.prog G 30 [(.ptr 0 0 0)] 1 [(0, .var 77 (Reader.cells a0))] (.agg (zp r.1)) 1 [(0, .var 77 (Reader.cells r.2))]) (fun e => FC Tryz.prog G 30 [(.ptr 0 0 0)] 1 [(0, .var 77 (Reader.cells a0))] (flt e)) r
theorem qb2 : PC1 qih Yt := fun a0 r h => by
 rw [Yt.eq_def] at h
 refine Jw (T := tt) (N := 5) (rs := [.cell 2 26]) (fun vs w => by simp) Tryz.func30 rfl rfl rfl (by kernel_rfl) (by kernel_rfl) (zm rfl rfl jv) (qj zf) (fun r => (zo rfl j3)) (fun r => (qj zf)) (fun _ => rfl) (fun _ => rfl) rfl (fun _ => rfl) ?_
 refine kr [] ?_
 obtain ⟨x1, hx, h⟩ := bind_some h
 rcases x1 with ee | x1
 ·replace h : some (.error ee) = some r := h
  cases h
  exact zd (FC.go (qu _ _ _ hx) [0] [0] rfl rfl rfl rfl rfl rfl)
 refine qb (AC.g9 (qu _ _ _ hx) [0] [0]) ?_
 refine kr [] ?_
 cases h
 exact j8 env rfl rfl (tS [some 0] (sV (lS (lS lN)) q7) (yf (yr (qh (qg (zy rfl) rfl) (qh (qg (jw rfl) rfl) (qh (qg (kg (.inl rfl)) rfl) (qh (qg (kg (.inl rfl)) rfl) yq))))) (by simp)))
def Wt (o0 : Reader) (o2 : Node) : Option (Except Int (Node × Reader)) :=
 some (.ok (o2, o0))
end Go.Proofs.YtigmilhpeodhbaaGreatDoorW.Ex.Gr
