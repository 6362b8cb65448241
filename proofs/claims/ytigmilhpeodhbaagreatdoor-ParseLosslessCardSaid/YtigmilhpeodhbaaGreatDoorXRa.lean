/- The functions of the program's layer 9 and of its references, printed as functions on numbers, strings, lists and trees, with the proofs that they are what the code computes. Conditions: those in each theorem. -/
import Derived.Test.YtigmilhpeodhbaaGreatDoorGh
import Derived.Test.YtigmilhpeodhbaaGreatDoorYa
import Derived.Test.YtigmilhpeodhbaaGreatDoorExZ
import Derived.Test.YtigmilhpeodhbaaGreatDoorExF
import Derived.Test.YtigmilhpeodhbaaGreatDoorT8
import Derived.Test.YtigmilhpeodhbaaGreatDoorT0
namespace Go.Proofs.YtigmilhpeodhbaaGreatDoorW.Ex.Gr
open Go Go.Proofs.YtigmilhpeodhbaaGreatDoorW.Ex
set_option linter.all false
set_option maxRecDepth 100000
set_option synthInstance.maxSize 4000
set_option maxHeartbeats 4000000
open Go.Proofs.YtigmilhpeodhbaaGreatDoorW.Plain
structure Token where
 Kind : Int
 Lead : ByteArray
 Text : ByteArray
 At : Int
def Token.cells (x : Token) : List AV := [(.int .i64 x.Kind), (.str x.Lead), (.str x.Text), (.int .i64 x.At)]
theorem Kh : CellsOk Token.cells 4 := ⟨fun _ => rfl, by decide, fun a z hz => by
 simp only [Token.cells, List.mem_cons, List.not_mem_nil, or_false] at hz
 rcases hz with rfl | rfl | rfl | rfl <;> exact ⟨rfl, rfl⟩⟩
structure Reader where
 l_ : (List Token)
 at_ : Int
def Reader.cells (x : Reader) : List AV := [(.sl 4 false (x.l_.map Token.cells)), (.int .i64 x.at_)]
@[reducible] def PC0 {R : Type} (M : R → Prop) (F : Option R) : Prop := ∀ r, F = some r → M r
@[reducible] def PC1 {A0 R : Type} (M : A0 → R → Prop) (F : A0 → Option R) : Prop := ∀ a0 r, F a0 = some r → M a0 r
@[reducible] def PC2 {A0 A1 R : Type} (M : A0 → A1 → R → Prop) (F : A0 → A1 → Option R) : Prop := ∀ a0 a1 r, F a0 a1 = some r → M a0 a1 r
@[reducible] def PC3 {A0 A1 A2 R : Type} (M : A0 → A1 → A2 → R → Prop) (F : A0 → A1 → A2 → Option R) : Prop := ∀ a0 a1 a2 r, F a0 a1 a2 = some r → M a0 a1 a2 r
@[reducible] def PC4 {A0 A1 A2 A3 R : Type} (M : A0 → A1 → A2 → A3 → R → Prop) (F : A0 → A1 → A2 → A3 → Option R) : Prop := ∀ a0 a1 a2 a3 r, F a0 a1 a2 a3 = some r → M a0 a1 a2 a3 r
@[reducible] def PC5 {A0 A1 A2 A3 A4 R : Type} (M : A0 → A1 → A2 → A3 → A4 → R → Prop) (F : A0 → A1 → A2 → A3 → A4 → Option R) : Prop := ∀ a0 a1 a2 a3 a4 r, F a0 a1 a2 a3 a4 = some r → M a0 a1 a2 a3 a4 r
@[reducible] def PC6 {A0 A1 A2 A3 A4 A5 R : Type} (M : A0 → A1 → A2 → A3 → A4 → A5 → R → Prop) (F : A0 → A1 → A2 → A3 → A4 → A5 → Option R) : Prop := ∀ a0 a1 a2 a3 a4 a5 r, F a0 a1 a2 a3 a4 a5 = some r → M a0 a1 a2 a3 a4 a5 r
@[reducible] def PC8 {A0 A1 A2 A3 A4 A5 A6 A7 R : Type} (M : A0 → A1 → A2 → A3 → A4 → A5 → A6 → A7 → R → Prop) (F : A0 → A1 → A2 → A3 → A4 → A5 → A6 → A7 → Option R) : Prop := ∀ a0 a1 a2 a3 a4 a5 a6 a7 r, F a0 a1 a2 a3 a4 a5 a6 a7 = some r → M a0 a1 a2 a3 a4 a5 a6 a7 r
@[reducible] def PC9 {A0 A1 A2 A3 A4 A5 A6 A7 A8 R : Type} (M : A0 → A1 → A2 → A3 → A4 → A5 → A6 → A7 → A8 → R → Prop) (F : A0 → A1 → A2 → A3 → A4 → A5 → A6 → A7 → A8 → Option R) : Prop := ∀ a0 a1 a2 a3 a4 a5 a6 a7 a8 r, F a0 a1 a2 a3 a4 a5 a6 a7 a8 = some r → M a0 a1 a2 a3 a4 a5 a6 a7 a8 r
@[reducible] def PC10 {A0 A1 A2 A3 A4 A5 A6 A7 A8 A9 R : Type} (M : A0 → A1 → A2 → A3 → A4 → A5 → A6 → A7 → A8 → A9 → R → Prop) (F : A0 → A1 → A2 → A3 → A4 → A5 → A6 → A7 → A8 → A9 → Option R) : Prop := ∀ a0 a1 a2 a3 a4 a5 a6 a7 a8 a9 r, F a0 a1 a2 a3 a4 a5 a6 a7 a8 a9 = some r → M a0 a1 a2 a3 a4 a5 a6 a7 a8 a9 r
@[reducible] def PC11 {A0 A1 A2 A3 A4 A5 A6 A7 A8 A9 A10 R : Type} (M : A0 → A1 → A2 → A3 → A4 → A5 → A6 → A7 → A8 → A9 → A10 → R → Prop) (F : A0 → A1 → A2 → A3 → A4 → A5 → A6 → A7 → A8 → A9 → A10 → Option R) : Prop := ∀ a0 a1 a2 a3 a4 a5 a6 a7 a8 a9 a10 r, F a0 a1 a2 a3 a4 a5 a6 a7 a8 a9 a10 = some r → M a0 a1 a2 a3 a4 a5 a6 a7 a8 a9 a10 r
theorem Node.cells_eq (n : Node) : n.cells = zp n := Go.Proofs.YtigmilhpeodhbaaGreatDoorW.Ex.Gr.cells_eq n
theorem Node.cells_len (n : Node) : n.cells.length = 4 := by rw [Node.cells_eq]; rfl
theorem qk : CellsOk Node.cells 4 := ⟨Node.cells_len, by decide, fun n z hz => by
 rw [Node.cells_eq] at hz
 simp only [List.mem_cons, List.not_mem_nil, or_false] at hz
 rcases hz with rfl | rfl | rfl | rfl <;> exact ⟨rfl, rfl⟩⟩
mutual
def wfB : Node → Bool
 | .mk _ t g l => decide (l.length ≤ 9223372036854775807) && decide (g.length ≤ 9223372036854775807) && decide (t.size ≤ 9223372036854775807) && g.all (fun s => decide (s.size ≤ 9223372036854775807)) && wfBL l
def wfBL : List Node → Bool
 | [] => true
 | n :: l => wfB n && wfBL l
end
mutual
theorem qzf : ∀ n : Node, wfB n = true → Wf n
 | .mk k t g l, h => by
   simp only [wfB, Bool.and_eq_true, decide_eq_true_eq, List.all_eq_true] at h
   exact .mk _ h.1.1.1.1 h.1.1.1.2 h.1.1.2 h.1.2 (qvt l h.2)
theorem qvt : ∀ l : List Node, wfBL l = true → ∀ m ∈ l, Wf m
 | [], _, m, hm => by cases hm
 | n :: l, h, m, hm => by
   simp only [wfBL, Bool.and_eq_true] at h
   rcases List.mem_cons.1 hm with e | hm
   ·rw [e]; exact qzf n h.1
   ·exact qvt l h.2 m hm
end
def yp (n : Node) : Option Int := if wfB n = true then some (checkErr n) else none
theorem Q2 (n : Node) (r : Int) (h : yp n = some r) : Fn Tryz.prog G 18 [.agg (zp n)] (.int .i64 r) := by
 unfold yp at h
 split at h
 ·rename_i hc; cases h; exact qof n (qzf n hc)
 ·cases h
def qn5 (n : Node) : Option Int := if wfB n = true then some (checkErr n) else none
def yt (s : ByteArray) (c : Int) : Option Int := some (Lib.indexByte s.data.toList c.toNat.toUInt8)
theorem kj (s : ByteArray) (c : Int) (r : Int) (h : yt s c = some r) : Fn Tryz.prog G 142 [.str s, .int .u8 c] (.int .i64 r) := by
 cases h; exact qbd s c
def Zn (s : ByteArray) (i : Int) : Option ByteArray := if 0 ≤ i ∧ i ≤ 9223372036854775807 ∧ s.size * i.toNat ≤ 140737488355328 then some (⟨(Lib.repeatL s.data.toList i.toNat).toArray⟩ : ByteArray) else none
theorem qg1 (s : ByteArray) (i : Int) (r : ByteArray) (h : Zn s i = some r) : Fn Tryz.prog G 152 [.str s, .int .i64 i] (.str r) := by
 unfold Zn at h
 split at h
 ·rename_i hc; cases h; exact strings_Repeat s i hc.1 hc.2.1 hc.2.2
 ·cases h
def Jy (s : ByteArray) (a : Int) : Option Int := if s.size ≤ 9223372036854775807 then some (qjy s a) else none
theorem qnx (s : ByteArray) (a : Int) (r : Int) (h : Jy s a = some r) : Fn Tryz.prog G 94 [.str s, .int .i64 a] (.int .i64 r) := by
 unfold Jy at h
 split at h
 ·rename_i hc; cases h; exact qlc s a hc
 ·cases h
def Yo (s : ByteArray) : Option Bool := if s.size ≤ 281474976710656 then some (Y3 s.data.toList) else none
theorem qh5 (s : ByteArray) (r : Bool) (h : Yo s = some r) : Fn Tryz.prog G 129 [.str s] (.bool r) := by
 unfold Yo at h
 split at h
 ·rename_i hc; cases h; exact qob s hc
 ·cases h
def qt5 (s : ByteArray) (a : Int) : Option Int := if s.size ≤ 9223372036854775807 then some (qjy s a) else none
def Kq (s : ByteArray) : Option Bool := some (Y7 s.data.toList)
theorem qe8 (s : ByteArray) (r : Bool) (h : Kq s = some r) : Fn Tryz.prog G 72 [.str s] (.bool r) := by
 cases h; exact ql8 s
def Wg (n : Node) : Option Int := if n.kids.length ≤ 9223372036854775807 then some (own n) else none
theorem qki (n : Node) (r : Int) (h : Wg n = some r) : Fn Tryz.prog G 79 [.agg (zp n)] (.int .i64 r) := by
 unfold Wg at h
 split at h
 ·rename_i hc; cases h; exact qjv n hc
 ·cases h
/-- What a function panics with that reports a token. -/
def flt (e : Int) : List PanicEntry := [{ v := .iface 74 (.int .i64 e), recovered := false }]
abbrev LB := List ByteArray
abbrev LN := List Node
abbrev LU := List UInt8
section
variable {ps : List (Nat × AV)} {k : List Item} {kn : List Nat} {fr fr' : FT} {n n' N p m m' r n2 : Nat} {objs objs' objs2 O O' : Objs} {Q : Exit → Fr → Hp → Prop} {ρ : Nat → Nat}
theorem kr (bars : List Nat) {c : Cfg} (hc : Ok Tryz.prog G tt N p Q c) (h : runK tt G bars 2000 ps k kn fr n objs = some c := by exact rfl) : Ok Tryz.prog G tt N p Q (.go ps k kn fr n objs) := W8 env bars h hc
theorem kf {rs : List ResultVar} {y : AV} (hk : qfy k = true := by exact rfl) (h : qhb tt fr objs rs qfx = some y := by exact rfl) : Ok Tryz.prog G tt N p (Ret Tryz.prog rs (fun z H => Told Tryz.prog G H z y)) (.fin .ret k fr n objs) := yq env hk h (zj rfl)
theorem lN : leC ρ m [] [] := qhj
theorem lS {v u : AV} {vs us : List AV} (hs : leC ρ m vs us) (h : v = u.ren1 ρ := by exact rfl) (hu : u.un1 m = true := by exact rfl) : leC ρ m (v :: vs) (u :: us) := Ka h hu hs
theorem sV {i s' : Nat} {e : TypeId} {cs cs' : List AV} {l : List (Option Nat)} (hc : leC ρ m cs cs') (h : Kt ρ m objs l O') (ho : objs[i]? = some (ρ s', .var e cs) := by exact rfl) (hb : Nat.blt s' m = true := by exact rfl) : Kt ρ m objs (some i :: l) ((s', .var e cs') :: O') := qb3 ho hb hc h
theorem sR {α : Type} {C : α → List AV} {sz i s' : Nat} {e : TypeId} {x : List α} {l : List (Option Nat)} (hC : CellsOk C sz) (h : Kt ρ m objs l O') (ho : objs[i]? = some (ρ s', .row e (x.map C).flatten) := by exact rfl) (hb : Nat.blt s' m = true := by exact rfl) : Kt ρ m objs (some i :: l) ((s', .row e (x.map C).flatten) :: O') := qb4 hC ho hb h
theorem tS {x y : AV} (sel : List (Option Nat)) (ho : Kt (rhoS objs sel O') m' objs sel O') (hx : resT objs' (rhoS objs sel O') m' y x) (hd : qhk (sel.filterMap id) 0 objs some = some objs' := by exact rfl) (hn : qmn sel = true := by exact rfl) (hid : (List.range m).all (fun s => Nat.beq (rhoS objs sel O' s) s) = true := by exact rfl) (hle : Nat.ble m m' = true := by exact rfl) : ua Tryz.prog G m ⟨n, objs⟩ y x ⟨m', O'⟩ := qak sel hd hn hid hle ho hx
theorem lA (hf : leFT (rho objs' objs) n' fr fr' := by first | (simp [Reader.cells] <;> (repeat' apply And.intro) <;> first | rfl | exact fun x a _ h => (qk.all a x h).2 | exact fun x a _ h => (zv.all a x h).2 | exact fun x a _ h => (zr.all a x h).2 | exact fun x a _ h => (qju.all a x h).2 | exact fun x a _ h => (Kh.all a x h).2) | (simp [Reader.cells, Token.cells] <;> (repeat' apply And.intro) <;> first | rfl | exact fun x a _ h => (qk.all a x h).2 | exact fun x a _ h => (zv.all a x h).2 | exact fun x a _ h => (zr.all a x h).2 | exact fun x a _ h => (qju.all a x h).2 | exact fun x a _ h => (Kh.all a x h).2)) (ho : leOs (rho objs' objs) n' objs objs' := by first | (simp [Reader.cells] <;> (repeat' apply And.intro) <;> first | rfl | exact fun x a _ h => (qk.all a x h).2 | exact fun x a _ h => (zv.all a x h).2 | exact fun x a _ h => (zr.all a x h).2 | exact fun x a _ h => (qju.all a x h).2 | exact fun x a _ h => (Kh.all a x h).2) | (simp [Reader.cells, Token.cells] <;> (repeat' apply And.intro) <;> first | rfl | exact fun x a _ h => (qk.all a x h).2 | exact fun x a _ h => (zv.all a x h).2 | exact fun x a _ h => (zr.all a x h).2 | exact fun x a _ h => (qju.all a x h).2 | exact fun x a _ h => (Kh.all a x h).2)) : Less G N 0 (frT fr) ⟨n, objs⟩ (frT fr') ⟨n', objs'⟩ := q2h hf ho
theorem lQ (hf : leFT (rho objs' objs) n' fr fr' := by first | (simp [Reader.cells] <;> (repeat' apply And.intro) <;> first | rfl | exact fun x a _ h => (qk.all a x h).2 | exact fun x a _ h => (zv.all a x h).2 | exact fun x a _ h => (zr.all a x h).2 | exact fun x a _ h => (qju.all a x h).2 | exact fun x a _ h => (Kh.all a x h).2) | (simp [Reader.cells, Token.cells] <;> (repeat' apply And.intro) <;> first | rfl | exact fun x a _ h => (qk.all a x h).2 | exact fun x a _ h => (zv.all a x h).2 | exact fun x a _ h => (zr.all a x h).2 | exact fun x a _ h => (qju.all a x h).2 | exact fun x a _ h => (Kh.all a x h).2)) (ho : leOs (rho objs' objs) n' objs objs' := by first | (simp [Reader.cells] <;> (repeat' apply And.intro) <;> first | rfl | exact fun x a _ h => (qk.all a x h).2 | exact fun x a _ h => (zv.all a x h).2 | exact fun x a _ h => (zr.all a x h).2 | exact fun x a _ h => (qju.all a x h).2 | exact fun x a _ h => (Kh.all a x h).2) | (simp [Reader.cells, Token.cells] <;> (repeat' apply And.intro) <;> first | rfl | exact fun x a _ h => (qk.all a x h).2 | exact fun x a _ h => (zv.all a x h).2 | exact fun x a _ h => (zr.all a x h).2 | exact fun x a _ h => (qju.all a x h).2 | exact fun x a _ h => (Kh.all a x h).2)) (hid : ∀ s, s < p → rho objs' objs s = s := by exact qmo rfl) (hp : p ≤ n' := by exact Nat.le_of_ble_eq_true rfl) : Less G N p (frT fr) ⟨n, objs⟩ (frT fr') ⟨n', objs'⟩ := qmi hid hp hf ho
theorem AC.g9 {f : FuncId} {xs xs0 : List AV} {x y : AV} (h : AC Tryz.prog G f xs0 r O x m' O') (ids st : List Nat) (hnd : decide ids.Nodup = true := by exact rfl) (hids : ids.length = O.length := by exact rfl) (hst : st.length = r := by exact rfl) (hstn : st.all (fun s => Nat.blt s n) = true := by exact rfl)
 (hxs : xs0.map (AV.mv (fun j => ids.getD j 0) (fun s => st.getD s 0)) = xs := by exact rfl) (hg : qdn ids objs = some (O.map fun q => (st.getD q.1 0, q.2.mvR (fun j => ids.getD j 0) (fun s => st.getD s 0))) := by exact rfl)
 (hy : qgj (x.mv (fun j => ids.getD j 0) (qbf (fun s => st.getD s 0) r n)) some = some y := by exact rfl) (hs : qg9 ids (O'.map fun q => (qbf (fun s => st.getD s 0) r n q.1, q.2.mvR (fun j => ids.getD j 0) (qbf (fun s => st.getD s 0) r n))) objs some = some objs2 := by exact rfl) (hn : J6 (n + (m' - r)) some = some n2 := by exact rfl) : ACalls Tryz.prog G f xs ⟨n, objs⟩ y ⟨n2, objs2⟩ := AC.go h ids st hnd hids hst hstn hxs hg hy hs hn
end
def y6 (a0 : BA) (a1 : BA) : Option Bool :=
 if (decide ((a1.size : Int) ≤ (a0.size : Int))) = true then
  ssub a0 (0 : Int) (a1.size : Int) >>= fun x1 =>
  some (decide (x1 = a1))
 else
  some false
@[reducible] def Yq (a0 : BA) (a1 : BA) (r : Bool) : Prop :=
  Fn Tryz.prog G 89 [(.str a0), (.str a1)] (.bool r)
theorem Yr : PC2 Yq y6 := fun a0 a1 r h => by
 rw [y6.eq_def] at h
 refine ji (T := tt) (N := 18) (rs := [.tmp 4]) (fun vs w => by simp) Tryz.func89 rfl rfl rfl rfl (by kernel_rfl) (kw rfl) (jv _ rfl) ?_
 refine kr [] ?_
 refine qv (fun hb => ?_) (fun hb => ?_)
 ·replace h := qw hb h
  refine kr [] ?_
  obtain ⟨x1, hx, h⟩ := bind_some h
  refine qcm env hx rfl rfl rfl rfl rfl ?_
  refine kr [] ?_
  cases h
  exact kf
 ·replace h := qx hb h
  refine kr [] ?_
  cases h
  exact kf
def yv (a0 : BA) (a1 : BA) : Option Bool :=
 y6 a0 a1 >>= fun x1 =>
 some x1
@[reducible] def qec (a0 : BA) (a1 : BA) (r : Bool) : Prop :=
  Fn Tryz.prog G 43 [(.str a0), (.str a1)] (.bool r)
theorem Qq : PC2 qec yv := fun a0 a1 r h => by
 rw [yv.eq_def] at h
 refine ji (T := tt) (N := 8) (rs := [.tmp 4]) (fun vs w => by simp) Tryz.func43 rfl rfl rfl rfl (by kernel_rfl) (kw rfl) (jv _ rfl) ?_
 refine kr [] ?_
 obtain ⟨x1, hx, h⟩ := bind_some h
 refine qt (Yr _ _ _ hx) ?_
 refine kr [] ?_
 cases h
 exact kf
def y3  : Option Int :=
 some (0 : Int)
@[reducible] def qgv  (r : Int) : Prop :=
  Ok Tryz.prog G tt 29 0 (Ret Tryz.prog [.tmp 2] (fun y H => Told Tryz.prog G H y (.int .i64 r))) (.go [] (vc [3] Tryz.f119 3) [] .z 0 [])
theorem wg : PC0 qgv y3 := fun  r h => by
 rw [y3.eq_def] at h
 refine kr [3] ?_
 cases h
 exact kf
def Za (a0 : Int) : Option Int :=
 if (decide ((48 : Int) ≤ a0)) = true then
  if (decide (a0 ≤ (57 : Int))) = true then
   some (1 : Int)
  else
   if (decide ((97 : Int) ≤ a0)) = true then
    if (decide (a0 ≤ (122 : Int))) = true then
     some (2 : Int)
    else
     if (decide ((65 : Int) ≤ a0)) = true then
      if (decide (a0 ≤ (90 : Int))) = true then
       some (2 : Int)
      else
       if (decide (a0 = (95 : Int))) = true then
        some (2 : Int)
       else
        yt (⟨#[40, 41, 123, 125, 44, 59, 58, 46, 61, 60, 43, 45, 42, 47, 33, 38, 124]⟩ : BA) a0 >>= fun x1 =>
        if (decide ((0 : Int) ≤ x1)) = true then
         some (3 : Int)
        else
         y3 
     else
      if (decide (a0 = (95 : Int))) = true then
       some (2 : Int)
      else
       yt (⟨#[40, 41, 123, 125, 44, 59, 58, 46, 61, 60, 43, 45, 42, 47, 33, 38, 124]⟩ : BA) a0 >>= fun x2 =>
       if (decide ((0 : Int) ≤ x2)) = true then
        some (3 : Int)
       else
        y3 
   else
    if (decide ((65 : Int) ≤ a0)) = true then
     if (decide (a0 ≤ (90 : Int))) = true then
      some (2 : Int)
     else
      if (decide (a0 = (95 : Int))) = true then
       some (2 : Int)
      else
       yt (⟨#[40, 41, 123, 125, 44, 59, 58, 46, 61, 60, 43, 45, 42, 47, 33, 38, 124]⟩ : BA) a0 >>= fun x3 =>
       if (decide ((0 : Int) ≤ x3)) = true then
        some (3 : Int)
       else
        y3 
    else
     if (decide (a0 = (95 : Int))) = true then
      some (2 : Int)
     else
      yt (⟨#[40, 41, 123, 125, 44, 59, 58, 46, 61, 60, 43, 45, 42, 47, 33, 38, 124]⟩ : BA) a0 >>= fun x4 =>
      if (decide ((0 : Int) ≤ x4)) = true then
       some (3 : Int)
      else
       y3 
 else
  if (decide ((97 : Int) ≤ a0)) = true then
   if (decide (a0 ≤ (122 : Int))) = true then
    some (2 : Int)
   else
    if (decide ((65 : Int) ≤ a0)) = true then
     if (decide (a0 ≤ (90 : Int))) = true then
      some (2 : Int)
     else
      if (decide (a0 = (95 : Int))) = true then
       some (2 : Int)
      else
       yt (⟨#[40, 41, 123, 125, 44, 59, 58, 46, 61, 60, 43, 45, 42, 47, 33, 38, 124]⟩ : BA) a0 >>= fun x5 =>
       if (decide ((0 : Int) ≤ x5)) = true then
        some (3 : Int)
       else
        y3 
    else
     if (decide (a0 = (95 : Int))) = true then
      some (2 : Int)
     else
      yt (⟨#[40, 41, 123, 125, 44, 59, 58, 46, 61, 60, 43, 45, 42, 47, 33, 38, 124]⟩ : BA) a0 >>= fun x6 =>
      if (decide ((0 : Int) ≤ x6)) = true then
       some (3 : Int)
      else
       y3 
  else
   if (decide ((65 : Int) ≤ a0)) = true then
    if (decide (a0 ≤ (90 : Int))) = true then
     some (2 : Int)
    else
     if (decide (a0 = (95 : Int))) = true then
      some (2 : Int)
     else
      yt (⟨#[40, 41, 123, 125, 44, 59, 58, 46, 61, 60, 43, 45, 42, 47, 33, 38, 124]⟩ : BA) a0 >>= fun x7 =>
      if (decide ((0 : Int) ≤ x7)) = true then
       some (3 : Int)
      else
       y3 
   else
    if (decide (a0 = (95 : Int))) = true then
     some (2 : Int)
    else
     yt (⟨#[40, 41, 123, 125, 44, 59, 58, 46, 61, 60, 43, 45, 42, 47, 33, 38, 124]⟩ : BA) a0 >>= fun x8 =>
     if (decide ((0 : Int) ≤ x8)) = true then
      some (3 : Int)
     else
      y3 
@[reducible] def qkb (a0 : Int) (r : Int) : Prop :=
  Fn Tryz.prog G 119 [(.int .u8 a0)] (.int .i64 r)
theorem Wy : PC1 qkb Za := fun a0 r h => by
 rw [Za.eq_def] at h
 refine ji (T := tt) (N := 29) (rs := [.tmp 2]) (fun vs w => by simp) Tryz.func119 rfl rfl rfl rfl (by kernel_rfl) (kw rfl) (jv _ rfl) ?_
 refine kr [3] ?_
 refine qv (fun hb => ?_) (fun hb => ?_)
 ·replace h := qw hb h
  refine kr [3] ?_
  refine qg (fun hb => ?_) (fun hb => ?_)
  ·replace h := qw hb h
   refine kr [3] ?_
   cases h
   exact kf
  ·replace h := qx hb h
   refine kr [3] ?_
   refine qv (fun hb => ?_) (fun hb => ?_)
   ·replace h := qw hb h
    refine kr [3] ?_
    refine qg (fun hb => ?_) (fun hb => ?_)
    ·replace h := qw hb h
     refine kr [3] ?_
     cases h
     exact kf
    ·replace h := qx hb h
     refine kr [3] ?_
     refine qv (fun hb => ?_) (fun hb => ?_)
     ·replace h := qw hb h
      refine kr [3] ?_
      refine qg (fun hb => ?_) (fun hb => ?_)
      ·replace h := qw hb h
       refine kr [3] ?_
       cases h
       exact kf
      ·replace h := qx hb h
       refine kr [3] ?_
       refine qg (fun hb => ?_) (fun hb => ?_)
       ·replace h := qw hb h
        refine kr [3] ?_
        cases h
        exact kf
       ·replace h := qx hb h
        refine kr [3] ?_
        obtain ⟨x1, hx, h⟩ := bind_some h
        refine qt (kj _ _ _ hx) ?_
        refine kr [3] ?_
        refine qg (fun hb => ?_) (fun hb => ?_)
        ·replace h := qw hb h
         refine kr [3] ?_
         cases h
         exact kf
        ·replace h := qx hb h
         refine kr [3] ?_
         exact qz (by kernel_rfl) rfl lA (wg _ h)
     ·replace h := qx hb h
      refine kr [3] ?_
      refine qg (fun hb => ?_) (fun hb => ?_)
      ·replace h := qw hb h
       refine kr [3] ?_
       cases h
       exact kf
      ·replace h := qx hb h
       refine kr [3] ?_
       obtain ⟨x2, hx, h⟩ := bind_some h
       refine qt (kj _ _ _ hx) ?_
       refine kr [3] ?_
       refine qg (fun hb => ?_) (fun hb => ?_)
       ·replace h := qw hb h
        refine kr [3] ?_
        cases h
        exact kf
       ·replace h := qx hb h
        refine kr [3] ?_
        exact qz (by kernel_rfl) rfl lA (wg _ h)
   ·replace h := qx hb h
    refine kr [3] ?_
    refine qv (fun hb => ?_) (fun hb => ?_)
    ·replace h := qw hb h
     refine kr [3] ?_
     refine qg (fun hb => ?_) (fun hb => ?_)
     ·replace h := qw hb h
      refine kr [3] ?_
      cases h
      exact kf
     ·replace h := qx hb h
      refine kr [3] ?_
      refine qg (fun hb => ?_) (fun hb => ?_)
      ·replace h := qw hb h
       refine kr [3] ?_
       cases h
       exact kf
      ·replace h := qx hb h
       refine kr [3] ?_
       obtain ⟨x3, hx, h⟩ := bind_some h
       refine qt (kj _ _ _ hx) ?_
       refine kr [3] ?_
       refine qg (fun hb => ?_) (fun hb => ?_)
       ·replace h := qw hb h
        refine kr [3] ?_
        cases h
        exact kf
       ·replace h := qx hb h
        refine kr [3] ?_
        exact qz (by kernel_rfl) rfl lA (wg _ h)
    ·replace h := qx hb h
     refine kr [3] ?_
     refine qg (fun hb => ?_) (fun hb => ?_)
     ·replace h := qw hb h
      refine kr [3] ?_
      cases h
      exact kf
     ·replace h := qx hb h
      refine kr [3] ?_
      obtain ⟨x4, hx, h⟩ := bind_some h
      refine qt (kj _ _ _ hx) ?_
      refine kr [3] ?_
      refine qg (fun hb => ?_) (fun hb => ?_)
      ·replace h := qw hb h
       refine kr [3] ?_
       cases h
       exact kf
      ·replace h := qx hb h
       refine kr [3] ?_
       exact qz (by kernel_rfl) rfl lA (wg _ h)
 ·replace h := qx hb h
  refine kr [3] ?_
  refine qv (fun hb => ?_) (fun hb => ?_)
  ·replace h := qw hb h
   refine kr [3] ?_
   refine qg (fun hb => ?_) (fun hb => ?_)
   ·replace h := qw hb h
    refine kr [3] ?_
    cases h
    exact kf
   ·replace h := qx hb h
    refine kr [3] ?_
    refine qv (fun hb => ?_) (fun hb => ?_)
    ·replace h := qw hb h
     refine kr [3] ?_
     refine qg (fun hb => ?_) (fun hb => ?_)
     ·replace h := qw hb h
      refine kr [3] ?_
      cases h
      exact kf
     ·replace h := qx hb h
      refine kr [3] ?_
      refine qg (fun hb => ?_) (fun hb => ?_)
      ·replace h := qw hb h
       refine kr [3] ?_
       cases h
       exact kf
      ·replace h := qx hb h
       refine kr [3] ?_
       obtain ⟨x5, hx, h⟩ := bind_some h
       refine qt (kj _ _ _ hx) ?_
       refine kr [3] ?_
       refine qg (fun hb => ?_) (fun hb => ?_)
       ·replace h := qw hb h
        refine kr [3] ?_
        cases h
        exact kf
       ·replace h := qx hb h
        refine kr [3] ?_
        exact qz (by kernel_rfl) rfl lA (wg _ h)
    ·replace h := qx hb h
     refine kr [3] ?_
     refine qg (fun hb => ?_) (fun hb => ?_)
     ·replace h := qw hb h
      refine kr [3] ?_
      cases h
      exact kf
     ·replace h := qx hb h
      refine kr [3] ?_
      obtain ⟨x6, hx, h⟩ := bind_some h
      refine qt (kj _ _ _ hx) ?_
      refine kr [3] ?_
      refine qg (fun hb => ?_) (fun hb => ?_)
      ·replace h := qw hb h
       refine kr [3] ?_
       cases h
       exact kf
      ·replace h := qx hb h
       refine kr [3] ?_
       exact qz (by kernel_rfl) rfl lA (wg _ h)
  ·replace h := qx hb h
   refine kr [3] ?_
   refine qv (fun hb => ?_) (fun hb => ?_)
   ·replace h := qw hb h
    refine kr [3] ?_
    refine qg (fun hb => ?_) (fun hb => ?_)
    ·replace h := qw hb h
     refine kr [3] ?_
     cases h
     exact kf
    ·replace h := qx hb h
     refine kr [3] ?_
     refine qg (fun hb => ?_) (fun hb => ?_)
     ·replace h := qw hb h
      refine kr [3] ?_
      cases h
      exact kf
     ·replace h := qx hb h
      refine kr [3] ?_
      obtain ⟨x7, hx, h⟩ := bind_some h
      refine qt (kj _ _ _ hx) ?_
      refine kr [3] ?_
      refine qg (fun hb => ?_) (fun hb => ?_)
      ·replace h := qw hb h
       refine kr [3] ?_
       cases h
       exact kf
      ·replace h := qx hb h
       refine kr [3] ?_
       exact qz (by kernel_rfl) rfl lA (wg _ h)
   ·replace h := qx hb h
    refine kr [3] ?_
    refine qg (fun hb => ?_) (fun hb => ?_)
    ·replace h := qw hb h
     refine kr [3] ?_
     cases h
     exact kf
    ·replace h := qx hb h
     refine kr [3] ?_
     obtain ⟨x8, hx, h⟩ := bind_some h
     refine qt (kj _ _ _ hx) ?_
     refine kr [3] ?_
     refine qg (fun hb => ?_) (fun hb => ?_)
     ·replace h := qw hb h
      refine kr [3] ?_
      cases h
      exact kf
     ·replace h := qx hb h
      refine kr [3] ?_
      exact qz (by kernel_rfl) rfl lA (wg _ h)
def Qd (a0 : Int) : Option Bool :=
 Za a0 >>= fun x1 =>
 if (decide (x1 = (2 : Int))) = true then
  some true
 else
  Za a0 >>= fun x2 =>
  some (decide (x2 = (1 : Int)))
@[reducible] def qj9 (a0 : Int) (r : Bool) : Prop :=
  Fn Tryz.prog G 88 [(.int .u8 a0)] (.bool r)
theorem Wx : PC1 qj9 Qd := fun a0 r h => by
 rw [Qd.eq_def] at h
 refine ji (T := tt) (N := 11) (rs := [.tmp 2]) (fun vs w => by simp) Tryz.func88 rfl rfl rfl rfl (by kernel_rfl) (kw rfl) (jv _ rfl) ?_
 refine kr [] ?_
 obtain ⟨x1, hx, h⟩ := bind_some h
 refine qt (Wy _ _ hx) ?_
 refine kr [] ?_
 refine q8 (fun hb => ?_) (fun hb => ?_)
 ·replace h := qx hb h
  refine kr [] ?_
  obtain ⟨x2, hx, h⟩ := bind_some h
  refine qt (Wy _ _ hx) ?_
  refine kr [] ?_
  cases h
  exact kf
 ·replace h := qw hb h
  refine kr [] ?_
  cases h
  exact kf
def vk (t3 : Int) : Option Int :=
 some t3
@[reducible] def qi1 (t3 : Int) (r : Int) : Prop :=
  Ok Tryz.prog G tt 17 0 (Ret Tryz.prog [.tmp 2] (fun y H => Told Tryz.prog G H y (.int .i64 r))) (.go [] (qrk [1000000] Tryz.f128 0) [] (.n .undef (.n .undef (.n (.int .i64 t3) .z .z) .z) .z) 0 [])
theorem qcy : PC1 qi1 vk := fun t3 r h => by
 rw [vk.eq_def] at h
 refine kr [1000000] ?_
 cases h
 exact kf
def ur (t0 : BA) (t3 : Int) : Option Int :=
 if (decide (t3 < (t0.size : Int))) = true then
  sx t0 t3 >>= fun x1 =>
  Qd (qa x1) >>= fun x2 =>
  if x2 = true then
   ur (qa t0) (IntKind.i64.wrap (t3 + (1 : Int)))
  else
   vk (qa t3)
 else
  vk (qa t3)
 partial_fixpoint
@[reducible] def qco (t0 : BA) (t3 : Int) (r : Int) : Prop :=
  Ok Tryz.prog G tt 17 0 (Ret Tryz.prog [.tmp 2] (fun y H => Told Tryz.prog G H y (.int .i64 r))) (.again (wu [1000000] Tryz.f128 0).1 (wu [1000000] Tryz.f128 0).2 (.n (.str t0) (.n .undef (.n (.int .i64 t3) .z .z) .z) .z) 0 [])
theorem K4 : PC2 qco ur := by
 refine ur.partial_correctness qco (fun ur K4 t0 t3 r h => ?_)
 ·unfold qa at h
  refine uz ?_
  refine kr [1000000] ?_
  refine qv (fun hb => ?_) (fun hb => ?_)
  ·replace h := qw hb h
   refine kr [1000000] ?_
   obtain ⟨x1, hx, h⟩ := bind_some h
   refine qrp env hx rfl rfl rfl rfl ?_
   refine kr [1000000] ?_
   obtain ⟨x2, hx, h⟩ := bind_some h
   refine qt (Wx _ _ hx) ?_
   refine kr [1000000] ?_
   refine qg (fun hb => ?_) (fun hb => ?_)
   ·replace h := qw hb h
    refine kr [1000000] ?_
    exact wa (by kernel_rfl) lA (K4 _ _ _ h)
   ·replace h := qx hb h
    refine kr [1000000] ?_
    exact qz (by kernel_rfl) rfl lA (qcy _ _ h)
  ·replace h := qx hb h
   refine kr [1000000] ?_
   exact qz (by kernel_rfl) rfl lA (qcy _ _ h)
def Yz (a0 : BA) : Option Int :=
 ur a0 (0 : Int)
@[reducible] def qoj (a0 : BA) (r : Int) : Prop :=
  Fn Tryz.prog G 128 [(.str a0)] (.int .i64 r)
theorem qf1 : PC1 qoj Yz := fun a0 r h => by
 rw [Yz.eq_def] at h
 refine ji (T := tt) (N := 17) (rs := [.tmp 2]) (fun vs w => by simp) Tryz.func128 rfl rfl rfl rfl (by kernel_rfl) (kw rfl) (jv _ rfl) ?_
 refine kr [1000000] ?_
 exact wq (by kernel_rfl) lA (K4 _ _ _ h)
def ut  : Option (Int × Int) :=
 some ((0 : Int), (0 : Int))
@[reducible] def qfs  (r : Int × Int) : Prop :=
  Ok Tryz.prog G tt 33 0 (Ret Tryz.prog [.tmp 2, .tmp 3] (fun y H => Told Tryz.prog G H y (.tup [(.int .i64 r.1), (.int .i64 r.2)]))) (.go [] (vc [11, 20] Tryz.f95 11) [] .z 0 [])
theorem W7 : PC0 qfs ut := fun  r h => by
 rw [ut.eq_def] at h
 refine kr [11, 20] ?_
 cases h
 exact kf
def vo  : Option (Int × Int) :=
 ut 
@[reducible] def qfr  (r : Int × Int) : Prop :=
  Ok Tryz.prog G tt 33 0 (Ret Tryz.prog [.tmp 2, .tmp 3] (fun y H => Told Tryz.prog G H y (.tup [(.int .i64 r.1), (.int .i64 r.2)]))) (.go [] (vc [11, 20] Tryz.f95 20) [] .z 0 [])
theorem W6 : PC0 qfr vo := fun  r h => by
 rw [vo.eq_def] at h
 refine kr [11, 20] ?_
 exact qz (by kernel_rfl) rfl lA (W7 _ h)
def Jb (a0 : BA) : Option (Int × Int) :=
 if (decide (a0 = (⟨#[]⟩ : BA))) = true then
  some ((0 : Int), (0 : Int))
 else
  sx a0 (0 : Int) >>= fun x1 =>
  Za x1 >>= fun x2 =>
  if (decide (x2 = (1 : Int))) = true then
   Yz a0 >>= fun x3 =>
   ssub a0 (0 : Int) x3 >>= fun x4 =>
   Yo x4 >>= fun x5 =>
   if x5 = true then
    some (x3, (2 : Int))
   else
    ut 
  else
   if (decide (x2 = (2 : Int))) = true then
    Yz a0 >>= fun x6 =>
    if (decide (x6 ≤ (32 : Int))) = true then
     some (x6, (1 : Int))
    else
     vo 
   else
    if (decide (x2 = (3 : Int))) = true then
     yv a0 (⟨#[47, 47]⟩ : BA) >>= fun x7 =>
     if x7 = true then
      some ((0 : Int), (0 : Int))
     else
      yv a0 (⟨#[61, 61]⟩ : BA) >>= fun x8 =>
      if x8 = true then
       some ((2 : Int), (3 : Int))
      else
       some ((1 : Int), (3 : Int))
    else
     vo 
@[reducible] def qka (a0 : BA) (r : Int × Int) : Prop :=
  Fn Tryz.prog G 95 [(.str a0)] (.tup [(.int .i64 r.1), (.int .i64 r.2)])
theorem qkg : PC1 qka Jb := fun a0 r h => by
 rw [Jb.eq_def] at h
 refine ji (T := tt) (N := 33) (rs := [.tmp 2, .tmp 3]) (fun vs w => by simp) Tryz.func95 rfl rfl rfl rfl (by kernel_rfl) (kw rfl) (jv _ rfl) ?_
 refine kr [11, 20] ?_
 refine qg (fun hb => ?_) (fun hb => ?_)
 ·replace h := qw hb h
  refine kr [11, 20] ?_
  cases h
  exact kf
 ·replace h := qx hb h
  refine kr [11, 20] ?_
  obtain ⟨x1, hx, h⟩ := bind_some h
  refine qrp env hx rfl rfl rfl rfl ?_
  refine kr [11, 20] ?_
  obtain ⟨x2, hx, h⟩ := bind_some h
  refine qt (Wy _ _ hx) ?_
  refine kr [11, 20] ?_
  refine qg (fun hb => ?_) (fun hb => ?_)
  ·replace h := qw hb h
   refine kr [11, 20] ?_
   obtain ⟨x3, hx, h⟩ := bind_some h
   refine qt (qf1 _ _ hx) ?_
   refine kr [11, 20] ?_
   obtain ⟨x4, hx, h⟩ := bind_some h
   refine qcm env hx rfl rfl rfl rfl rfl ?_
   refine kr [11, 20] ?_
   obtain ⟨x5, hx, h⟩ := bind_some h
   refine qt (qh5 _ _ hx) ?_
   refine kr [11, 20] ?_
   refine qg (fun hb => ?_) (fun hb => ?_)
   ·replace h := qw hb h
    refine kr [11, 20] ?_
    cases h
    exact kf
   ·replace h := qx hb h
    refine kr [11, 20] ?_
    exact qz (by kernel_rfl) rfl lA (W7 _ h)
  ·replace h := qx hb h
   refine kr [11, 20] ?_
   refine qg (fun hb => ?_) (fun hb => ?_)
   ·replace h := qw hb h
    refine kr [11, 20] ?_
    obtain ⟨x6, hx, h⟩ := bind_some h
    refine qt (qf1 _ _ hx) ?_
    refine kr [11, 20] ?_
    refine qg (fun hb => ?_) (fun hb => ?_)
    ·replace h := qw hb h
     refine kr [11, 20] ?_
     cases h
     exact kf
    ·replace h := qx hb h
     refine kr [11, 20] ?_
     exact qz (by kernel_rfl) rfl lA (W6 _ h)
   ·replace h := qx hb h
    refine kr [11, 20] ?_
    refine qg (fun hb => ?_) (fun hb => ?_)
    ·replace h := qw hb h
     refine kr [11, 20] ?_
     obtain ⟨x7, hx, h⟩ := bind_some h
     refine qt (Qq _ _ _ hx) ?_
     refine kr [11, 20] ?_
     refine qg (fun hb => ?_) (fun hb => ?_)
     ·replace h := qw hb h
      refine kr [11, 20] ?_
      cases h
      exact kf
     ·replace h := qx hb h
      refine kr [11, 20] ?_
      obtain ⟨x8, hx, h⟩ := bind_some h
      refine qt (Qq _ _ _ hx) ?_
      refine kr [11, 20] ?_
      refine qg (fun hb => ?_) (fun hb => ?_)
      ·replace h := qw hb h
       refine kr [11, 20] ?_
       cases h
       exact kf
      ·replace h := qx hb h
       refine kr [11, 20] ?_
       cases h
       exact kf
    ·replace h := qx hb h
     refine kr [11, 20] ?_
     exact qz (by kernel_rfl) rfl lA (W6 _ h)
def wb (t0 : BA) (t5 : (List Token)) (t6 : Int) : Option ((List Token) × Int × Int) :=
 Jy (qa t0) (qa t6) >>= fun x1 =>
 if (decide (x1 = (t0.size : Int))) = true then
  ssub t0 t6 (t0.size : Int) >>= fun x2 =>
  app 48 t5 ([(Token.mk (4 : Int) x2 (⟨#[]⟩) (t0.size : Int))]) >>= fun x3 =>
  some (x3, (0 : Int), (0 : Int))
 else
  ssub t0 x1 (t0.size : Int) >>= fun x4 =>
  Jb (qa x4) >>= fun x5 =>
  if (decide (x5.2 = (0 : Int))) = true then
   some (([] : (List Token)), (1 : Int), x1)
  else
   ssub t0 t6 x1 >>= fun x6 =>
   ssub t0 x1 (IntKind.i64.wrap (x1 + x5.1)) >>= fun x7 =>
   app 48 t5 ([(Token.mk x5.2 x6 x7 x1)]) >>= fun x8 =>
   wb (qa t0) (qa x8) (IntKind.i64.wrap (x1 + x5.1))
 partial_fixpoint
@[reducible] def W5 (t0 : BA) (t5 : (List Token)) (t6 : Int) (r : (List Token) × Int × Int) : Prop :=
  Ok Tryz.prog G tt 58 0 (Ret Tryz.prog [.tmp 2, .tmp 3, .tmp 4] (fun y H => Told Tryz.prog G H y (.tup [(.sl 4 false (r.1.map Token.cells)), (.int .i64 r.2.1), (.int .i64 r.2.2)]))) (.again (wu [] Tryz.f49 0).1 (wu [] Tryz.f49 0).2 (.n (.str t0) (.n .undef .z (.n (.bs 4 0 0 0 t5.length) .z .z)) (.n .undef .z (.n (.int .i64 t6) .z .z))) 1 [(0, .row 49 (t5.map Token.cells).flatten)])
theorem J7 : PC3 W5 wb := by
 refine wb.partial_correctness W5 (fun wb J7 t0 t5 t6 r h => ?_)
 ·unfold qa at h
  refine uz ?_
  refine kr [] ?_
  obtain ⟨x1, hx, h⟩ := bind_some h
  refine qt (qnx _ _ _ hx) ?_
  refine kr [] ?_
  refine qg (fun hb => ?_) (fun hb => ?_)
  ·replace h := qw hb h
   refine kr [] ?_
   obtain ⟨x2, hx, h⟩ := bind_some h
   refine qcm env hx rfl rfl rfl rfl rfl ?_
   refine kr [] ?_
   obtain ⟨x3, hx, h⟩ := bind_some h
   have hp_x3 := qbh hx (by simp)
   refine W9 (C := Token.cells) env hx rfl rfl (by simp) (fun _ => rfl) rfl rfl rfl rfl rfl (by decide) rfl rfl rfl ?_
   refine kr [] ?_
   cases h
   exact yq env rfl rfl (qfe (qfd (u0 (Jk (jz Kh rfl) (by simp)) (u0 (Jk (zw rfl) (by simp)) (u0 (Jk (zw rfl) (by simp)) qc6)))))
  ·replace h := qx hb h
   refine kr [] ?_
   obtain ⟨x4, hx, h⟩ := bind_some h
   refine qcm env hx rfl rfl rfl rfl rfl ?_
   refine kr [] ?_
   obtain ⟨x5, hx, h⟩ := bind_some h
   refine qt (qkg _ _ hx) ?_
   refine kr [] ?_
   refine qg (fun hb => ?_) (fun hb => ?_)
   ·replace h := qw hb h
    refine kr [] ?_
    cases h
    exact yq env rfl rfl (qfe (qfd (u0 (Jk (y5 (.inr rfl)) (by simp)) (u0 (Jk (zw rfl) (by simp)) (u0 (Jk (zw rfl) (by simp)) qc6)))))
   ·replace h := qx hb h
    refine kr [] ?_
    obtain ⟨x6, hx, h⟩ := bind_some h
    refine qcm env hx rfl rfl rfl rfl rfl ?_
    refine kr [] ?_
    obtain ⟨x7, hx, h⟩ := bind_some h
    refine qcm env hx rfl rfl rfl rfl rfl ?_
    refine kr [] ?_
    obtain ⟨x8, hx, h⟩ := bind_some h
    have hp_x8 := qbh hx (by simp)
    refine W9 (C := Token.cells) env hx rfl rfl (by simp) (fun _ => rfl) rfl rfl rfl rfl rfl (by decide) rfl rfl rfl ?_
    refine kr [] ?_
    exact wa (by kernel_rfl) lA (J7 _ _ _ _ h)
def ww (a0 : BA) : Option ((List Token) × Int × Int) :=
 if (decide ((65536 : Int) < (a0.size : Int))) = true then
  some (([] : (List Token)), (3 : Int), (0 : Int))
 else
  wb a0 ([] : List Token) (0 : Int)
@[reducible] def qi2 (a0 : BA) (r : (List Token) × Int × Int) : Prop :=
  Fn Tryz.prog G 49 [(.str a0)] (.tup [(.sl 4 false (r.1.map Token.cells)), (.int .i64 r.2.1), (.int .i64 r.2.2)])
theorem K5 : PC1 qi2 ww := fun a0 r h => by
 rw [ww.eq_def] at h
 refine ji (T := tt) (N := 58) (rs := [.tmp 2, .tmp 3, .tmp 4]) (fun vs w => by simp) Tryz.func49 rfl rfl rfl rfl (by kernel_rfl) (kw rfl) (jv _ rfl) ?_
 refine kr [] ?_
 refine qg (fun hb => ?_) (fun hb => ?_)
 ·replace h := qw hb h
  refine kr [] ?_
  cases h
  exact yq env rfl rfl (qfe (qfd (u0 (Jk (y5 (.inr rfl)) (by simp)) (u0 (Jk (zw rfl) (by simp)) (u0 (Jk (zw rfl) (by simp)) qc6)))))
 ·replace h := qx hb h
  refine kr [] ?_
  refine q5f 5 _ 4 49 rfl rfl ?_
  exact wq (by kernel_rfl) lA (J7 _ _ _ _ h)
def Yg (a0 : Token) : Option Int :=
 if (!decide (a0.Kind = (3 : Int))) = true then
  some (0 : Int)
 else
  if (decide (a0.Text = (⟨#[124]⟩ : BA))) = true then
   some (1 : Int)
  else
   if (decide (a0.Text = (⟨#[38]⟩ : BA))) = true then
    some (2 : Int)
   else
    if (decide (a0.Text = (⟨#[61, 61]⟩ : BA))) = true then
     some (3 : Int)
    else
     if (decide (a0.Text = (⟨#[60]⟩ : BA))) = true then
      some (3 : Int)
     else
      if (decide (a0.Text = (⟨#[43]⟩ : BA))) = true then
       some (4 : Int)
      else
       if (decide (a0.Text = (⟨#[45]⟩ : BA))) = true then
        some (4 : Int)
       else
        if (decide (a0.Text = (⟨#[42]⟩ : BA))) = true then
         some (5 : Int)
        else
         if (decide (a0.Text = (⟨#[47]⟩ : BA))) = true then
          some (5 : Int)
         else
          some (0 : Int)
@[reducible] def qkc (a0 : Token) (r : Int) : Prop :=
  Fn Tryz.prog G 66 [(.agg (Token.cells a0))] (.int .i64 r)
theorem qkh : PC1 qkc Yg := fun a0 r h => by
 rw [Yg.eq_def] at h
 refine ji (T := tt) (N := 21) (rs := [.tmp 2]) (fun vs w => by simp) Tryz.func66 rfl rfl rfl rfl (by kernel_rfl) (kw rfl) (jv _ rfl) ?_
 refine kr [] ?_
 refine qg (fun hb => ?_) (fun hb => ?_)
 ·replace h := qw hb h
  refine kr [] ?_
  cases h
  exact kf
 ·replace h := qx hb h
  refine kr [] ?_
  refine qg (fun hb => ?_) (fun hb => ?_)
  ·replace h := qw hb h
   refine kr [] ?_
   cases h
   exact kf
  ·replace h := qx hb h
   refine kr [] ?_
   refine qg (fun hb => ?_) (fun hb => ?_)
   ·replace h := qw hb h
    refine kr [] ?_
    cases h
    exact kf
   ·replace h := qx hb h
    refine kr [] ?_
    refine qg (fun hb => ?_) (fun hb => ?_)
    ·replace h := qw hb h
     refine kr [] ?_
     cases h
     exact kf
    ·replace h := qx hb h
     refine kr [] ?_
     refine qg (fun hb => ?_) (fun hb => ?_)
     ·replace h := qw hb h
      refine kr [] ?_
      cases h
      exact kf
     ·replace h := qx hb h
      refine kr [] ?_
      refine qg (fun hb => ?_) (fun hb => ?_)
      ·replace h := qw hb h
       refine kr [] ?_
       cases h
       exact kf
      ·replace h := qx hb h
       refine kr [] ?_
       refine qg (fun hb => ?_) (fun hb => ?_)
       ·replace h := qw hb h
        refine kr [] ?_
        cases h
        exact kf
       ·replace h := qx hb h
        refine kr [] ?_
        refine qg (fun hb => ?_) (fun hb => ?_)
        ·replace h := qw hb h
         refine kr [] ?_
         cases h
         exact kf
        ·replace h := qx hb h
         refine kr [] ?_
         refine qg (fun hb => ?_) (fun hb => ?_)
         ·replace h := qw hb h
          refine kr [] ?_
          cases h
          exact kf
         ·replace h := qx hb h
          refine kr [] ?_
          cases h
          exact kf
def zn (a0 : Reader) : Option (Token) :=
 ix a0.l_ a0.at_ >>= fun x1 =>
 some x1
@[reducible] def qcr (a0 : Reader) (r : Token) : Prop :=
  AC Tryz.prog G 51 [(.ptr 0 0 0)] 1 [(0, .var 77 (Reader.cells a0))] (.agg (Token.cells r)) 1 [(0, .var 77 (Reader.cells a0))]
theorem zu : PC1 qcr zn := fun a0 r h => by
 rw [zn.eq_def] at h
 refine ⟨?_, (zm rfl rfl jk), (qj zd), (zo rfl jq), (qj zd), rfl, rfl, rfl, rfl⟩
 refine y8 (T := tt) (N := 13) (rs := [.cell 2 49]) (fun vs w => by simp) Tryz.func51 rfl rfl rfl (by kernel_rfl) (by kernel_rfl) ?_
 refine kr [] ?_
 obtain ⟨x1, hx, h⟩ := bind_some h
 refine K1 env hx rfl rfl rfl rfl rfl ?_
 refine kr [] ?_
 cases h
 exact jw env rfl rfl (tS [some 0] (sV (lS (lS lN)) qy) (j3 (ym (qh (qf (zw rfl) rfl) (qh (qf (jr rfl) rfl) (qh (qf (jr rfl) rfl) (qh (qf (zw rfl) rfl) yl))))) (by simp)))
def zf (a0 : Reader) (a1 : BA) : Option Bool :=
 zn a0 >>= fun x1 =>
 if (!decide (x1.Kind = (4 : Int))) = true then
  zn a0 >>= fun x2 =>
  some (decide (x2.Text = a1))
 else
  some false
@[reducible] def qed (a0 : Reader) (a1 : BA) (r : Bool) : Prop :=
  AC Tryz.prog G 52 [(.ptr 0 0 0), (.str a1)] 1 [(0, .var 77 (Reader.cells a0))] (.bool r) 1 [(0, .var 77 (Reader.cells a0))]
theorem zi : PC2 qed zf := fun a0 a1 r h => by
 rw [zf.eq_def] at h
 refine ⟨?_, (zm rfl rfl jk), (qj zd), (zo rfl jq), (qj zd), rfl, rfl, rfl, rfl⟩
 refine y8 (T := tt) (N := 16) (rs := [.tmp 4]) (fun vs w => by simp) Tryz.func52 rfl rfl rfl (by kernel_rfl) (by kernel_rfl) ?_
 refine kr [] ?_
 obtain ⟨x1, hx, h⟩ := bind_some h
 refine qb (AC.g9 (zu _ _ hx) [0] [0]) ?_
 refine kr [] ?_
 refine qv (fun hb => ?_) (fun hb => ?_)
 ·replace h := qw hb h
  refine kr [] ?_
  obtain ⟨x2, hx, h⟩ := bind_some h
  refine qb (AC.g9 (zu _ _ hx) [0] [0]) ?_
  refine kr [] ?_
  cases h
  exact jw env rfl rfl (tS [some 0] (sV (lS (lS lN)) qy) (j3 (J8 (qf (qla rfl) rfl) (by simp)) (by simp)))
 ·replace h := qx hb h
  refine kr [] ?_
  cases h
  exact jw env rfl rfl (tS [some 0] (sV (lS (lS lN)) qy) (j3 (J8 (qf (qla rfl) rfl) (by simp)) (by simp)))
def ja (a0 : Reader) : Option (Except Int (Unit)) :=
 zn a0 >>= fun x1 =>
 some (.error x1.At)
@[reducible] def qcv (a0 : Reader) (r : Except Int (Unit)) : Prop :=
  exq (fun (r : Unit) => AC Tryz.prog G 57 [(.ptr 0 0 0)] 1 [(0, .var 77 (Reader.cells a0))] (.tup []) 1 [(0, .var 77 (Reader.cells a0))]) (fun e => FC Tryz.prog G 57 [(.ptr 0 0 0)] 1 [(0, .var 77 (Reader.cells a0))] (flt e)) r
theorem zq : PC1 qcv ja := fun a0 r h => by
 rw [ja.eq_def] at h
 refine Z3 (T := tt) (N := 6) (rs := []) (fun vs w => by simp) Tryz.func57 rfl rfl rfl (by kernel_rfl) (by kernel_rfl) (zm rfl rfl jk) (qj zd) (fun r => (zo rfl jq)) (fun r => (qj zd)) (fun _ => rfl) (fun _ => rfl) rfl (fun _ => rfl) ?_
 refine kr [] ?_
 obtain ⟨x1, hx, h⟩ := bind_some h
 refine qb (AC.g9 (zu _ _ hx) [0] [0]) ?_
 refine kr [] ?_
 refine qvk (by kernel_rfl) rfl ?_
 refine kr [] ?_
 cases h
 exact q1s rfl rfl
def wx (o0 : Reader) (o1_0 : Int) (o1_1 : BA) (o1_2 : LB) (o1_3 : LN) : Option (Except Int (Reader × LB)) :=
 zn o0 >>= fun x3 =>
 app 16 o1_2 ([x3.Lead]) >>= fun x4 =>
 some (.ok ((Reader.mk o0.l_ (IntKind.i64.wrap (o0.at_ + (1 : Int)))), x4))
@[reducible] def qaw (o0 : Reader) (o1_0 : Int) (o1_1 : BA) (o1_2 : LB) (o1_3 : LN) (r : Except Int (Reader × LB)) : Prop :=
  Ok Tryz.prog G tt 31 4 (exq (fun (r : Reader × LB) => Ret Tryz.prog [] (fun y H => ua Tryz.prog G 4 H y (.tup []) ⟨5, [(0, .var 77 (Reader.cells r.1)), (1, .var 26 [(.int .i64 o1_0), (.str o1_1), (.bs 1 2 4 0 r.2.length), (.bs 4 3 3 0 o1_3.length)]), (4, .row 9 (r.2.map sc).flatten), (3, .row 26 (o1_3.map Node.cells).flatten)]⟩)) (fun e => Zl (flt e)) r) (.go [] (vc [9] Tryz.f70 9) [] (.n (.ptr 0 0 0) (.n (.ptr 1 1 0) .z .z) .z) 5 [(0, .var 77 (Reader.cells o0)), (1, .var 26 [(.int .i64 o1_0), (.str o1_1), (.bs 1 2 4 0 o1_2.length), (.bs 4 3 3 0 o1_3.length)]), (4, .row 9 (o1_2.map sc).flatten), (3, .row 26 (o1_3.map Node.cells).flatten)])
theorem Jp : PC5 qaw wx := fun o0 o1_0 o1_1 o1_2 o1_3 r h => by
 rw [wx.eq_def] at h
 refine kr [9] ?_
 obtain ⟨x3, hx, h⟩ := bind_some h
 refine qb (AC.g9 (zu _ _ hx) [0] [0]) ?_
 refine kr [9] ?_
 obtain ⟨x4, hx, h⟩ := bind_some h
 have hp_x4 := qbh hx (by simp)
 refine W9 (C := sc) env hx rfl rfl (by simp) (fun _ => rfl) rfl rfl rfl rfl rfl (by decide) rfl rfl rfl ?_
 refine kr [9] ?_
 cases h
 exact je env rfl (tS [some 0, some 1, some 2, some 3] (sV (lS (lS lN)) (sV (lS (lS (lS (lS lN)))) (sR zr (sR qk qy)))) (ju jc))
def qm (a0 : Reader) (a1 : Int) (a3 : BA) (a4 : LB) (a5 : LN) (a2 : BA) : Option (Except Int (Reader × LB)) :=
 zf a0 a2 >>= fun x1 =>
 if (!x1) = true then
  ja a0 >>= fun x2 =>
  match x2 with
  | .error ee => some (.error ee)
  | .ok x2 =>
  wx a0 a1 a3 a4 a5
 else
  wx a0 a1 a3 a4 a5
@[reducible] def qcq (a0 : Reader) (a1 : Int) (a3 : BA) (a4 : LB) (a5 : LN) (a2 : BA) (r : Except Int (Reader × LB)) : Prop :=
  exq (fun (r : Reader × LB) => AC Tryz.prog G 70 [(.ptr 0 0 0), (.ptr 1 1 0), (.str a2)] 4 [(0, .var 77 (Reader.cells a0)), (1, .var 26 [(.int .i64 a1), (.str a3), (.bs 1 2 2 0 a4.length), (.bs 4 3 3 0 a5.length)]), (2, .row 9 (a4.map sc).flatten), (3, .row 26 (a5.map Node.cells).flatten)] (.tup []) 5 [(0, .var 77 (Reader.cells r.1)), (1, .var 26 [(.int .i64 a1), (.str a3), (.bs 1 2 4 0 r.2.length), (.bs 4 3 3 0 a5.length)]), (4, .row 9 (r.2.map sc).flatten), (3, .row 26 (a5.map Node.cells).flatten)]) (fun e => FC Tryz.prog G 70 [(.ptr 0 0 0), (.ptr 1 1 0), (.str a2)] 4 [(0, .var 77 (Reader.cells a0)), (1, .var 26 [(.int .i64 a1), (.str a3), (.bs 1 2 2 0 a4.length), (.bs 4 3 3 0 a5.length)]), (2, .row 9 (a4.map sc).flatten), (3, .row 26 (a5.map Node.cells).flatten)] (flt e)) r
theorem qc : PC6 qcq qm := fun a0 a1 a3 a4 a5 a2 r h => by
 rw [qm.eq_def] at h
 refine Z3 (T := tt) (N := 31) (rs := []) (fun vs w => by simp) Tryz.func70 rfl rfl rfl (by kernel_rfl) (by kernel_rfl) (zm rfl rfl (zm rfl rfl (jj zr rfl (jj qk rfl jk)))) (qj (qj (zb zr (zb qk zd)))) (fun r => (zo rfl (zo rfl (jp zr (jp qk jq))))) (fun r => (qj (qj (zb zr (zb qk zd))))) (fun _ => rfl) (fun _ => rfl) rfl (fun _ => rfl) ?_
 refine kr [9] ?_
 obtain ⟨x1, hx, h⟩ := bind_some h
 refine qb (AC.g9 (zi _ _ _ hx) [0] [0]) ?_
 refine kr [9] ?_
 refine qg (fun hb => ?_) (fun hb => ?_)
 ·replace h := qw hb h
  refine kr [9] ?_
  obtain ⟨x2, hx, h⟩ := bind_some h
  rcases x2 with ee | x2
  ·replace h : some (.error ee) = some r := h
   cases h
   exact ze (FC.go (zq _ _ hx) [0] [0] rfl rfl rfl rfl rfl rfl)
  refine qb (AC.g9 (zq _ _ hx) [0] [0]) ?_
  refine kr [9] ?_
  exact qz (by kernel_rfl) rfl lQ (Jp _ _ _ _ _ _ h)
 ·replace h := qx hb h
  refine kr [9] ?_
  exact qz (by kernel_rfl) rfl lQ (Jp _ _ _ _ _ _ h)
def kx (o0 : Reader) (o1_0 : Int) (o1_1 : BA) (o1_2 : LB) (o1_3 : LN) (o4 : Token) : Option (Except Int (Reader × BA × LB)) :=
 app 16 o1_2 ([o4.Lead]) >>= fun x5 =>
 some (.ok ((Reader.mk o0.l_ (IntKind.i64.wrap (o0.at_ + (1 : Int)))), o4.Text, x5))
@[reducible] def qaa (o0 : Reader) (o1_0 : Int) (o1_1 : BA) (o1_2 : LB) (o1_3 : LN) (o4 : Token) (r : Except Int (Reader × BA × LB)) : Prop :=
  Ok Tryz.prog G tt 41 4 (exq (fun (r : Reader × BA × LB) => Ret Tryz.prog [] (fun y H => ua Tryz.prog G 4 H y (.tup []) ⟨5, [(0, .var 77 (Reader.cells r.1)), (1, .var 26 [(.int .i64 o1_0), (.str r.2.1), (.bs 1 2 4 0 r.2.2.length), (.bs 4 3 3 0 o1_3.length)]), (4, .row 9 (r.2.2.map sc).flatten), (3, .row 26 (o1_3.map Node.cells).flatten)]⟩)) (fun e => Zl (flt e)) r) (.go [] (vc [15] Tryz.f73 15) [] (.n (.ptr 0 0 0) (.n (.ptr 1 1 0) .z .z) (.n .undef (.n (.ptr 4 4 0) .z .z) .z)) 6 [(0, .var 77 (Reader.cells o0)), (1, .var 26 [(.int .i64 o1_0), (.str o1_1), (.bs 1 2 5 0 o1_2.length), (.bs 4 3 3 0 o1_3.length)]), (5, .row 9 (o1_2.map sc).flatten), (3, .row 26 (o1_3.map Node.cells).flatten), (4, .var 49 (Token.cells o4))])
theorem v8 : PC6 qaa kx := fun o0 o1_0 o1_1 o1_2 o1_3 o4 r h => by
 rw [kx.eq_def] at h
 refine kr [15] ?_
 obtain ⟨x5, hx, h⟩ := bind_some h
 have hp_x5 := qbh hx (by simp)
 refine W9 (C := sc) env hx rfl rfl (by simp) (fun _ => rfl) rfl rfl rfl rfl rfl (by decide) rfl rfl rfl ?_
 refine kr [15] ?_
 cases h
 exact je env rfl (tS [some 0, some 1, some 2, some 3] (sV (lS (lS lN)) (sV (lS (lS (lS (lS lN)))) (sR zr (sR qk qy)))) (ju jc))
def z8 (a0 : Reader) (a1 : Int) (a2 : BA) (a3 : LB) (a4 : LN) : Option (Except Int (Reader × BA × LB)) :=
 zn a0 >>= fun x1 =>
 if (!decide (x1.Kind = (1 : Int))) = true then
  ja a0 >>= fun x4 =>
  match x4 with
  | .error ee => some (.error ee)
  | .ok x4 =>
  kx a0 a1 a2 a3 a4 x1
 else
  Kq x1.Text >>= fun x2 =>
  if (!x2) = true then
   ja a0 >>= fun x3 =>
   match x3 with
   | .error ee => some (.error ee)
   | .ok x3 =>
   kx a0 a1 a2 a3 a4 x1
  else
   kx a0 a1 a2 a3 a4 x1
@[reducible] def qcs (a0 : Reader) (a1 : Int) (a2 : BA) (a3 : LB) (a4 : LN) (r : Except Int (Reader × BA × LB)) : Prop :=
  exq (fun (r : Reader × BA × LB) => AC Tryz.prog G 73 [(.ptr 0 0 0), (.ptr 1 1 0)] 4 [(0, .var 77 (Reader.cells a0)), (1, .var 26 [(.int .i64 a1), (.str a2), (.bs 1 2 2 0 a3.length), (.bs 4 3 3 0 a4.length)]), (2, .row 9 (a3.map sc).flatten), (3, .row 26 (a4.map Node.cells).flatten)] (.tup []) 5 [(0, .var 77 (Reader.cells r.1)), (1, .var 26 [(.int .i64 a1), (.str r.2.1), (.bs 1 2 4 0 r.2.2.length), (.bs 4 3 3 0 a4.length)]), (4, .row 9 (r.2.2.map sc).flatten), (3, .row 26 (a4.map Node.cells).flatten)]) (fun e => FC Tryz.prog G 73 [(.ptr 0 0 0), (.ptr 1 1 0)] 4 [(0, .var 77 (Reader.cells a0)), (1, .var 26 [(.int .i64 a1), (.str a2), (.bs 1 2 2 0 a3.length), (.bs 4 3 3 0 a4.length)]), (2, .row 9 (a3.map sc).flatten), (3, .row 26 (a4.map Node.cells).flatten)] (flt e)) r
theorem zl : PC5 qcs z8 := fun a0 a1 a2 a3 a4 r h => by
 rw [z8.eq_def] at h
 refine Z3 (T := tt) (N := 41) (rs := []) (fun vs w => by simp) Tryz.func73 rfl rfl rfl (by kernel_rfl) (by kernel_rfl) (zm rfl rfl (zm rfl rfl (jj zr rfl (jj qk rfl jk)))) (qj (qj (zb zr (zb qk zd)))) (fun r => (zo rfl (zo rfl (jp zr (jp qk jq))))) (fun r => (qj (qj (zb zr (zb qk zd))))) (fun _ => rfl) (fun _ => rfl) rfl (fun _ => rfl) ?_
 refine kr [15] ?_
 obtain ⟨x1, hx, h⟩ := bind_some h
 refine qb (AC.g9 (zu _ _ hx) [0] [0]) ?_
 refine kr [15] ?_
 refine q8 (fun hb => ?_) (fun hb => ?_)
 ·replace h := qx hb h
  refine kr [15] ?_
  obtain ⟨x2, hx, h⟩ := bind_some h
  refine qt (qe8 _ _ hx) ?_
  refine kr [15] ?_
  refine qg (fun hb => ?_) (fun hb => ?_)
  ·replace h := qw hb h
   refine kr [15] ?_
   obtain ⟨x3, hx, h⟩ := bind_some h
   rcases x3 with ee | x3
   ·replace h : some (.error ee) = some r := h
    cases h
    exact ze (FC.go (zq _ _ hx) [0] [0] rfl rfl rfl rfl rfl rfl)
   refine qb (AC.g9 (zq _ _ hx) [0] [0]) ?_
   refine kr [15] ?_
   exact qz (by kernel_rfl) rfl lQ (v8 _ _ _ _ _ _ _ h)
  ·replace h := qx hb h
   refine kr [15] ?_
   exact qz (by kernel_rfl) rfl lQ (v8 _ _ _ _ _ _ _ h)
 ·replace h := qw hb h
  refine kr [15] ?_
  obtain ⟨x4, hx, h⟩ := bind_some h
  rcases x4 with ee | x4
  ·replace h : some (.error ee) = some r := h
   cases h
   exact ze (FC.go (zq _ _ hx) [0] [0] rfl rfl rfl rfl rfl rfl)
  refine qb (AC.g9 (zq _ _ hx) [0] [0]) ?_
  refine kr [15] ?_
  exact qz (by kernel_rfl) rfl lQ (v8 _ _ _ _ _ _ _ h)
def zx (a0 : Int) (a2 : BA) (a3 : LB) (a4 : LN) (a1 : Node) : Option LN :=
 app 72 a4 [a1] >>= fun x1 =>
 some x1
@[reducible] def qke (a0 : Int) (a2 : BA) (a3 : LB) (a4 : LN) (a1 : Node) (r : LN) : Prop :=
  AC Tryz.prog G 53 [(.ptr 0 0 0), (.agg (zp a1))] 3 [(0, .var 26 [(.int .i64 a0), (.str a2), (.bs 1 1 1 0 a3.length), (.bs 4 2 2 0 a4.length)]), (1, .row 9 (a3.map sc).flatten), (2, .row 26 (a4.map Node.cells).flatten)] (.tup []) 4 [(0, .var 26 [(.int .i64 a0), (.str a2), (.bs 1 1 1 0 a3.length), (.bs 4 2 3 0 r.length)]), (1, .row 9 (a3.map sc).flatten), (3, .row 26 (r.map Node.cells).flatten)]
theorem zy : PC5 qke zx := fun a0 a2 a3 a4 a1 r h => by
 rw [zx.eq_def] at h
 refine ⟨?_, (zm rfl rfl (jj zr rfl (jj qk rfl jk))), (qj (zb zr (zb qk zd))), (zo rfl (jp zr (jp qk jq))), (qj (zb zr (zb qk zd))), rfl, rfl, rfl, rfl⟩
 refine y8 (T := tt) (N := 15) (rs := []) (fun vs w => by simp) Tryz.func53 rfl rfl rfl (by kernel_rfl) (by kernel_rfl) ?_
 refine kr [] ?_
 obtain ⟨x1, hx, h⟩ := bind_some h
 have hz_x1 := hx
 refine qnm (C := Node.cells) env hx rfl rfl Node.cells_len rfl rfl rfl rfl rfl (by decide) rfl rfl rfl ?_
 refine kr [] ?_
 refine qvm env rfl rfl rfl rfl (Int.natCast_nonneg _) (qnh hz_x1) ?_
 refine kr [] ?_
 refine qiy hz_x1 qk rfl rfl (Node.cells_eq a1).symm rfl rfl rfl ?_
 refine kr [] ?_
 cases h
 exact je env rfl (tS [some 0, some 1, some 2] (sV (lS (lS (lS (lS lN)))) (sR zr (sR qk qy))) (ju jc))
def wt (a0 : Reader) : Option (Except Int (Node × Reader)) :=
 z8 a0 (5 : Int) (⟨#[]⟩) ([] : LB) ([] : LN) >>= fun x1 =>
 match x1 with
 | .error ee => some (.error ee)
 | .ok x1 =>
 some (.ok ((Node.mk (5 : Int) x1.2.1 x1.2.2 ([] : LN)), x1.1))
@[reducible] def qct (a0 : Reader) (r : Except Int (Node × Reader)) : Prop :=
  exq (fun (r : Node × Reader) => AC Tryz.prog G 96 [(.ptr 0 0 0)] 1 [(0, .var 77 (Reader.cells a0))] (.agg (zp r.1)) 1 [(0, .var 77 (Reader.cells r.2))]) (fun e => FC Tryz.prog G 96 [(.ptr 0 0 0)] 1 [(0, .var 77 (Reader.cells a0))] (flt e)) r
theorem vn : PC1 qct wt := fun a0 r h => by
 rw [wt.eq_def] at h
 refine Z3 (T := tt) (N := 8) (rs := [.cell 2 26]) (fun vs w => by simp) Tryz.func96 rfl rfl rfl (by kernel_rfl) (by kernel_rfl) (zm rfl rfl jk) (qj zd) (fun r => (zo rfl jq)) (fun r => (qj zd)) (fun _ => rfl) (fun _ => rfl) rfl (fun _ => rfl) ?_
 refine kr [] ?_
 obtain ⟨x1, hx, h⟩ := bind_some h
 rcases x1 with ee | x1
 ·replace h : some (.error ee) = some r := h
  cases h
  exact ze (FCalls.ghost (e := 9) (FCalls.ghost (e := 26) (FCalls.wkg (FC.go (objs := [(0, .var 77 (Reader.cells a0)), (1, .var 26 [(.int .i64 0), (.str ⟨#[]⟩), (.sl 0 true []), (.sl 0 true [])]), (2, .var 26 [(.int .i64 (5 : Int)), (.str ⟨#[]⟩), (.bs 1 3 3 0 ([] : LB).length), (.bs 4 4 4 0 ([] : LN).length)]), (3, .row 9 (([] : LB).map sc).flatten), (4, .row 26 (([] : LN).map Node.cells).flatten)]) (xs := [(.ptr 0 0 0), (.ptr 2 2 0)]) (zl _ _ _ _ _ _ hx) [0, 2, 3, 4] [0, 2, 3, 4] rfl rfl rfl rfl rfl rfl) (qi (qn _) (qi (qn _) z6)) (qe (qe (jb (qd (ql _) (qd (ql _) (qd (zg rfl) (qd (zg rfl) js)))) (zt _)))))))
 refine qb (ACalls.ghost (e := 9) (ACalls.ghost (e := 26) (ACalls.wkg (AC.go (objs := [(0, .var 77 (Reader.cells a0)), (1, .var 26 [(.int .i64 0), (.str ⟨#[]⟩), (.sl 0 true []), (.sl 0 true [])]), (2, .var 26 [(.int .i64 (5 : Int)), (.str ⟨#[]⟩), (.bs 1 3 3 0 ([] : LB).length), (.bs 4 4 4 0 ([] : LN).length)]), (3, .row 9 (([] : LB).map sc).flatten), (4, .row 26 (([] : LN).map Node.cells).flatten)]) (xs := [(.ptr 0 0 0), (.ptr 2 2 0)]) (zl _ _ _ _ _ _ hx) [0, 2, 3, 4] [0, 2, 3, 4] rfl rfl rfl rfl rfl rfl rfl rfl rfl) (qi (qn _) (qi (qn _) z6)) (qe (qe (jb (qd (ql _) (qd (ql _) (qd (zg rfl) (qd (zg rfl) js)))) (zt _))))))) ?_
 refine kr [] ?_
 cases h
 exact jw env rfl rfl (tS [some 0] (sV (lS (lS lN)) qy) (j3 (ym (qh (qf (zw rfl) rfl) (qh (qf (jr rfl) rfl) (qh (qf (jz zr rfl) rfl) (qh (qf (jz qk rfl) rfl) yl))))) (by simp)))
def j6 (a0 : Reader) (a1 : Int) : Option (Node × Reader) :=
 zn a0 >>= fun x1 =>
 some ((Node.mk a1 x1.Text ([x1.Lead]) ([] : LN)), (Reader.mk a0.l_ (IntKind.i64.wrap (a0.at_ + (1 : Int)))))
@[reducible] def qcp (a0 : Reader) (a1 : Int) (r : Node × Reader) : Prop :=
  AC Tryz.prog G 67 [(.ptr 0 0 0), (.int .i64 a1)] 2 [(0, .var 77 (Reader.cells a0)), (1, .row 26 [])] (.agg [(.int .i64 r.1.kind), (.str r.1.text), (.sl 1 false (r.1.gaps.map sc)), (.bs 4 1 2 0 r.1.kids.length)]) 3 [(0, .var 77 (Reader.cells r.2)), (2, .row 26 (r.1.kids.map Node.cells).flatten)]
theorem ko : PC2 qcp j6 := fun a0 a1 r h => by
 rw [j6.eq_def] at h
 refine ⟨?_, (zm rfl rfl (qw0 rfl jk)), (qj (qku zd)), (zo rfl (jp qk jq)), (qj (zb qk zd)), rfl, rfl, rfl, rfl⟩
 refine y8 (T := tt) (N := 22) (rs := [.cell 4 26]) (fun vs w => by simp) Tryz.func67 rfl rfl rfl (by kernel_rfl) (by kernel_rfl) ?_
 refine kr [] ?_
 obtain ⟨x1, hx, h⟩ := bind_some h
 refine qb (AC.g9 (zu _ _ hx) [0] [0]) ?_
 refine kr [] ?_
 cases h
 exact jw env rfl rfl (tS [some 0, none] (sV (lS (lS lN)) (qll rfl rfl qy)) (j3 (ym (qh (qf (zw rfl) rfl) (qh (qf (jr rfl) rfl) (qh (qf (y5 (.inl rfl)) rfl) (qh (qzz rfl rfl) yl))))) (by simp)))
def Qe (a0 : Int) (a2 : BA) (a3 : LB) (a4 : LN) (a1 : Node) : Option LN :=
 app 72 a4 [a1] >>= fun x1 =>
 some x1
@[reducible] def qkd (a0 : Int) (a2 : BA) (a3 : LB) (a4 : LN) (a1 : Node) (r : LN) : Prop :=
  AC Tryz.prog G 53 [(.ptr 0 0 0), (.agg (zp a1))] 2 [(0, .var 26 [(.int .i64 a0), (.str a2), (.sl 1 false (a3.map sc)), (.bs 4 1 1 0 a4.length)]), (1, .row 26 (a4.map Node.cells).flatten)] (.tup []) 3 [(0, .var 26 [(.int .i64 a0), (.str a2), (.sl 1 false (a3.map sc)), (.bs 4 1 2 0 r.length)]), (2, .row 26 (r.map Node.cells).flatten)]
theorem Yn : PC5 qkd Qe := fun a0 a2 a3 a4 a1 r h => by
 rw [Qe.eq_def] at h
 refine ⟨?_, (zm rfl rfl (jj qk rfl jk)), (qj (zb qk zd)), (zo rfl (jp qk jq)), (qj (zb qk zd)), rfl, rfl, rfl, rfl⟩
 refine y8 (T := tt) (N := 15) (rs := []) (fun vs w => by simp) Tryz.func53 rfl rfl rfl (by kernel_rfl) (by kernel_rfl) ?_
 refine kr [] ?_
 obtain ⟨x1, hx, h⟩ := bind_some h
 have hz_x1 := hx
 refine qnm (C := Node.cells) env hx rfl rfl Node.cells_len rfl rfl rfl rfl rfl (by decide) rfl rfl rfl ?_
 refine kr [] ?_
 refine qvm env rfl rfl rfl rfl (Int.natCast_nonneg _) (qnh hz_x1) ?_
 refine kr [] ?_
 refine qiy hz_x1 qk rfl rfl (Node.cells_eq a1).symm rfl rfl rfl ?_
 refine kr [] ?_
 cases h
 exact je env rfl (tS [some 0, some 1] (sV (lS (lS (lS (lS lN)))) (sR qk qy)) (ju jc))
def y4 (o0 : Reader) (o3_0 : Int) (o3_1 : BA) (o3_2 : LB) (o3_3 : LN) : Option (Except Int (Node × Reader)) :=
 some (.ok ((Node.mk o3_0 o3_1 o3_2 o3_3), o0))
@[reducible] def K2 (o0 : Reader) (o3_0 : Int) (o3_1 : BA) (o3_2 : LB) (o3_3 : LN) (r : Except Int (Node × Reader)) : Prop :=
  Ok Tryz.prog G tt 61 1 (exq (fun (r : Node × Reader) => Ret Tryz.prog [.cell 2 26] (fun y H => ua Tryz.prog G 1 H y (.agg (zp r.1)) ⟨1, [(0, .var 77 (Reader.cells r.2))]⟩)) (fun e => Zl (flt e)) r) (.go [] (vc [56] Tryz.f105 56) [] (.n .undef .z (.n (.ptr 1 1 0) .z (.n (.ptr 3 3 0) .z .z))) 9 [(0, .var 77 (Reader.cells o0)), (1, .var 26 [(.int .i64 0), (.str ⟨#[]⟩), (.sl 0 true []), (.sl 0 true [])]), (2, .dead), (3, .var 26 [(.int .i64 o3_0), (.str o3_1), (.bs 1 4 7 0 o3_2.length), (.bs 4 5 8 0 o3_3.length)]), (7, .row 9 (o3_2.map sc).flatten), (8, .row 26 (o3_3.map Node.cells).flatten)])
theorem Zk : PC5 K2 y4 := fun o0 o3_0 o3_1 o3_2 o3_3 r h => by
 rw [y4.eq_def] at h
 refine kr [56] ?_
 cases h
 exact jw env rfl rfl (tS [some 0] (sV (lS (lS lN)) qy) (j3 (ym (qh (qf (zw rfl) rfl) (qh (qf (jr rfl) rfl) (qh (qf (jz zr rfl) rfl) (qh (qf (jz qk rfl) rfl) yl))))) (by simp)))
def kq (o0 : Reader) (o2 : Node) : Option (Except Int (Node × Reader)) :=
 some (.ok (o2, o0))
@[reducible] def Wt (o0 : Reader) (o2 : Node) (r : Except Int (Node × Reader)) : Prop :=
  Ok Tryz.prog G tt 33 1 (exq (fun (r : Node × Reader) => Ret Tryz.prog [.cell 4 26] (fun y H => ua Tryz.prog G 1 H y (.agg (zp r.1)) ⟨1, [(0, .var 77 (Reader.cells r.2))]⟩)) (fun e => Zl (flt e)) r) (.go [] (qrk [1000000] Tryz.f31 0) [] (.n .undef (.n .undef .z (.n (.ptr 2 2 0) .z .z)) (.n .undef (.n (.ptr 1 1 0) .z .z) .z)) 8 [(0, .var 77 (Reader.cells o0)), (1, .var 26 [(.int .i64 0), (.str ⟨#[]⟩), (.sl 0 true []), (.sl 0 true [])]), (2, .var 26 (zp o2))])
theorem Z7 : PC2 Wt kq := fun o0 o2 r h => by
 rw [kq.eq_def] at h
 refine kr [1000000] ?_
 cases h
 exact jw env rfl rfl (tS [some 0] (sV (lS (lS lN)) qy) (j3 (ym (qh (qf (zw rfl) rfl) (qh (qf (jr rfl) rfl) (qh (qf (y5 (.inl rfl)) rfl) (qh (qf (y5 (.inl rfl)) rfl) yl))))) (by simp)))
mutual
def q7 (a0 : Reader) (a1 : Int) : Option (Except Int (Node × Reader)) :=
 if (decide ((5 : Int) < a1)) = true then
  yd (qa a0) >>= fun x1 =>
  match x1 with
  | .error ee => some (.error ee)
  | .ok x1 =>
  some (.ok (x1.1, x1.2))
 else
  q7 (qa a0) (IntKind.i64.wrap (a1 + (1 : Int))) >>= fun x2 =>
  match x2 with
  | .error ee => some (.error ee)
  | .ok x2 =>
  jy (qa a1) x2.2 x2.1
 partial_fixpoint
def yd (a0 : Reader) : Option (Except Int (Node × Reader)) :=
 zf (qa a0) (⟨#[45]⟩ : BA) >>= fun x3 =>
 if x3 = true then
  j6 (qa a0) (25 : Int) >>= fun x9 =>
  yd x9.2 >>= fun x10 =>
  match x10 with
  | .error ee => some (.error ee)
  | .ok x10 =>
  Qe x9.1.kind x9.1.text x9.1.gaps x9.1.kids x10.1 >>= fun x11 =>
  some (.ok ((Node.mk x9.1.kind x9.1.text x9.1.gaps x11), x10.2))
 else
  zf (qa a0) (⟨#[33]⟩ : BA) >>= fun x4 =>
  if x4 = true then
   j6 (qa a0) (25 : Int) >>= fun x5 =>
   yd x5.2 >>= fun x6 =>
   match x6 with
   | .error ee => some (.error ee)
   | .ok x6 =>
   Qe x5.1.kind x5.1.text x5.1.gaps x5.1.kids x6.1 >>= fun x7 =>
   some (.ok ((Node.mk x5.1.kind x5.1.text x5.1.gaps x7), x6.2))
  else
   y7 (qa a0) >>= fun x8 =>
   match x8 with
   | .error ee => some (.error ee)
   | .ok x8 =>
   jo x8.2 x8.1
 partial_fixpoint
def y7 (a0 : Reader) : Option (Except Int (Node × Reader)) :=
 zn (qa a0) >>= fun x12 =>
 if (decide (x12.Kind = (2 : Int))) = true then
  j6 (qa a0) (17 : Int) >>= fun x13 =>
  some (.ok ((Node.mk x13.1.kind x13.1.text x13.1.gaps x13.1.kids), x13.2))
 else
  zf (qa a0) (⟨#[116, 114, 117, 101]⟩ : BA) >>= fun x14 =>
  if x14 = true then
   j6 (qa a0) (18 : Int) >>= fun x15 =>
   some (.ok ((Node.mk x15.1.kind x15.1.text x15.1.gaps x15.1.kids), x15.2))
  else
   zf (qa a0) (⟨#[102, 97, 108, 115, 101]⟩ : BA) >>= fun x16 =>
   if x16 = true then
    j6 (qa a0) (18 : Int) >>= fun x17 =>
    some (.ok ((Node.mk x17.1.kind x17.1.text x17.1.gaps x17.1.kids), x17.2))
   else
    zf (qa a0) (⟨#[115, 101, 108, 102]⟩ : BA) >>= fun x18 =>
    if x18 = true then
     j6 (qa a0) (23 : Int) >>= fun x19 =>
     some (.ok ((Node.mk x19.1.kind x19.1.text x19.1.gaps x19.1.kids), x19.2))
    else
     zf (qa a0) (⟨#[110, 101, 119]⟩ : BA) >>= fun x20 =>
     if x20 = true then
      qm (qa a0) (22 : Int) (⟨#[]⟩) ([] : LB) ([] : LN) (⟨#[110, 101, 119]⟩ : BA) >>= fun x21 =>
      match x21 with
      | .error ee => some (.error ee)
      | .ok x21 =>
      z8 x21.1 (22 : Int) (⟨#[]⟩) x21.2 ([] : LN) >>= fun x22 =>
      match x22 with
      | .error ee => some (.error ee)
      | .ok x22 =>
      qm x22.1 (22 : Int) x22.2.1 x22.2.2 ([] : LN) (⟨#[40]⟩ : BA) >>= fun x23 =>
      match x23 with
      | .error ee => some (.error ee)
      | .ok x23 =>
      qm x23.1 (22 : Int) x22.2.1 x23.2 ([] : LN) (⟨#[41]⟩ : BA) >>= fun x24 =>
      match x24 with
      | .error ee => some (.error ee)
      | .ok x24 =>
      some (.ok ((Node.mk (22 : Int) x22.2.1 x24.2 ([] : LN)), x24.1))
     else
      zf (qa a0) (⟨#[40]⟩ : BA) >>= fun x25 =>
      if x25 = true then
       qm (qa a0) (26 : Int) (⟨#[]⟩) ([] : LB) ([] : LN) (⟨#[40]⟩ : BA) >>= fun x26 =>
       match x26 with
       | .error ee => some (.error ee)
       | .ok x26 =>
       q7 x26.1 (1 : Int) >>= fun x27 =>
       match x27 with
       | .error ee => some (.error ee)
       | .ok x27 =>
       zx (26 : Int) (⟨#[]⟩) x26.2 ([] : LN) x27.1 >>= fun x28 =>
       qm x27.2 (26 : Int) (⟨#[]⟩) x26.2 (qa x28) (⟨#[41]⟩ : BA) >>= fun x29 =>
       match x29 with
       | .error ee => some (.error ee)
       | .ok x29 =>
       some (.ok ((Node.mk (26 : Int) (⟨#[]⟩) x29.2 x28), x29.1))
      else
       z8 (qa a0) (19 : Int) (⟨#[]⟩) ([] : LB) ([] : LN) >>= fun x30 =>
       match x30 with
       | .error ee => some (.error ee)
       | .ok x30 =>
       zf x30.1 (⟨#[40]⟩ : BA) >>= fun x31 =>
       if x31 = true then
        jh x30.1 (20 : Int) x30.2.1 x30.2.2 ([] : LN) >>= fun x32 =>
        match x32 with
        | .error ee => some (.error ee)
        | .ok x32 =>
        y4 x32.1 (20 : Int) x30.2.1 x32.2.1 x32.2.2
       else
        y4 x30.1 (19 : Int) x30.2.1 x30.2.2 ([] : LN)
 partial_fixpoint
def jh (a0 : Reader) (a1 : Int) (a2 : BA) (a3 : LB) (a4 : LN) : Option (Except Int (Reader × LB × LN)) :=
 qm (qa a0) (qa a1) (qa a2) (qa a3) (qa a4) (⟨#[40]⟩ : BA) >>= fun x33 =>
 match x33 with
 | .error ee => some (.error ee)
 | .ok x33 =>
 jf (qa true) x33.1 (qa a1) (qa a2) x33.2 (qa a4)
 partial_fixpoint
def jy (t1 : Int) (o0 : Reader) (o2 : Node) : Option (Except Int (Node × Reader)) :=
 zn (qa o0) >>= fun x34 =>
 Yg (qa x34) >>= fun x35 =>
 if (decide (x35 = t1)) = true then
  j6 (qa o0) (24 : Int) >>= fun x36 =>
  Qe x36.1.kind x36.1.text x36.1.gaps x36.1.kids (qa o2) >>= fun x37 =>
  q7 x36.2 (IntKind.i64.wrap (t1 + (1 : Int))) >>= fun x38 =>
  match x38 with
  | .error ee => some (.error ee)
  | .ok x38 =>
  Qe x36.1.kind x36.1.text x36.1.gaps (qa x37) x38.1 >>= fun x39 =>
  if (decide (t1 = (3 : Int))) = true then
   kq x38.2 (Node.mk x36.1.kind x36.1.text x36.1.gaps x39)
  else
   jy (qa t1) x38.2 (Node.mk x36.1.kind x36.1.text x36.1.gaps x39)
 else
  kq (qa o0) (qa o2)
 partial_fixpoint
def jo (o0 : Reader) (o2 : Node) : Option (Except Int (Node × Reader)) :=
 zf (qa o0) (⟨#[46]⟩ : BA) >>= fun x40 =>
 if x40 = true then
  qm (qa o0) (21 : Int) (⟨#[]⟩) ([] : LB) ([o2] : LN) (⟨#[46]⟩ : BA) >>= fun x41 =>
  match x41 with
  | .error ee => some (.error ee)
  | .ok x41 =>
  z8 x41.1 (21 : Int) (⟨#[]⟩) x41.2 ([o2] : LN) >>= fun x42 =>
  match x42 with
  | .error ee => some (.error ee)
  | .ok x42 =>
  jh x42.1 (21 : Int) x42.2.1 x42.2.2 ([o2] : LN) >>= fun x43 =>
  match x43 with
  | .error ee => some (.error ee)
  | .ok x43 =>
  jo x43.1 (Node.mk (21 : Int) x42.2.1 x43.2.1 x43.2.2)
 else
  some (.ok (o2, o0))
 partial_fixpoint
def jf (t4 : Bool) (o0 : Reader) (o1_0 : Int) (o1_1 : BA) (o1_2 : LB) (o1_3 : LN) : Option (Except Int (Reader × LB × LN)) :=
 zf (qa o0) (⟨#[41]⟩ : BA) >>= fun x44 =>
 if (!x44) = true then
  if (!t4) = true then
   qm (qa o0) (qa o1_0) (qa o1_1) (qa o1_2) (qa o1_3) (⟨#[44]⟩ : BA) >>= fun x45 =>
   match x45 with
   | .error ee => some (.error ee)
   | .ok x45 =>
   ya x45.1 (qa o1_0) (qa o1_1) x45.2 (qa o1_3)
  else
   ya (qa o0) (qa o1_0) (qa o1_1) (qa o1_2) (qa o1_3)
 else
  qm (qa o0) (qa o1_0) (qa o1_1) (qa o1_2) (qa o1_3) (⟨#[41]⟩ : BA) >>= fun x46 =>
  match x46 with
  | .error ee => some (.error ee)
  | .ok x46 =>
  some (.ok (x46.1, x46.2, o1_3))
 partial_fixpoint
def ya (o0 : Reader) (o1_0 : Int) (o1_1 : BA) (o1_2 : LB) (o1_3 : LN) : Option (Except Int (Reader × LB × LN)) :=
 q7 (qa o0) (1 : Int) >>= fun x47 =>
 match x47 with
 | .error ee => some (.error ee)
 | .ok x47 =>
 zx (qa o1_0) (qa o1_1) (qa o1_2) (qa o1_3) x47.1 >>= fun x48 =>
 jf (qa false) x47.2 (qa o1_0) (qa o1_1) (qa o1_2) (qa x48)
 partial_fixpoint
end
@[reducible] def Qw (a0 : Reader) (a1 : Int) (r : Except Int (Node × Reader)) : Prop :=
  exq (fun (r : Node × Reader) => AC Tryz.prog G 31 [(.ptr 0 0 0), (.int .i64 a1)] 1 [(0, .var 77 (Reader.cells a0))] (.agg (zp r.1)) 1 [(0, .var 77 (Reader.cells r.2))]) (fun e => FC Tryz.prog G 31 [(.ptr 0 0 0), (.int .i64 a1)] 1 [(0, .var 77 (Reader.cells a0))] (flt e)) r
@[reducible] def Q7 (a0 : Reader) (r : Except Int (Node × Reader)) : Prop :=
  exq (fun (r : Node × Reader) => AC Tryz.prog G 65 [(.ptr 0 0 0)] 1 [(0, .var 77 (Reader.cells a0))] (.agg (zp r.1)) 1 [(0, .var 77 (Reader.cells r.2))]) (fun e => FC Tryz.prog G 65 [(.ptr 0 0 0)] 1 [(0, .var 77 (Reader.cells a0))] (flt e)) r
@[reducible] def Qi (a0 : Reader) (r : Except Int (Node × Reader)) : Prop :=
  exq (fun (r : Node × Reader) => AC Tryz.prog G 105 [(.ptr 0 0 0)] 1 [(0, .var 77 (Reader.cells a0))] (.agg (zp r.1)) 1 [(0, .var 77 (Reader.cells r.2))]) (fun e => FC Tryz.prog G 105 [(.ptr 0 0 0)] 1 [(0, .var 77 (Reader.cells a0))] (flt e)) r
@[reducible] def vt (a0 : Reader) (a1 : Int) (a2 : BA) (a3 : LB) (a4 : LN) (r : Except Int (Reader × LB × LN)) : Prop :=
  exq (fun (r : Reader × LB × LN) => AC Tryz.prog G 106 [(.ptr 0 0 0), (.ptr 1 1 0)] 4 [(0, .var 77 (Reader.cells a0)), (1, .var 26 [(.int .i64 a1), (.str a2), (.bs 1 2 2 0 a3.length), (.bs 4 3 3 0 a4.length)]), (2, .row 9 (a3.map sc).flatten), (3, .row 26 (a4.map Node.cells).flatten)] (.tup []) 6 [(0, .var 77 (Reader.cells r.1)), (1, .var 26 [(.int .i64 a1), (.str a2), (.bs 1 2 4 0 r.2.1.length), (.bs 4 3 5 0 r.2.2.length)]), (4, .row 9 (r.2.1.map sc).flatten), (5, .row 26 (r.2.2.map Node.cells).flatten)]) (fun e => FC Tryz.prog G 106 [(.ptr 0 0 0), (.ptr 1 1 0)] 4 [(0, .var 77 (Reader.cells a0)), (1, .var 26 [(.int .i64 a1), (.str a2), (.bs 1 2 2 0 a3.length), (.bs 4 3 3 0 a4.length)]), (2, .row 9 (a3.map sc).flatten), (3, .row 26 (a4.map Node.cells).flatten)] (flt e)) r
@[reducible] def vr (t1 : Int) (o0 : Reader) (o2 : Node) (r : Except Int (Node × Reader)) : Prop :=
  Ok Tryz.prog G tt 33 1 (exq (fun (r : Node × Reader) => Ret Tryz.prog [.cell 4 26] (fun y H => ua Tryz.prog G 1 H y (.agg (zp r.1)) ⟨1, [(0, .var 77 (Reader.cells r.2))]⟩)) (fun e => Zl (flt e)) r) (.again (wu [1000000] Tryz.f31 0).1 (wu [1000000] Tryz.f31 0).2 (.n (.ptr 0 0 0) (.n (.int .i64 t1) .z (.n (.ptr 2 2 0) .z .z)) (.n .undef (.n (.ptr 1 1 0) .z .z) .z)) 3 [(0, .var 77 (Reader.cells o0)), (1, .var 26 [(.int .i64 0), (.str ⟨#[]⟩), (.sl 0 true []), (.sl 0 true [])]), (2, .var 26 (zp o2))])
@[reducible] def vv (o0 : Reader) (o2 : Node) (r : Except Int (Node × Reader)) : Prop :=
  Ok Tryz.prog G tt 33 1 (exq (fun (r : Node × Reader) => Ret Tryz.prog [.cell 2 26] (fun y H => ua Tryz.prog G 1 H y (.agg (zp r.1)) ⟨1, [(0, .var 77 (Reader.cells r.2))]⟩)) (fun e => Zl (flt e)) r) (.again (wu [3000023] Tryz.f65 0).1 (wu [3000023] Tryz.f65 0).2 (.n (.ptr 0 0 0) .z (.n (.ptr 1 1 0) (.n (.ptr 2 2 0) .z .z) .z)) 3 [(0, .var 77 (Reader.cells o0)), (1, .var 26 [(.int .i64 0), (.str ⟨#[]⟩), (.sl 0 true []), (.sl 0 true [])]), (2, .var 26 (zp o2))])
@[reducible] def u3 (t4 : Bool) (o0 : Reader) (o1_0 : Int) (o1_1 : BA) (o1_2 : LB) (o1_3 : LN) (r : Except Int (Reader × LB × LN)) : Prop :=
  Ok Tryz.prog G tt 23 4 (exq (fun (r : Reader × LB × LN) => Ret Tryz.prog [] (fun y H => ua Tryz.prog G 4 H y (.tup []) ⟨6, [(0, .var 77 (Reader.cells r.1)), (1, .var 26 [(.int .i64 o1_0), (.str o1_1), (.bs 1 2 4 0 r.2.1.length), (.bs 4 3 5 0 r.2.2.length)]), (4, .row 9 (r.2.1.map sc).flatten), (5, .row 26 (r.2.2.map Node.cells).flatten)]⟩)) (fun e => Zl (flt e)) r) (.again (wu [12] Tryz.f106 0).1 (wu [12] Tryz.f106 0).2 (.n (.ptr 0 0 0) (.n (.ptr 1 1 0) .z .z) (.n .undef (.n (.bool t4) .z .z) .z)) 7 [(0, .var 77 (Reader.cells o0)), (1, .var 26 [(.int .i64 o1_0), (.str o1_1), (.bs 1 2 5 0 o1_2.length), (.bs 4 3 6 0 o1_3.length)]), (5, .row 9 (o1_2.map sc).flatten), (6, .row 26 (o1_3.map Node.cells).flatten)])
@[reducible] def um (o0 : Reader) (o1_0 : Int) (o1_1 : BA) (o1_2 : LB) (o1_3 : LN) (r : Except Int (Reader × LB × LN)) : Prop :=
  Ok Tryz.prog G tt 23 4 (exq (fun (r : Reader × LB × LN) => Ret Tryz.prog [] (fun y H => ua Tryz.prog G 4 H y (.tup []) ⟨6, [(0, .var 77 (Reader.cells r.1)), (1, .var 26 [(.int .i64 o1_0), (.str o1_1), (.bs 1 2 4 0 r.2.1.length), (.bs 4 3 5 0 r.2.2.length)]), (4, .row 9 (r.2.1.map sc).flatten), (5, .row 26 (r.2.2.map Node.cells).flatten)]⟩)) (fun e => Zl (flt e)) r) (.go [] (vc [12] Tryz.f106 12) [] (.n (.ptr 0 0 0) (.n (.ptr 1 1 0) .z .z) .z) 10 [(0, .var 77 (Reader.cells o0)), (1, .var 26 [(.int .i64 o1_0), (.str o1_1), (.bs 1 2 8 0 o1_2.length), (.bs 4 3 9 0 o1_3.length)]), (8, .row 9 (o1_2.map sc).flatten), (9, .row 26 (o1_3.map Node.cells).flatten)])
theorem j8 : PC2 Qw q7 ∧ PC3 vr jy ∧ PC1 Q7 yd ∧ PC2 vv jo ∧ PC5 vt jh ∧ PC6 u3 jf ∧ PC5 um ya ∧ PC1 Qi y7 := by
 refine q7.mutual_partial_correctness Qw vr Q7 vv vt u3 um Qi (fun q7 jy yd qu w7 yn a0 a1 r h => ?_) (fun q7 jy qu w7 t1 o0 o2 r h => ?_) (fun yd jo y7 yn uc Ql a0 r h => ?_) (fun jo jh uc y0 o0 o2 r h => ?_) (fun jf wd a0 a1 a2 a3 a4 r h => ?_) (fun ya uq t4 o0 o1_0 o1_1 o1_2 o1_3 r h => ?_) (fun q7 jf qu wd o0 o1_0 o1_1 o1_2 o1_3 r h => ?_) (fun q7 jh qu y0 a0 r h => ?_)
 ·unfold qa at h
  refine Z3 (T := tt) (N := 33) (rs := [.cell 4 26]) (fun vs w => by simp) Tryz.func31 rfl rfl rfl (by kernel_rfl) (by kernel_rfl) (zm rfl rfl jk) (qj zd) (fun r => (zo rfl jq)) (fun r => (qj zd)) (fun _ => rfl) (fun _ => rfl) rfl (fun _ => rfl) ?_
  refine kr [1000000] ?_
  refine qg (fun hb => ?_) (fun hb => ?_)
  ·replace h := qw hb h
   refine kr [1000000] ?_
   obtain ⟨x1, hx, h⟩ := bind_some h
   rcases x1 with ee | x1
   ·replace h : some (.error ee) = some r := h
    cases h
    exact ze (FC.go (yn _ _ hx) [0] [0] rfl rfl rfl rfl rfl rfl)
   refine qb (AC.g9 (yn _ _ hx) [0] [0]) ?_
   refine kr [1000000] ?_
   cases h
   exact jw env rfl rfl (tS [some 0] (sV (lS (lS lN)) qy) (j3 (ym (qh (qf (zw rfl) rfl) (qh (qf (jr rfl) rfl) (qh (qf (y5 (.inl rfl)) rfl) (qh (qf (y5 (.inl rfl)) rfl) yl))))) (by simp)))
  ·replace h := qx hb h
   refine kr [1000000] ?_
   obtain ⟨x2, hx, h⟩ := bind_some h
   rcases x2 with ee | x2
   ·replace h : some (.error ee) = some r := h
    cases h
    exact ze (FC.go (qu _ _ _ hx) [0] [0] rfl rfl rfl rfl rfl rfl)
   refine qb (AC.g9 (qu _ _ _ hx) [0] [0]) ?_
   refine kr [1000000] ?_
   exact wq (by kernel_rfl) lQ (w7 _ _ _ _ h)
 ·unfold qa at h
  refine uz ?_
  refine kr [1000000] ?_
  obtain ⟨x34, hx, h⟩ := bind_some h
  refine qb (AC.g9 (zu _ _ hx) [0] [0]) ?_
  refine kr [1000000] ?_
  obtain ⟨x35, hx, h⟩ := bind_some h
  refine qt (qkh _ _ hx) ?_
  refine kr [1000000] ?_
  refine qg (fun hb => ?_) (fun hb => ?_)
  ·replace h := qw hb h
   refine kr [1000000] ?_
   obtain ⟨x36, hx, h⟩ := bind_some h
   refine qb (ACalls.ghost (e := 26) (AC.g9 (ko _ _ _ hx) [0, 3] [0, 3])) ?_
   refine kr [1000000] ?_
   obtain ⟨x37, hx, h⟩ := bind_some h
   refine qb (AC.g9 (Yn _ _ _ _ _ _ hx) [4, 3] [5, 4]) ?_
   refine kr [1000000] ?_
   obtain ⟨x38, hx, h⟩ := bind_some h
   rcases x38 with ee | x38
   ·replace h : some (.error ee) = some r := h
    cases h
    exact ze (FC.go (qu _ _ _ hx) [0] [0] rfl rfl rfl rfl rfl rfl)
   refine qb (AC.g9 (qu _ _ _ hx) [0] [0]) ?_
   refine kr [1000000] ?_
   obtain ⟨x39, hx, h⟩ := bind_some h
   refine qb (AC.g9 (Yn _ _ _ _ _ _ hx) [4, 3] [5, 6]) ?_
   refine kr [1000000] ?_
   refine qg (fun hb => ?_) (fun hb => ?_)
   ·replace h := qw hb h
    refine kr [1000000] ?_
    refine Jw 2 3 3 qk rfl rfl rfl rfl rfl rfl ?_
    exact qz (by kernel_rfl) rfl lQ (Z7 _ _ _ h)
   ·replace h := qx hb h
    refine kr [1000000] ?_
    refine qix 2 3 3 qk rfl rfl rfl rfl rfl ?_
    exact wa (by kernel_rfl) lQ (w7 _ _ _ _ h)
  ·replace h := qx hb h
   refine kr [1000000] ?_
   exact qz (by kernel_rfl) rfl lQ (Z7 _ _ _ h)
 ·unfold qa at h
  refine Z3 (T := tt) (N := 33) (rs := [.cell 2 26]) (fun vs w => by simp) Tryz.func65 rfl rfl rfl (by kernel_rfl) (by kernel_rfl) (zm rfl rfl jk) (qj zd) (fun r => (zo rfl jq)) (fun r => (qj zd)) (fun _ => rfl) (fun _ => rfl) rfl (fun _ => rfl) ?_
  refine kr [3000023] ?_
  obtain ⟨x3, hx, h⟩ := bind_some h
  refine qb (AC.g9 (zi _ _ _ hx) [0] [0]) ?_
  refine kr [3000023] ?_
  refine q8 (fun hb => ?_) (fun hb => ?_)
  ·replace h := qx hb h
   refine kr [3000023] ?_
   obtain ⟨x4, hx, h⟩ := bind_some h
   refine qb (AC.g9 (zi _ _ _ hx) [0] [0]) ?_
   refine kr [3000023] ?_
   refine qg (fun hb => ?_) (fun hb => ?_)
   ·replace h := qw hb h
    refine kr [3000023] ?_
    obtain ⟨x5, hx, h⟩ := bind_some h
    refine qb (ACalls.ghost (e := 26) (AC.g9 (ko _ _ _ hx) [0, 2] [0, 2])) ?_
    refine kr [3000023] ?_
    obtain ⟨x6, hx, h⟩ := bind_some h
    rcases x6 with ee | x6
    ·replace h : some (.error ee) = some r := h
     cases h
     exact ze (FC.go (yn _ _ hx) [0] [0] rfl rfl rfl rfl rfl rfl)
    refine qb (AC.g9 (yn _ _ hx) [0] [0]) ?_
    refine kr [3000023] ?_
    obtain ⟨x7, hx, h⟩ := bind_some h
    refine qb (AC.g9 (Yn _ _ _ _ _ _ hx) [3, 2] [4, 3]) ?_
    refine kr [3000023] ?_
    cases h
    exact jw env rfl rfl (tS [some 0] (sV (lS (lS lN)) qy) (j3 (ym (qh (qf (zw rfl) rfl) (qh (qf (jr rfl) rfl) (qh (qf (y5 (.inl rfl)) rfl) (qh (qf (jz qk rfl) rfl) yl))))) (by simp)))
   ·replace h := qx hb h
    refine kr [3000023] ?_
    obtain ⟨x8, hx, h⟩ := bind_some h
    rcases x8 with ee | x8
    ·replace h : some (.error ee) = some r := h
     cases h
     exact ze (FC.go (Ql _ _ hx) [0] [0] rfl rfl rfl rfl rfl rfl)
    refine qb (AC.g9 (Ql _ _ hx) [0] [0]) ?_
    refine kr [3000023] ?_
    exact wq (by kernel_rfl) lQ (uc _ _ _ h)
  ·replace h := qw hb h
   refine kr [3000023] ?_
   obtain ⟨x9, hx, h⟩ := bind_some h
   refine qb (ACalls.ghost (e := 26) (AC.g9 (ko _ _ _ hx) [0, 2] [0, 2])) ?_
   refine kr [3000023] ?_
   obtain ⟨x10, hx, h⟩ := bind_some h
   rcases x10 with ee | x10
   ·replace h : some (.error ee) = some r := h
    cases h
    exact ze (FC.go (yn _ _ hx) [0] [0] rfl rfl rfl rfl rfl rfl)
   refine qb (AC.g9 (yn _ _ hx) [0] [0]) ?_
   refine kr [3000023] ?_
   obtain ⟨x11, hx, h⟩ := bind_some h
   refine qb (AC.g9 (Yn _ _ _ _ _ _ hx) [3, 2] [4, 3]) ?_
   refine kr [3000023] ?_
   cases h
   exact jw env rfl rfl (tS [some 0] (sV (lS (lS lN)) qy) (j3 (ym (qh (qf (zw rfl) rfl) (qh (qf (jr rfl) rfl) (qh (qf (y5 (.inl rfl)) rfl) (qh (qf (jz qk rfl) rfl) yl))))) (by simp)))
 ·unfold qa at h
  refine uz ?_
  refine kr [3000023] ?_
  obtain ⟨x40, hx, h⟩ := bind_some h
  refine qb (AC.g9 (zi _ _ _ hx) [0] [0]) ?_
  refine kr [3000023] ?_
  refine qg (fun hb => ?_) (fun hb => ?_)
  ·replace h := qw hb h
   refine kr [3000023] ?_
   refine qy1 (l := [o2]) (C := Node.cells) env rfl rfl rfl rfl rfl rfl (by simp only [List.map_cons, List.map_nil, Node.cells_eq]; rfl) (by simp only [List.map_cons, List.map_nil, Node.cells_eq]; rfl) rfl ?_
   refine kr [3000023] ?_
   obtain ⟨x41, hx, h⟩ := bind_some h
   rcases x41 with ee | x41
   ·replace h : some (.error ee) = some r := h
    cases h
    exact ze (FCalls.ghost (e := 9) (FCalls.wkg (FC.go (objs := [(0, .var 77 (Reader.cells o0)), (1, .var 26 [(.int .i64 0), (.str ⟨#[]⟩), (.sl 0 true []), (.sl 0 true [])]), (2, .var 26 (zp o2)), (3, .row 26 (([o2] : LN).map Node.cells).flatten), (4, .var 26 [(.int .i64 (21 : Int)), (.str ⟨#[]⟩), (.bs 1 5 5 0 ([] : LB).length), (.bs 4 3 3 0 ([o2] : LN).length)]), (5, .row 9 (([] : LB).map sc).flatten)]) (xs := [(.ptr 0 0 0), (.ptr 4 4 0), (.str (⟨#[46]⟩ : BA))]) (qc _ _ _ _ _ _ _ hx) [0, 4, 5, 3] [0, 4, 5, 3] rfl rfl rfl rfl rfl rfl) (qi (qn _) (qi (qn _) (qi (qn _) z6))) (qe (qe (qe (qe (jb (qd (ql _) (qd (ql _) (qd (zg rfl) (qd (ql _) js)))) (zt _))))))))
   refine qb (ACalls.ghost (e := 9) (ACalls.wkg (AC.go (objs := [(0, .var 77 (Reader.cells o0)), (1, .var 26 [(.int .i64 0), (.str ⟨#[]⟩), (.sl 0 true []), (.sl 0 true [])]), (2, .var 26 (zp o2)), (3, .row 26 (([o2] : LN).map Node.cells).flatten), (4, .var 26 [(.int .i64 (21 : Int)), (.str ⟨#[]⟩), (.bs 1 5 5 0 ([] : LB).length), (.bs 4 3 3 0 ([o2] : LN).length)]), (5, .row 9 (([] : LB).map sc).flatten)]) (xs := [(.ptr 0 0 0), (.ptr 4 4 0), (.str (⟨#[46]⟩ : BA))]) (qc _ _ _ _ _ _ _ hx) [0, 4, 5, 3] [0, 4, 5, 3] rfl rfl rfl rfl rfl rfl rfl rfl rfl) (qi (qn _) (qi (qn _) (qi (qn _) z6))) (qe (qe (qe (qe (jb (qd (ql _) (qd (ql _) (qd (zg rfl) (qd (ql _) js)))) (zt _)))))))) ?_
   refine kr [3000023] ?_
   obtain ⟨x42, hx, h⟩ := bind_some h
   rcases x42 with ee | x42
   ·replace h : some (.error ee) = some r := h
    cases h
    exact ze (FC.go (zl _ _ _ _ _ _ hx) [0, 4, 5, 3] [0, 4, 6, 3] rfl rfl rfl rfl rfl rfl)
   refine qb (AC.g9 (zl _ _ _ _ _ _ hx) [0, 4, 5, 3] [0, 4, 6, 3]) ?_
   refine kr [3000023] ?_
   obtain ⟨x43, hx, h⟩ := bind_some h
   rcases x43 with ee | x43
   ·replace h : some (.error ee) = some r := h
    cases h
    exact ze (FC.go (y0 _ _ _ _ _ _ hx) [0, 4, 5, 3] [0, 4, 7, 3] rfl rfl rfl rfl rfl rfl)
   refine qb (AC.g9 (y0 _ _ _ _ _ _ hx) [0, 4, 5, 3] [0, 4, 7, 3]) ?_
   refine kr [3000023] ?_
   refine qix 2 2 5 zr rfl rfl rfl rfl rfl ?_
   refine qix 2 3 3 qk rfl rfl rfl rfl rfl ?_
   exact wa (by kernel_rfl) lQ (uc _ _ _ h)
  ·replace h := qx hb h
   refine kr [3000023] ?_
   cases h
   exact jw env rfl rfl (tS [some 0] (sV (lS (lS lN)) qy) (j3 (ym (qh (qf (zw rfl) rfl) (qh (qf (jr rfl) rfl) (qh (qf (y5 (.inl rfl)) rfl) (qh (qf (y5 (.inl rfl)) rfl) yl))))) (by simp)))
 ·unfold qa at h
  refine Z3 (T := tt) (N := 23) (rs := []) (fun vs w => by simp) Tryz.func106 rfl rfl rfl (by kernel_rfl) (by kernel_rfl) (zm rfl rfl (zm rfl rfl (jj zr rfl (jj qk rfl jk)))) (qj (qj (zb zr (zb qk zd)))) (fun r => (zo rfl (zo rfl (jp zr (jp qk jq))))) (fun r => (qj (qj (zb zr (zb qk zd))))) (fun _ => rfl) (fun _ => rfl) rfl (fun _ => rfl) ?_
  refine kr [12] ?_
  obtain ⟨x33, hx, h⟩ := bind_some h
  rcases x33 with ee | x33
  ·replace h : some (.error ee) = some r := h
   cases h
   exact ze (FC.go (qc _ _ _ _ _ _ _ hx) [0, 1, 2, 3] [0, 1, 2, 3] rfl rfl rfl rfl rfl rfl)
  refine qb (AC.g9 (qc _ _ _ _ _ _ _ hx) [0, 1, 2, 3] [0, 1, 2, 3]) ?_
  refine kr [12] ?_
  exact wq (by kernel_rfl) lQ (wd _ _ _ _ _ _ _ h)
 ·unfold qa at h
  refine uz ?_
  refine kr [12] ?_
  obtain ⟨x44, hx, h⟩ := bind_some h
  refine qb (AC.g9 (zi _ _ _ hx) [0] [0]) ?_
  refine kr [12] ?_
  refine qg (fun hb => ?_) (fun hb => ?_)
  ·replace h := qw hb h
   refine kr [12] ?_
   refine qg (fun hb => ?_) (fun hb => ?_)
   ·replace h := qw hb h
    refine kr [12] ?_
    obtain ⟨x45, hx, h⟩ := bind_some h
    rcases x45 with ee | x45
    ·replace h : some (.error ee) = some r := h
     cases h
     exact ze (FC.go (qc _ _ _ _ _ _ _ hx) [0, 1, 2, 3] [0, 1, 5, 6] rfl rfl rfl rfl rfl rfl)
    refine qb (AC.g9 (qc _ _ _ _ _ _ _ hx) [0, 1, 2, 3] [0, 1, 5, 6]) ?_
    refine kr [12] ?_
    exact qz (by kernel_rfl) rfl lQ (uq _ _ _ _ _ _ h)
   ·replace h := qx hb h
    refine kr [12] ?_
    exact qz (by kernel_rfl) rfl lQ (uq _ _ _ _ _ _ h)
  ·replace h := qx hb h
   refine kr [12] ?_
   obtain ⟨x46, hx, h⟩ := bind_some h
   rcases x46 with ee | x46
   ·replace h : some (.error ee) = some r := h
    cases h
    exact ze (FC.go (qc _ _ _ _ _ _ _ hx) [0, 1, 2, 3] [0, 1, 5, 6] rfl rfl rfl rfl rfl rfl)
   refine qb (AC.g9 (qc _ _ _ _ _ _ _ hx) [0, 1, 2, 3] [0, 1, 5, 6]) ?_
   refine kr [12] ?_
   cases h
   exact je env rfl (tS [some 0, some 1, some 2, some 3] (sV (lS (lS lN)) (sV (lS (lS (lS (lS lN)))) (sR zr (sR qk qy)))) (ju jc))
 ·unfold qa at h
  refine kr [12] ?_
  obtain ⟨x47, hx, h⟩ := bind_some h
  rcases x47 with ee | x47
  ·replace h : some (.error ee) = some r := h
   cases h
   exact ze (FC.go (qu _ _ _ hx) [0] [0] rfl rfl rfl rfl rfl rfl)
  refine qb (AC.g9 (qu _ _ _ hx) [0] [0]) ?_
  refine kr [12] ?_
  obtain ⟨x48, hx, h⟩ := bind_some h
  refine qb (AC.g9 (zy _ _ _ _ _ _ hx) [1, 2, 3] [1, 8, 9]) ?_
  refine kr [12] ?_
  exact wa (by kernel_rfl) lQ (wd _ _ _ _ _ _ _ h)
 ·unfold qa at h
  refine Z3 (T := tt) (N := 61) (rs := [.cell 2 26]) (fun vs w => by simp) Tryz.func105 rfl rfl rfl (by kernel_rfl) (by kernel_rfl) (zm rfl rfl jk) (qj zd) (fun r => (zo rfl jq)) (fun r => (qj zd)) (fun _ => rfl) (fun _ => rfl) rfl (fun _ => rfl) ?_
  refine kr [56] ?_
  obtain ⟨x12, hx, h⟩ := bind_some h
  refine qb (AC.g9 (zu _ _ hx) [0] [0]) ?_
  refine kr [56] ?_
  refine qg (fun hb => ?_) (fun hb => ?_)
  ·replace h := qw hb h
   refine kr [56] ?_
   obtain ⟨x13, hx, h⟩ := bind_some h
   refine qb (ACalls.ghost (e := 26) (AC.g9 (ko _ _ _ hx) [0, 3] [0, 3])) ?_
   refine kr [56] ?_
   cases h
   exact jw env rfl rfl (tS [some 0] (sV (lS (lS lN)) qy) (j3 (ym (qh (qf (zw rfl) rfl) (qh (qf (jr rfl) rfl) (qh (qf (y5 (.inl rfl)) rfl) (qh (qf (jz qk rfl) rfl) yl))))) (by simp)))
  ·replace h := qx hb h
   refine kr [56] ?_
   obtain ⟨x14, hx, h⟩ := bind_some h
   refine qb (AC.g9 (zi _ _ _ hx) [0] [0]) ?_
   refine kr [56] ?_
   refine qg (fun hb => ?_) (fun hb => ?_)
   ·replace h := qw hb h
    refine kr [56] ?_
    obtain ⟨x15, hx, h⟩ := bind_some h
    refine qb (ACalls.ghost (e := 26) (AC.g9 (ko _ _ _ hx) [0, 3] [0, 3])) ?_
    refine kr [56] ?_
    cases h
    exact jw env rfl rfl (tS [some 0] (sV (lS (lS lN)) qy) (j3 (ym (qh (qf (zw rfl) rfl) (qh (qf (jr rfl) rfl) (qh (qf (y5 (.inl rfl)) rfl) (qh (qf (jz qk rfl) rfl) yl))))) (by simp)))
   ·replace h := qx hb h
    refine kr [56] ?_
    obtain ⟨x16, hx, h⟩ := bind_some h
    refine qb (AC.g9 (zi _ _ _ hx) [0] [0]) ?_
    refine kr [56] ?_
    refine qg (fun hb => ?_) (fun hb => ?_)
    ·replace h := qw hb h
     refine kr [56] ?_
     obtain ⟨x17, hx, h⟩ := bind_some h
     refine qb (ACalls.ghost (e := 26) (AC.g9 (ko _ _ _ hx) [0, 3] [0, 3])) ?_
     refine kr [56] ?_
     cases h
     exact jw env rfl rfl (tS [some 0] (sV (lS (lS lN)) qy) (j3 (ym (qh (qf (zw rfl) rfl) (qh (qf (jr rfl) rfl) (qh (qf (y5 (.inl rfl)) rfl) (qh (qf (jz qk rfl) rfl) yl))))) (by simp)))
    ·replace h := qx hb h
     refine kr [56] ?_
     obtain ⟨x18, hx, h⟩ := bind_some h
     refine qb (AC.g9 (zi _ _ _ hx) [0] [0]) ?_
     refine kr [56] ?_
     refine qg (fun hb => ?_) (fun hb => ?_)
     ·replace h := qw hb h
      refine kr [56] ?_
      obtain ⟨x19, hx, h⟩ := bind_some h
      refine qb (ACalls.ghost (e := 26) (AC.g9 (ko _ _ _ hx) [0, 3] [0, 3])) ?_
      refine kr [56] ?_
      cases h
      exact jw env rfl rfl (tS [some 0] (sV (lS (lS lN)) qy) (j3 (ym (qh (qf (zw rfl) rfl) (qh (qf (jr rfl) rfl) (qh (qf (y5 (.inl rfl)) rfl) (qh (qf (jz qk rfl) rfl) yl))))) (by simp)))
     ·replace h := qx hb h
      refine kr [56] ?_
      obtain ⟨x20, hx, h⟩ := bind_some h
      refine qb (AC.g9 (zi _ _ _ hx) [0] [0]) ?_
      refine kr [56] ?_
      refine qg (fun hb => ?_) (fun hb => ?_)
      ·replace h := qw hb h
       refine kr [56] ?_
       obtain ⟨x21, hx, h⟩ := bind_some h
       rcases x21 with ee | x21
       ·replace h : some (.error ee) = some r := h
        cases h
        exact ze (FCalls.ghost (e := 9) (FCalls.ghost (e := 26) (FCalls.wkg (FC.go (objs := [(0, .var 77 (Reader.cells a0)), (1, .var 26 [(.int .i64 0), (.str ⟨#[]⟩), (.sl 0 true []), (.sl 0 true [])]), (2, .var 49 (Token.cells x12)), (3, .var 26 [(.int .i64 (22 : Int)), (.str ⟨#[]⟩), (.bs 1 4 4 0 ([] : LB).length), (.bs 4 5 5 0 ([] : LN).length)]), (4, .row 9 (([] : LB).map sc).flatten), (5, .row 26 (([] : LN).map Node.cells).flatten)]) (xs := [(.ptr 0 0 0), (.ptr 3 3 0), (.str (⟨#[110, 101, 119]⟩ : BA))]) (qc _ _ _ _ _ _ _ hx) [0, 3, 4, 5] [0, 3, 4, 5] rfl rfl rfl rfl rfl rfl) (qi (qn _) (qi (qn _) (qi (qn _) z6))) (qe (qe (qe (jb (qd (ql _) (qd (ql _) (qd (zg rfl) (qd (zg rfl) js)))) (zt _))))))))
       refine qb (ACalls.ghost (e := 9) (ACalls.ghost (e := 26) (ACalls.wkg (AC.go (objs := [(0, .var 77 (Reader.cells a0)), (1, .var 26 [(.int .i64 0), (.str ⟨#[]⟩), (.sl 0 true []), (.sl 0 true [])]), (2, .var 49 (Token.cells x12)), (3, .var 26 [(.int .i64 (22 : Int)), (.str ⟨#[]⟩), (.bs 1 4 4 0 ([] : LB).length), (.bs 4 5 5 0 ([] : LN).length)]), (4, .row 9 (([] : LB).map sc).flatten), (5, .row 26 (([] : LN).map Node.cells).flatten)]) (xs := [(.ptr 0 0 0), (.ptr 3 3 0), (.str (⟨#[110, 101, 119]⟩ : BA))]) (qc _ _ _ _ _ _ _ hx) [0, 3, 4, 5] [0, 3, 4, 5] rfl rfl rfl rfl rfl rfl rfl rfl rfl) (qi (qn _) (qi (qn _) (qi (qn _) z6))) (qe (qe (qe (jb (qd (ql _) (qd (ql _) (qd (zg rfl) (qd (zg rfl) js)))) (zt _)))))))) ?_
       refine kr [56] ?_
       obtain ⟨x22, hx, h⟩ := bind_some h
       rcases x22 with ee | x22
       ·replace h : some (.error ee) = some r := h
        cases h
        exact ze (FC.go (zl _ _ _ _ _ _ hx) [0, 3, 4, 5] [0, 3, 6, 5] rfl rfl rfl rfl rfl rfl)
       refine qb (AC.g9 (zl _ _ _ _ _ _ hx) [0, 3, 4, 5] [0, 3, 6, 5]) ?_
       refine kr [56] ?_
       obtain ⟨x23, hx, h⟩ := bind_some h
       rcases x23 with ee | x23
       ·replace h : some (.error ee) = some r := h
        cases h
        exact ze (FC.go (qc _ _ _ _ _ _ _ hx) [0, 3, 4, 5] [0, 3, 7, 5] rfl rfl rfl rfl rfl rfl)
       refine qb (AC.g9 (qc _ _ _ _ _ _ _ hx) [0, 3, 4, 5] [0, 3, 7, 5]) ?_
       refine kr [56] ?_
       obtain ⟨x24, hx, h⟩ := bind_some h
       rcases x24 with ee | x24
       ·replace h : some (.error ee) = some r := h
        cases h
        exact ze (FC.go (qc _ _ _ _ _ _ _ hx) [0, 3, 4, 5] [0, 3, 8, 5] rfl rfl rfl rfl rfl rfl)
       refine qb (AC.g9 (qc _ _ _ _ _ _ _ hx) [0, 3, 4, 5] [0, 3, 8, 5]) ?_
       refine kr [56] ?_
       cases h
       exact jw env rfl rfl (tS [some 0] (sV (lS (lS lN)) qy) (j3 (ym (qh (qf (zw rfl) rfl) (qh (qf (jr rfl) rfl) (qh (qf (jz zr rfl) rfl) (qh (qf (jz qk rfl) rfl) yl))))) (by simp)))
      ·replace h := qx hb h
       refine kr [56] ?_
       obtain ⟨x25, hx, h⟩ := bind_some h
       refine qb (AC.g9 (zi _ _ _ hx) [0] [0]) ?_
       refine kr [56] ?_
       refine qg (fun hb => ?_) (fun hb => ?_)
       ·replace h := qw hb h
        refine kr [56] ?_
        obtain ⟨x26, hx, h⟩ := bind_some h
        rcases x26 with ee | x26
        ·replace h : some (.error ee) = some r := h
         cases h
         exact ze (FCalls.ghost (e := 9) (FCalls.ghost (e := 26) (FCalls.wkg (FC.go (objs := [(0, .var 77 (Reader.cells a0)), (1, .var 26 [(.int .i64 0), (.str ⟨#[]⟩), (.sl 0 true []), (.sl 0 true [])]), (2, .var 49 (Token.cells x12)), (3, .var 26 [(.int .i64 (26 : Int)), (.str ⟨#[]⟩), (.bs 1 4 4 0 ([] : LB).length), (.bs 4 5 5 0 ([] : LN).length)]), (4, .row 9 (([] : LB).map sc).flatten), (5, .row 26 (([] : LN).map Node.cells).flatten)]) (xs := [(.ptr 0 0 0), (.ptr 3 3 0), (.str (⟨#[40]⟩ : BA))]) (qc _ _ _ _ _ _ _ hx) [0, 3, 4, 5] [0, 3, 4, 5] rfl rfl rfl rfl rfl rfl) (qi (qn _) (qi (qn _) (qi (qn _) z6))) (qe (qe (qe (jb (qd (ql _) (qd (ql _) (qd (zg rfl) (qd (zg rfl) js)))) (zt _))))))))
        refine qb (ACalls.ghost (e := 9) (ACalls.ghost (e := 26) (ACalls.wkg (AC.go (objs := [(0, .var 77 (Reader.cells a0)), (1, .var 26 [(.int .i64 0), (.str ⟨#[]⟩), (.sl 0 true []), (.sl 0 true [])]), (2, .var 49 (Token.cells x12)), (3, .var 26 [(.int .i64 (26 : Int)), (.str ⟨#[]⟩), (.bs 1 4 4 0 ([] : LB).length), (.bs 4 5 5 0 ([] : LN).length)]), (4, .row 9 (([] : LB).map sc).flatten), (5, .row 26 (([] : LN).map Node.cells).flatten)]) (xs := [(.ptr 0 0 0), (.ptr 3 3 0), (.str (⟨#[40]⟩ : BA))]) (qc _ _ _ _ _ _ _ hx) [0, 3, 4, 5] [0, 3, 4, 5] rfl rfl rfl rfl rfl rfl rfl rfl rfl) (qi (qn _) (qi (qn _) (qi (qn _) z6))) (qe (qe (qe (jb (qd (ql _) (qd (ql _) (qd (zg rfl) (qd (zg rfl) js)))) (zt _)))))))) ?_
        refine kr [56] ?_
        obtain ⟨x27, hx, h⟩ := bind_some h
        rcases x27 with ee | x27
        ·replace h : some (.error ee) = some r := h
         cases h
         exact ze (FC.go (qu _ _ _ hx) [0] [0] rfl rfl rfl rfl rfl rfl)
        refine qb (AC.g9 (qu _ _ _ hx) [0] [0]) ?_
        refine kr [56] ?_
        obtain ⟨x28, hx, h⟩ := bind_some h
        refine qb (AC.g9 (zy _ _ _ _ _ _ hx) [3, 4, 5] [3, 6, 5]) ?_
        refine kr [56] ?_
        obtain ⟨x29, hx, h⟩ := bind_some h
        rcases x29 with ee | x29
        ·replace h : some (.error ee) = some r := h
         cases h
         exact ze (FC.go (qc _ _ _ _ _ _ _ hx) [0, 3, 4, 5] [0, 3, 6, 7] rfl rfl rfl rfl rfl rfl)
        refine qb (AC.g9 (qc _ _ _ _ _ _ _ hx) [0, 3, 4, 5] [0, 3, 6, 7]) ?_
        refine kr [56] ?_
        cases h
        exact jw env rfl rfl (tS [some 0] (sV (lS (lS lN)) qy) (j3 (ym (qh (qf (zw rfl) rfl) (qh (qf (jr rfl) rfl) (qh (qf (jz zr rfl) rfl) (qh (qf (jz qk rfl) rfl) yl))))) (by simp)))
       ·replace h := qx hb h
        refine kr [56] ?_
        obtain ⟨x30, hx, h⟩ := bind_some h
        rcases x30 with ee | x30
        ·replace h : some (.error ee) = some r := h
         cases h
         exact ze (FCalls.ghost (e := 9) (FCalls.ghost (e := 26) (FCalls.wkg (FC.go (objs := [(0, .var 77 (Reader.cells a0)), (1, .var 26 [(.int .i64 0), (.str ⟨#[]⟩), (.sl 0 true []), (.sl 0 true [])]), (2, .var 49 (Token.cells x12)), (3, .var 26 [(.int .i64 (19 : Int)), (.str ⟨#[]⟩), (.bs 1 4 4 0 ([] : LB).length), (.bs 4 5 5 0 ([] : LN).length)]), (4, .row 9 (([] : LB).map sc).flatten), (5, .row 26 (([] : LN).map Node.cells).flatten)]) (xs := [(.ptr 0 0 0), (.ptr 3 3 0)]) (zl _ _ _ _ _ _ hx) [0, 3, 4, 5] [0, 3, 4, 5] rfl rfl rfl rfl rfl rfl) (qi (qn _) (qi (qn _) z6)) (qe (qe (qe (jb (qd (ql _) (qd (ql _) (qd (zg rfl) (qd (zg rfl) js)))) (zt _))))))))
        refine qb (ACalls.ghost (e := 9) (ACalls.ghost (e := 26) (ACalls.wkg (AC.go (objs := [(0, .var 77 (Reader.cells a0)), (1, .var 26 [(.int .i64 0), (.str ⟨#[]⟩), (.sl 0 true []), (.sl 0 true [])]), (2, .var 49 (Token.cells x12)), (3, .var 26 [(.int .i64 (19 : Int)), (.str ⟨#[]⟩), (.bs 1 4 4 0 ([] : LB).length), (.bs 4 5 5 0 ([] : LN).length)]), (4, .row 9 (([] : LB).map sc).flatten), (5, .row 26 (([] : LN).map Node.cells).flatten)]) (xs := [(.ptr 0 0 0), (.ptr 3 3 0)]) (zl _ _ _ _ _ _ hx) [0, 3, 4, 5] [0, 3, 4, 5] rfl rfl rfl rfl rfl rfl rfl rfl rfl) (qi (qn _) (qi (qn _) z6)) (qe (qe (qe (jb (qd (ql _) (qd (ql _) (qd (zg rfl) (qd (zg rfl) js)))) (zt _)))))))) ?_
        refine kr [56] ?_
        obtain ⟨x31, hx, h⟩ := bind_some h
        refine qb (AC.g9 (zi _ _ _ hx) [0] [0]) ?_
        refine kr [56] ?_
        refine qg (fun hb => ?_) (fun hb => ?_)
        ·replace h := qw hb h
         refine kr [56] ?_
         obtain ⟨x32, hx, h⟩ := bind_some h
         rcases x32 with ee | x32
         ·replace h : some (.error ee) = some r := h
          cases h
          exact ze (FC.go (y0 _ _ _ _ _ _ hx) [0, 3, 4, 5] [0, 3, 6, 5] rfl rfl rfl rfl rfl rfl)
         refine qb (AC.g9 (y0 _ _ _ _ _ _ hx) [0, 3, 4, 5] [0, 3, 6, 5]) ?_
         refine kr [56] ?_
         exact qz (by kernel_rfl) rfl lQ (Zk _ _ _ _ _ _ h)
        ·replace h := qx hb h
         refine kr [56] ?_
         exact qz (by kernel_rfl) rfl lQ (Zk _ _ _ _ _ _ h)
theorem qu : PC2 Qw q7 := j8.1
theorem w7 : PC3 vr jy := j8.2.1
theorem yn : PC1 Q7 yd := j8.2.2.1
theorem uc : PC2 vv jo := j8.2.2.2.1
theorem y0 : PC5 vt jh := j8.2.2.2.2.1
theorem wd : PC6 u3 jf := j8.2.2.2.2.2.1
theorem uq : PC5 um ya := j8.2.2.2.2.2.2.1
theorem Ql : PC1 Qi y7 := j8.2.2.2.2.2.2.2
def wk (a0 : Reader) (a1 : Int) (a2 : BA) : Option (Except Int (Node × Reader)) :=
 qm a0 a1 (⟨#[]⟩) ([] : LB) ([] : LN) a2 >>= fun x1 =>
 match x1 with
 | .error ee => some (.error ee)
 | .ok x1 =>
 z8 x1.1 a1 (⟨#[]⟩) x1.2 ([] : LN) >>= fun x2 =>
 match x2 with
 | .error ee => some (.error ee)
 | .ok x2 =>
 qm x2.1 a1 x2.2.1 x2.2.2 ([] : LN) (⟨#[61]⟩ : BA) >>= fun x3 =>
 match x3 with
 | .error ee => some (.error ee)
 | .ok x3 =>
 q7 x3.1 (1 : Int) >>= fun x4 =>
 match x4 with
 | .error ee => some (.error ee)
 | .ok x4 =>
 zx a1 x2.2.1 x3.2 ([] : LN) x4.1 >>= fun x5 =>
 qm x4.2 a1 x2.2.1 x3.2 x5 (⟨#[59]⟩ : BA) >>= fun x6 =>
 match x6 with
 | .error ee => some (.error ee)
 | .ok x6 =>
 some (.ok ((Node.mk a1 x2.2.1 x6.2 x5), x6.1))
@[reducible] def qbr (a0 : Reader) (a1 : Int) (a2 : BA) (r : Except Int (Node × Reader)) : Prop :=
  exq (fun (r : Node × Reader) => AC Tryz.prog G 56 [(.ptr 0 0 0), (.int .i64 a1), (.str a2)] 1 [(0, .var 77 (Reader.cells a0))] (.agg (zp r.1)) 1 [(0, .var 77 (Reader.cells r.2))]) (fun e => FC Tryz.prog G 56 [(.ptr 0 0 0), (.int .i64 a1), (.str a2)] 1 [(0, .var 77 (Reader.cells a0))] (flt e)) r
theorem vf : PC3 qbr wk := fun a0 a1 a2 r h => by
 rw [wk.eq_def] at h
 refine Z3 (T := tt) (N := 23) (rs := [.cell 6 26]) (fun vs w => by simp) Tryz.func56 rfl rfl rfl (by kernel_rfl) (by kernel_rfl) (zm rfl rfl jk) (qj zd) (fun r => (zo rfl jq)) (fun r => (qj zd)) (fun _ => rfl) (fun _ => rfl) rfl (fun _ => rfl) ?_
 refine kr [] ?_
 obtain ⟨x1, hx, h⟩ := bind_some h
 rcases x1 with ee | x1
 ·replace h : some (.error ee) = some r := h
  cases h
  exact ze (FCalls.ghost (e := 9) (FCalls.ghost (e := 26) (FCalls.wkg (FC.go (objs := [(0, .var 77 (Reader.cells a0)), (1, .var 26 [(.int .i64 0), (.str ⟨#[]⟩), (.sl 0 true []), (.sl 0 true [])]), (2, .var 26 [(.int .i64 a1), (.str ⟨#[]⟩), (.bs 1 3 3 0 ([] : LB).length), (.bs 4 4 4 0 ([] : LN).length)]), (3, .row 9 (([] : LB).map sc).flatten), (4, .row 26 (([] : LN).map Node.cells).flatten)]) (xs := [(.ptr 0 0 0), (.ptr 2 2 0), (.str a2)]) (qc _ _ _ _ _ _ _ hx) [0, 2, 3, 4] [0, 2, 3, 4] rfl rfl rfl rfl rfl rfl) (qi (qn _) (qi (qn _) (qi (qn _) z6))) (qe (qe (jb (qd (ql _) (qd (ql _) (qd (zg rfl) (qd (zg rfl) js)))) (zt _)))))))
 refine qb (ACalls.ghost (e := 9) (ACalls.ghost (e := 26) (ACalls.wkg (AC.go (objs := [(0, .var 77 (Reader.cells a0)), (1, .var 26 [(.int .i64 0), (.str ⟨#[]⟩), (.sl 0 true []), (.sl 0 true [])]), (2, .var 26 [(.int .i64 a1), (.str ⟨#[]⟩), (.bs 1 3 3 0 ([] : LB).length), (.bs 4 4 4 0 ([] : LN).length)]), (3, .row 9 (([] : LB).map sc).flatten), (4, .row 26 (([] : LN).map Node.cells).flatten)]) (xs := [(.ptr 0 0 0), (.ptr 2 2 0), (.str a2)]) (qc _ _ _ _ _ _ _ hx) [0, 2, 3, 4] [0, 2, 3, 4] rfl rfl rfl rfl rfl rfl rfl rfl rfl) (qi (qn _) (qi (qn _) (qi (qn _) z6))) (qe (qe (jb (qd (ql _) (qd (ql _) (qd (zg rfl) (qd (zg rfl) js)))) (zt _))))))) ?_
 refine kr [] ?_
 obtain ⟨x2, hx, h⟩ := bind_some h
 rcases x2 with ee | x2
 ·replace h : some (.error ee) = some r := h
  cases h
  exact ze (FC.go (zl _ _ _ _ _ _ hx) [0, 2, 3, 4] [0, 2, 5, 4] rfl rfl rfl rfl rfl rfl)
 refine qb (AC.g9 (zl _ _ _ _ _ _ hx) [0, 2, 3, 4] [0, 2, 5, 4]) ?_
 refine kr [] ?_
 obtain ⟨x3, hx, h⟩ := bind_some h
 rcases x3 with ee | x3
 ·replace h : some (.error ee) = some r := h
  cases h
  exact ze (FC.go (qc _ _ _ _ _ _ _ hx) [0, 2, 3, 4] [0, 2, 6, 4] rfl rfl rfl rfl rfl rfl)
 refine qb (AC.g9 (qc _ _ _ _ _ _ _ hx) [0, 2, 3, 4] [0, 2, 6, 4]) ?_
 refine kr [] ?_
 obtain ⟨x4, hx, h⟩ := bind_some h
 rcases x4 with ee | x4
 ·replace h : some (.error ee) = some r := h
  cases h
  exact ze (FC.go (qu _ _ _ hx) [0] [0] rfl rfl rfl rfl rfl rfl)
 refine qb (AC.g9 (qu _ _ _ hx) [0] [0]) ?_
 refine kr [] ?_
 obtain ⟨x5, hx, h⟩ := bind_some h
 refine qb (AC.g9 (zy _ _ _ _ _ _ hx) [2, 3, 4] [2, 7, 4]) ?_
 refine kr [] ?_
 obtain ⟨x6, hx, h⟩ := bind_some h
 rcases x6 with ee | x6
 ·replace h : some (.error ee) = some r := h
  cases h
  exact ze (FC.go (qc _ _ _ _ _ _ _ hx) [0, 2, 3, 4] [0, 2, 7, 8] rfl rfl rfl rfl rfl rfl)
 refine qb (AC.g9 (qc _ _ _ _ _ _ _ hx) [0, 2, 3, 4] [0, 2, 7, 8]) ?_
 refine kr [] ?_
 cases h
 exact jw env rfl rfl (tS [some 0] (sV (lS (lS lN)) qy) (j3 (ym (qh (qf (zw rfl) rfl) (qh (qf (jr rfl) rfl) (qh (qf (jz zr rfl) rfl) (qh (qf (jz qk rfl) rfl) yl))))) (by simp)))
def yo (o0 : Reader) (o2_0 : Int) (o2_1 : BA) (o2_2 : LB) (o2_3 : LN) (o5 : Node) : Option (Except Int (Node × Reader)) :=
 zx o2_0 o2_1 o2_2 o2_3 o5 >>= fun x37 =>
 some (.ok ((Node.mk o2_0 o2_1 o2_2 x37), o0))
@[reducible] def Kk (o0 : Reader) (o2_0 : Int) (o2_1 : BA) (o2_2 : LB) (o2_3 : LN) (o5 : Node) (r : Except Int (Node × Reader)) : Prop :=
  Ok Tryz.prog G tt 106 1 (exq (fun (r : Node × Reader) => Ret Tryz.prog [.cell 2 26] (fun y H => ua Tryz.prog G 1 H y (.agg (zp r.1)) ⟨1, [(0, .var 77 (Reader.cells r.2))]⟩)) (fun e => Zl (flt e)) r) (.go [] (vc [41, 87] Tryz.f34 41) [] (.n .undef (.n .undef .z (.n (.ptr 5 8 0) .z .z)) (.n (.ptr 1 1 0) (.n (.ptr 2 2 0) .z .z) .z)) 13 [(0, .var 77 (Reader.cells o0)), (1, .var 26 [(.int .i64 0), (.str ⟨#[]⟩), (.sl 0 true []), (.sl 0 true [])]), (2, .var 26 [(.int .i64 o2_0), (.str o2_1), (.bs 1 3 5 0 o2_2.length), (.bs 4 4 7 0 o2_3.length)]), (5, .row 9 (o2_2.map sc).flatten), (7, .row 26 (o2_3.map Node.cells).flatten), (8, .var 26 (zp o5))])
theorem Q1 : PC6 Kk yo := fun o0 o2_0 o2_1 o2_2 o2_3 o5 r h => by
 rw [yo.eq_def] at h
 refine kr [41, 87] ?_
 obtain ⟨x37, hx, h⟩ := bind_some h
 refine qb (AC.g9 (zy _ _ _ _ _ _ hx) [2, 3, 4] [2, 5, 7]) ?_
 refine kr [41, 87] ?_
 cases h
 exact jw env rfl rfl (tS [some 0] (sV (lS (lS lN)) qy) (j3 (ym (qh (qf (zw rfl) rfl) (qh (qf (jr rfl) rfl) (qh (qf (jz zr rfl) rfl) (qh (qf (jz qk rfl) rfl) yl))))) (by simp)))
def j9 (o0 : Reader) : Option (Except Int (Node × Reader)) :=
 q7 o0 (1 : Int) >>= fun x38 =>
 match x38 with
 | .error ee => some (.error ee)
 | .ok x38 =>
 zx (16 : Int) (⟨#[]⟩) ([] : LB) ([] : LN) x38.1 >>= fun x39 =>
 qm x38.2 (16 : Int) (⟨#[]⟩) ([] : LB) x39 (⟨#[59]⟩ : BA) >>= fun x40 =>
 match x40 with
 | .error ee => some (.error ee)
 | .ok x40 =>
 some (.ok ((Node.mk (16 : Int) (⟨#[]⟩) x40.2 x39), x40.1))
@[reducible] def Kj (o0 : Reader) (r : Except Int (Node × Reader)) : Prop :=
  Ok Tryz.prog G tt 106 1 (exq (fun (r : Node × Reader) => Ret Tryz.prog [.cell 2 26] (fun y H => ua Tryz.prog G 1 H y (.agg (zp r.1)) ⟨1, [(0, .var 77 (Reader.cells r.2))]⟩)) (fun e => Zl (flt e)) r) (.go [] (vc [41, 87] Tryz.f34 87) [] (.n (.ptr 0 0 0) .z (.n (.ptr 1 1 0) .z .z)) 3 [(0, .var 77 (Reader.cells o0)), (1, .var 26 [(.int .i64 0), (.str ⟨#[]⟩), (.sl 0 true []), (.sl 0 true [])])])
theorem uo : PC1 Kj j9 := fun o0 r h => by
 rw [j9.eq_def] at h
 refine kr [41, 87] ?_
 obtain ⟨x38, hx, h⟩ := bind_some h
 rcases x38 with ee | x38
 ·replace h : some (.error ee) = some r := h
  cases h
  exact ze (FC.go (qu _ _ _ hx) [0] [0] rfl rfl rfl rfl rfl rfl)
 refine qb (AC.g9 (qu _ _ _ hx) [0] [0]) ?_
 refine kr [41, 87] ?_
 obtain ⟨x39, hx, h⟩ := bind_some h
 refine qb (ACalls.ghost (e := 9) (ACalls.ghost (e := 26) (ACalls.wkg (AC.go (objs := [(0, .var 77 (Reader.cells x38.2)), (1, .var 26 [(.int .i64 0), (.str ⟨#[]⟩), (.sl 0 true []), (.sl 0 true [])]), (3, .var 26 [(.int .i64 (16 : Int)), (.str ⟨#[]⟩), (.bs 1 3 4 0 ([] : LB).length), (.bs 4 4 5 0 ([] : LN).length)]), (4, .row 9 (([] : LB).map sc).flatten), (5, .row 26 (([] : LN).map Node.cells).flatten)]) (xs := [(.ptr 2 3 0), (.agg (zp x38.1))]) (zy _ _ _ _ _ _ hx) [2, 3, 4] [3, 4, 5] rfl rfl rfl rfl rfl rfl rfl rfl rfl) (qi (qn _) (qi (qn _) z6)) (qe (qe (jb (qd (ql _) (qd (ql _) (qd (zg rfl) (qd (zg rfl) js)))) (zt _))))))) ?_
 refine kr [41, 87] ?_
 obtain ⟨x40, hx, h⟩ := bind_some h
 rcases x40 with ee | x40
 ·replace h : some (.error ee) = some r := h
  cases h
  exact ze (FC.go (qc _ _ _ _ _ _ _ hx) [0, 2, 3, 4] [0, 3, 4, 6] rfl rfl rfl rfl rfl rfl)
 refine qb (AC.g9 (qc _ _ _ _ _ _ _ hx) [0, 2, 3, 4] [0, 3, 4, 6]) ?_
 refine kr [41, 87] ?_
 cases h
 exact jw env rfl rfl (tS [some 0] (sV (lS (lS lN)) qy) (j3 (ym (qh (qf (zw rfl) rfl) (qh (qf (jr rfl) rfl) (qh (qf (jz zr rfl) rfl) (qh (qf (jz qk rfl) rfl) yl))))) (by simp)))
mutual
def jd (a0 : Reader) : Option (Except Int (Node × Reader)) :=
 qm (qa a0) (6 : Int) (⟨#[]⟩) ([] : LB) ([] : LN) (⟨#[123]⟩ : BA) >>= fun x1 =>
 match x1 with
 | .error ee => some (.error ee)
 | .ok x1 =>
 j5 x1.1 (6 : Int) (⟨#[]⟩) x1.2 ([] : LN)
 partial_fixpoint
def jx (a0 : Reader) : Option (Except Int (Node × Reader)) :=
 zf (qa a0) (⟨#[108, 101, 116]⟩ : BA) >>= fun x2 =>
 if x2 = true then
  wk (qa a0) (10 : Int) (⟨#[108, 101, 116]⟩ : BA) >>= fun x3 =>
  match x3 with
  | .error ee => some (.error ee)
  | .ok x3 =>
  some (.ok (x3.1, x3.2))
 else
  zf (qa a0) (⟨#[114, 101, 116, 117, 114, 110]⟩ : BA) >>= fun x4 =>
  if x4 = true then
   qm (qa a0) (12 : Int) (⟨#[]⟩) ([] : LB) ([] : LN) (⟨#[114, 101, 116, 117, 114, 110]⟩ : BA) >>= fun x5 =>
   match x5 with
   | .error ee => some (.error ee)
   | .ok x5 =>
   q7 x5.1 (1 : Int) >>= fun x6 =>
   match x6 with
   | .error ee => some (.error ee)
   | .ok x6 =>
   zx (12 : Int) (⟨#[]⟩) x5.2 ([] : LN) x6.1 >>= fun x7 =>
   qm x6.2 (12 : Int) (⟨#[]⟩) x5.2 (qa x7) (⟨#[59]⟩ : BA) >>= fun x8 =>
   match x8 with
   | .error ee => some (.error ee)
   | .ok x8 =>
   some (.ok ((Node.mk (12 : Int) (⟨#[]⟩) x8.2 x7), x8.1))
  else
   zf (qa a0) (⟨#[105, 102]⟩ : BA) >>= fun x9 =>
   if x9 = true then
    qm (qa a0) (13 : Int) (⟨#[]⟩) ([] : LB) ([] : LN) (⟨#[105, 102]⟩ : BA) >>= fun x10 =>
    match x10 with
    | .error ee => some (.error ee)
    | .ok x10 =>
    q7 x10.1 (1 : Int) >>= fun x11 =>
    match x11 with
    | .error ee => some (.error ee)
    | .ok x11 =>
    zx (13 : Int) (⟨#[]⟩) x10.2 ([] : LN) x11.1 >>= fun x12 =>
    jd x11.2 >>= fun x13 =>
    match x13 with
    | .error ee => some (.error ee)
    | .ok x13 =>
    zx (13 : Int) (⟨#[]⟩) x10.2 (qa x12) x13.1 >>= fun x14 =>
    zf x13.2 (⟨#[101, 108, 115, 101]⟩ : BA) >>= fun x15 =>
    if x15 = true then
     qm x13.2 (14 : Int) (⟨#[]⟩) ([] : LB) ([] : LN) (⟨#[101, 108, 115, 101]⟩ : BA) >>= fun x16 =>
     match x16 with
     | .error ee => some (.error ee)
     | .ok x16 =>
     jd x16.1 >>= fun x17 =>
     match x17 with
     | .error ee => some (.error ee)
     | .ok x17 =>
     zx (14 : Int) (⟨#[]⟩) x16.2 ([] : LN) x17.1 >>= fun x18 =>
     yo x17.2 (13 : Int) (⟨#[]⟩) x10.2 (qa x14) (Node.mk (14 : Int) (⟨#[]⟩) x16.2 x18)
    else
     yo x13.2 (13 : Int) (⟨#[]⟩) x10.2 (qa x14) (Node.mk (14 : Int) (⟨#[]⟩) ([] : LB) ([] : LN))
   else
    zf (qa a0) (⟨#[119, 104, 105, 108, 101]⟩ : BA) >>= fun x19 =>
    if x19 = true then
     qm (qa a0) (15 : Int) (⟨#[]⟩) ([] : LB) ([] : LN) (⟨#[119, 104, 105, 108, 101]⟩ : BA) >>= fun x20 =>
     match x20 with
     | .error ee => some (.error ee)
     | .ok x20 =>
     q7 x20.1 (1 : Int) >>= fun x21 =>
     match x21 with
     | .error ee => some (.error ee)
     | .ok x21 =>
     zx (15 : Int) (⟨#[]⟩) x20.2 ([] : LN) x21.1 >>= fun x22 =>
     jd x21.2 >>= fun x23 =>
     match x23 with
     | .error ee => some (.error ee)
     | .ok x23 =>
     zx (15 : Int) (⟨#[]⟩) x20.2 (qa x22) x23.1 >>= fun x24 =>
     some (.ok ((Node.mk (15 : Int) (⟨#[]⟩) x20.2 x24), x23.2))
    else
     zn (qa a0) >>= fun x25 =>
     if (decide (x25.Kind = (1 : Int))) = true then
      Kq x25.Text >>= fun x26 =>
      if x26 = true then
       ix a0.l_ (IntKind.i64.wrap (a0.at_ + (1 : Int))) >>= fun x27 =>
       if (decide (x27.Text = (⟨#[61]⟩ : BA))) = true then
        z8 (qa a0) (11 : Int) (⟨#[]⟩) ([] : LB) ([] : LN) >>= fun x28 =>
        match x28 with
        | .error ee => some (.error ee)
        | .ok x28 =>
        qm x28.1 (11 : Int) x28.2.1 x28.2.2 ([] : LN) (⟨#[61]⟩ : BA) >>= fun x29 =>
        match x29 with
        | .error ee => some (.error ee)
        | .ok x29 =>
        q7 x29.1 (1 : Int) >>= fun x30 =>
        match x30 with
        | .error ee => some (.error ee)
        | .ok x30 =>
        zx (11 : Int) x28.2.1 x29.2 ([] : LN) x30.1 >>= fun x31 =>
        qm x30.2 (11 : Int) x28.2.1 x29.2 (qa x31) (⟨#[59]⟩ : BA) >>= fun x32 =>
        match x32 with
        | .error ee => some (.error ee)
        | .ok x32 =>
        some (.ok ((Node.mk (11 : Int) x28.2.1 x32.2 x31), x32.1))
       else
        j9 (qa a0)
      else
       j9 (qa a0)
     else
      j9 (qa a0)
 partial_fixpoint
def j5 (o0 : Reader) (o2_0 : Int) (o2_1 : BA) (o2_2 : LB) (o2_3 : LN) : Option (Except Int (Node × Reader)) :=
 zf (qa o0) (⟨#[125]⟩ : BA) >>= fun x33 =>
 if (!x33) = true then
  jx (qa o0) >>= fun x34 =>
  match x34 with
  | .error ee => some (.error ee)
  | .ok x34 =>
  zx (qa o2_0) (qa o2_1) (qa o2_2) (qa o2_3) x34.1 >>= fun x35 =>
  j5 x34.2 (qa o2_0) (qa o2_1) (qa o2_2) (qa x35)
 else
  qm (qa o0) (qa o2_0) (qa o2_1) (qa o2_2) (qa o2_3) (⟨#[125]⟩ : BA) >>= fun x36 =>
  match x36 with
  | .error ee => some (.error ee)
  | .ok x36 =>
  some (.ok ((Node.mk o2_0 o2_1 x36.2 o2_3), x36.1))
 partial_fixpoint
end
@[reducible] def Q8 (a0 : Reader) (r : Except Int (Node × Reader)) : Prop :=
  exq (fun (r : Node × Reader) => AC Tryz.prog G 71 [(.ptr 0 0 0)] 1 [(0, .var 77 (Reader.cells a0))] (.agg (zp r.1)) 1 [(0, .var 77 (Reader.cells r.2))]) (fun e => FC Tryz.prog G 71 [(.ptr 0 0 0)] 1 [(0, .var 77 (Reader.cells a0))] (flt e)) r
@[reducible] def vq (a0 : Reader) (r : Except Int (Node × Reader)) : Prop :=
  exq (fun (r : Node × Reader) => AC Tryz.prog G 34 [(.ptr 0 0 0)] 1 [(0, .var 77 (Reader.cells a0))] (.agg (zp r.1)) 1 [(0, .var 77 (Reader.cells r.2))]) (fun e => FC Tryz.prog G 34 [(.ptr 0 0 0)] 1 [(0, .var 77 (Reader.cells a0))] (flt e)) r
@[reducible] def v7 (o0 : Reader) (o2_0 : Int) (o2_1 : BA) (o2_2 : LB) (o2_3 : LN) (r : Except Int (Node × Reader)) : Prop :=
  Ok Tryz.prog G tt 16 1 (exq (fun (r : Node × Reader) => Ret Tryz.prog [.cell 2 26] (fun y H => ua Tryz.prog G 1 H y (.agg (zp r.1)) ⟨1, [(0, .var 77 (Reader.cells r.2))]⟩)) (fun e => Zl (flt e)) r) (.again (wu [] Tryz.f71 0).1 (wu [] Tryz.f71 0).2 (.n (.ptr 0 0 0) (.n .undef (.n (.ptr 2 2 0) .z .z) .z) (.n (.ptr 1 1 0) .z .z)) 6 [(0, .var 77 (Reader.cells o0)), (1, .var 26 [(.int .i64 0), (.str ⟨#[]⟩), (.sl 0 true []), (.sl 0 true [])]), (2, .var 26 [(.int .i64 o2_0), (.str o2_1), (.bs 1 3 5 0 o2_2.length), (.bs 4 4 4 0 o2_3.length)]), (5, .row 9 (o2_2.map sc).flatten), (4, .row 26 (o2_3.map Node.cells).flatten)])
theorem Qo : PC1 Q8 jd ∧ PC5 v7 j5 ∧ PC1 vq jx := by
 refine jd.mutual_partial_correctness Q8 v7 vq (fun j5 ug a0 r h => ?_) (fun j5 jx ug k7 o0 o2_0 o2_1 o2_2 o2_3 r h => ?_) (fun jd yc a0 r h => ?_)
 ·unfold qa at h
  refine Z3 (T := tt) (N := 16) (rs := [.cell 2 26]) (fun vs w => by simp) Tryz.func71 rfl rfl rfl (by kernel_rfl) (by kernel_rfl) (zm rfl rfl jk) (qj zd) (fun r => (zo rfl jq)) (fun r => (qj zd)) (fun _ => rfl) (fun _ => rfl) rfl (fun _ => rfl) ?_
  refine kr [] ?_
  obtain ⟨x1, hx, h⟩ := bind_some h
  rcases x1 with ee | x1
  ·replace h : some (.error ee) = some r := h
   cases h
   exact ze (FCalls.ghost (e := 9) (FCalls.ghost (e := 26) (FCalls.wkg (FC.go (objs := [(0, .var 77 (Reader.cells a0)), (1, .var 26 [(.int .i64 0), (.str ⟨#[]⟩), (.sl 0 true []), (.sl 0 true [])]), (2, .var 26 [(.int .i64 (6 : Int)), (.str ⟨#[]⟩), (.bs 1 3 3 0 ([] : LB).length), (.bs 4 4 4 0 ([] : LN).length)]), (3, .row 9 (([] : LB).map sc).flatten), (4, .row 26 (([] : LN).map Node.cells).flatten)]) (xs := [(.ptr 0 0 0), (.ptr 2 2 0), (.str (⟨#[123]⟩ : BA))]) (qc _ _ _ _ _ _ _ hx) [0, 2, 3, 4] [0, 2, 3, 4] rfl rfl rfl rfl rfl rfl) (qi (qn _) (qi (qn _) (qi (qn _) z6))) (qe (qe (jb (qd (ql _) (qd (ql _) (qd (zg rfl) (qd (zg rfl) js)))) (zt _)))))))
  refine qb (ACalls.ghost (e := 9) (ACalls.ghost (e := 26) (ACalls.wkg (AC.go (objs := [(0, .var 77 (Reader.cells a0)), (1, .var 26 [(.int .i64 0), (.str ⟨#[]⟩), (.sl 0 true []), (.sl 0 true [])]), (2, .var 26 [(.int .i64 (6 : Int)), (.str ⟨#[]⟩), (.bs 1 3 3 0 ([] : LB).length), (.bs 4 4 4 0 ([] : LN).length)]), (3, .row 9 (([] : LB).map sc).flatten), (4, .row 26 (([] : LN).map Node.cells).flatten)]) (xs := [(.ptr 0 0 0), (.ptr 2 2 0), (.str (⟨#[123]⟩ : BA))]) (qc _ _ _ _ _ _ _ hx) [0, 2, 3, 4] [0, 2, 3, 4] rfl rfl rfl rfl rfl rfl rfl rfl rfl) (qi (qn _) (qi (qn _) (qi (qn _) z6))) (qe (qe (jb (qd (ql _) (qd (ql _) (qd (zg rfl) (qd (zg rfl) js)))) (zt _))))))) ?_
  refine kr [] ?_
  exact wq (by kernel_rfl) lQ (ug _ _ _ _ _ _ h)
 ·unfold qa at h
  refine uz ?_
  refine kr [] ?_
  obtain ⟨x33, hx, h⟩ := bind_some h
  refine qb (AC.g9 (zi _ _ _ hx) [0] [0]) ?_
  refine kr [] ?_
  refine qg (fun hb => ?_) (fun hb => ?_)
  ·replace h := qw hb h
   refine kr [] ?_
   obtain ⟨x34, hx, h⟩ := bind_some h
   rcases x34 with ee | x34
   ·replace h : some (.error ee) = some r := h
    cases h
    exact ze (FC.go (k7 _ _ hx) [0] [0] rfl rfl rfl rfl rfl rfl)
   refine qb (AC.g9 (k7 _ _ hx) [0] [0]) ?_
   refine kr [] ?_
   obtain ⟨x35, hx, h⟩ := bind_some h
   refine qb (AC.g9 (zy _ _ _ _ _ _ hx) [2, 3, 4] [2, 5, 4]) ?_
   refine kr [] ?_
   exact wa (by kernel_rfl) lQ (ug _ _ _ _ _ _ h)
  ·replace h := qx hb h
   refine kr [] ?_
   obtain ⟨x36, hx, h⟩ := bind_some h
   rcases x36 with ee | x36
   ·replace h : some (.error ee) = some r := h
    cases h
    exact ze (FC.go (qc _ _ _ _ _ _ _ hx) [0, 2, 3, 4] [0, 2, 5, 4] rfl rfl rfl rfl rfl rfl)
   refine qb (AC.g9 (qc _ _ _ _ _ _ _ hx) [0, 2, 3, 4] [0, 2, 5, 4]) ?_
   refine kr [] ?_
   cases h
   exact jw env rfl rfl (tS [some 0] (sV (lS (lS lN)) qy) (j3 (ym (qh (qf (zw rfl) rfl) (qh (qf (jr rfl) rfl) (qh (qf (jz zr rfl) rfl) (qh (qf (jz qk rfl) rfl) yl))))) (by simp)))
 ·unfold qa at h
  refine Z3 (T := tt) (N := 106) (rs := [.cell 2 26]) (fun vs w => by simp) Tryz.func34 rfl rfl rfl (by kernel_rfl) (by kernel_rfl) (zm rfl rfl jk) (qj zd) (fun r => (zo rfl jq)) (fun r => (qj zd)) (fun _ => rfl) (fun _ => rfl) rfl (fun _ => rfl) ?_
  refine kr [41, 87] ?_
  obtain ⟨x2, hx, h⟩ := bind_some h
  refine qb (AC.g9 (zi _ _ _ hx) [0] [0]) ?_
  refine kr [41, 87] ?_
  refine qg (fun hb => ?_) (fun hb => ?_)
  ·replace h := qw hb h
   refine kr [41, 87] ?_
   obtain ⟨x3, hx, h⟩ := bind_some h
   rcases x3 with ee | x3
   ·replace h : some (.error ee) = some r := h
    cases h
    exact ze (FC.go (vf _ _ _ _ hx) [0] [0] rfl rfl rfl rfl rfl rfl)
   refine qb (AC.g9 (vf _ _ _ _ hx) [0] [0]) ?_
   refine kr [41, 87] ?_
   cases h
   exact jw env rfl rfl (tS [some 0] (sV (lS (lS lN)) qy) (j3 (ym (qh (qf (zw rfl) rfl) (qh (qf (jr rfl) rfl) (qh (qf (y5 (.inl rfl)) rfl) (qh (qf (y5 (.inl rfl)) rfl) yl))))) (by simp)))
  ·replace h := qx hb h
   refine kr [41, 87] ?_
   obtain ⟨x4, hx, h⟩ := bind_some h
   refine qb (AC.g9 (zi _ _ _ hx) [0] [0]) ?_
   refine kr [41, 87] ?_
   refine qg (fun hb => ?_) (fun hb => ?_)
   ·replace h := qw hb h
    refine kr [41, 87] ?_
    obtain ⟨x5, hx, h⟩ := bind_some h
    rcases x5 with ee | x5
    ·replace h : some (.error ee) = some r := h
     cases h
     exact ze (FCalls.ghost (e := 9) (FCalls.ghost (e := 26) (FCalls.wkg (FC.go (objs := [(0, .var 77 (Reader.cells a0)), (1, .var 26 [(.int .i64 0), (.str ⟨#[]⟩), (.sl 0 true []), (.sl 0 true [])]), (2, .var 26 [(.int .i64 (12 : Int)), (.str ⟨#[]⟩), (.bs 1 3 3 0 ([] : LB).length), (.bs 4 4 4 0 ([] : LN).length)]), (3, .row 9 (([] : LB).map sc).flatten), (4, .row 26 (([] : LN).map Node.cells).flatten)]) (xs := [(.ptr 0 0 0), (.ptr 2 2 0), (.str (⟨#[114, 101, 116, 117, 114, 110]⟩ : BA))]) (qc _ _ _ _ _ _ _ hx) [0, 2, 3, 4] [0, 2, 3, 4] rfl rfl rfl rfl rfl rfl) (qi (qn _) (qi (qn _) (qi (qn _) z6))) (qe (qe (jb (qd (ql _) (qd (ql _) (qd (zg rfl) (qd (zg rfl) js)))) (zt _)))))))
    refine qb (ACalls.ghost (e := 9) (ACalls.ghost (e := 26) (ACalls.wkg (AC.go (objs := [(0, .var 77 (Reader.cells a0)), (1, .var 26 [(.int .i64 0), (.str ⟨#[]⟩), (.sl 0 true []), (.sl 0 true [])]), (2, .var 26 [(.int .i64 (12 : Int)), (.str ⟨#[]⟩), (.bs 1 3 3 0 ([] : LB).length), (.bs 4 4 4 0 ([] : LN).length)]), (3, .row 9 (([] : LB).map sc).flatten), (4, .row 26 (([] : LN).map Node.cells).flatten)]) (xs := [(.ptr 0 0 0), (.ptr 2 2 0), (.str (⟨#[114, 101, 116, 117, 114, 110]⟩ : BA))]) (qc _ _ _ _ _ _ _ hx) [0, 2, 3, 4] [0, 2, 3, 4] rfl rfl rfl rfl rfl rfl rfl rfl rfl) (qi (qn _) (qi (qn _) (qi (qn _) z6))) (qe (qe (jb (qd (ql _) (qd (ql _) (qd (zg rfl) (qd (zg rfl) js)))) (zt _))))))) ?_
    refine kr [41, 87] ?_
    obtain ⟨x6, hx, h⟩ := bind_some h
    rcases x6 with ee | x6
    ·replace h : some (.error ee) = some r := h
     cases h
     exact ze (FC.go (qu _ _ _ hx) [0] [0] rfl rfl rfl rfl rfl rfl)
    refine qb (AC.g9 (qu _ _ _ hx) [0] [0]) ?_
    refine kr [41, 87] ?_
    obtain ⟨x7, hx, h⟩ := bind_some h
    refine qb (AC.g9 (zy _ _ _ _ _ _ hx) [2, 3, 4] [2, 5, 4]) ?_
    refine kr [41, 87] ?_
    obtain ⟨x8, hx, h⟩ := bind_some h
    rcases x8 with ee | x8
    ·replace h : some (.error ee) = some r := h
     cases h
     exact ze (FC.go (qc _ _ _ _ _ _ _ hx) [0, 2, 3, 4] [0, 2, 5, 6] rfl rfl rfl rfl rfl rfl)
    refine qb (AC.g9 (qc _ _ _ _ _ _ _ hx) [0, 2, 3, 4] [0, 2, 5, 6]) ?_
    refine kr [41, 87] ?_
    cases h
    exact jw env rfl rfl (tS [some 0] (sV (lS (lS lN)) qy) (j3 (ym (qh (qf (zw rfl) rfl) (qh (qf (jr rfl) rfl) (qh (qf (jz zr rfl) rfl) (qh (qf (jz qk rfl) rfl) yl))))) (by simp)))
   ·replace h := qx hb h
    refine kr [41, 87] ?_
    obtain ⟨x9, hx, h⟩ := bind_some h
    refine qb (AC.g9 (zi _ _ _ hx) [0] [0]) ?_
    refine kr [41, 87] ?_
    refine qg (fun hb => ?_) (fun hb => ?_)
    ·replace h := qw hb h
     refine kr [41, 87] ?_
     obtain ⟨x10, hx, h⟩ := bind_some h
     rcases x10 with ee | x10
     ·replace h : some (.error ee) = some r := h
      cases h
      exact ze (FCalls.ghost (e := 9) (FCalls.ghost (e := 26) (FCalls.wkg (FC.go (objs := [(0, .var 77 (Reader.cells a0)), (1, .var 26 [(.int .i64 0), (.str ⟨#[]⟩), (.sl 0 true []), (.sl 0 true [])]), (2, .var 26 [(.int .i64 (13 : Int)), (.str ⟨#[]⟩), (.bs 1 3 3 0 ([] : LB).length), (.bs 4 4 4 0 ([] : LN).length)]), (3, .row 9 (([] : LB).map sc).flatten), (4, .row 26 (([] : LN).map Node.cells).flatten)]) (xs := [(.ptr 0 0 0), (.ptr 2 2 0), (.str (⟨#[105, 102]⟩ : BA))]) (qc _ _ _ _ _ _ _ hx) [0, 2, 3, 4] [0, 2, 3, 4] rfl rfl rfl rfl rfl rfl) (qi (qn _) (qi (qn _) (qi (qn _) z6))) (qe (qe (jb (qd (ql _) (qd (ql _) (qd (zg rfl) (qd (zg rfl) js)))) (zt _)))))))
     refine qb (ACalls.ghost (e := 9) (ACalls.ghost (e := 26) (ACalls.wkg (AC.go (objs := [(0, .var 77 (Reader.cells a0)), (1, .var 26 [(.int .i64 0), (.str ⟨#[]⟩), (.sl 0 true []), (.sl 0 true [])]), (2, .var 26 [(.int .i64 (13 : Int)), (.str ⟨#[]⟩), (.bs 1 3 3 0 ([] : LB).length), (.bs 4 4 4 0 ([] : LN).length)]), (3, .row 9 (([] : LB).map sc).flatten), (4, .row 26 (([] : LN).map Node.cells).flatten)]) (xs := [(.ptr 0 0 0), (.ptr 2 2 0), (.str (⟨#[105, 102]⟩ : BA))]) (qc _ _ _ _ _ _ _ hx) [0, 2, 3, 4] [0, 2, 3, 4] rfl rfl rfl rfl rfl rfl rfl rfl rfl) (qi (qn _) (qi (qn _) (qi (qn _) z6))) (qe (qe (jb (qd (ql _) (qd (ql _) (qd (zg rfl) (qd (zg rfl) js)))) (zt _))))))) ?_
     refine kr [41, 87] ?_
     obtain ⟨x11, hx, h⟩ := bind_some h
     rcases x11 with ee | x11
     ·replace h : some (.error ee) = some r := h
      cases h
      exact ze (FC.go (qu _ _ _ hx) [0] [0] rfl rfl rfl rfl rfl rfl)
     refine qb (AC.g9 (qu _ _ _ hx) [0] [0]) ?_
     refine kr [41, 87] ?_
     obtain ⟨x12, hx, h⟩ := bind_some h
     refine qb (AC.g9 (zy _ _ _ _ _ _ hx) [2, 3, 4] [2, 5, 4]) ?_
     refine kr [41, 87] ?_
     obtain ⟨x13, hx, h⟩ := bind_some h
     rcases x13 with ee | x13
     ·replace h : some (.error ee) = some r := h
      cases h
      exact ze (FC.go (yc _ _ hx) [0] [0] rfl rfl rfl rfl rfl rfl)
     refine qb (AC.g9 (yc _ _ hx) [0] [0]) ?_
     refine kr [41, 87] ?_
     obtain ⟨x14, hx, h⟩ := bind_some h
     refine qb (AC.g9 (zy _ _ _ _ _ _ hx) [2, 3, 4] [2, 5, 6]) ?_
     refine kr [41, 87] ?_
     obtain ⟨x15, hx, h⟩ := bind_some h
     refine qb (AC.g9 (zi _ _ _ hx) [0] [0]) ?_
     refine kr [41, 87] ?_
     refine qg (fun hb => ?_) (fun hb => ?_)
     ·replace h := qw hb h
      refine kr [41, 87] ?_
      obtain ⟨x16, hx, h⟩ := bind_some h
      rcases x16 with ee | x16
      ·replace h : some (.error ee) = some r := h
       cases h
       exact ze (FCalls.ghost (e := 9) (FCalls.ghost (e := 26) (FCalls.wkg (FC.go (objs := [(0, .var 77 (Reader.cells x13.2)), (1, .var 26 [(.int .i64 0), (.str ⟨#[]⟩), (.sl 0 true []), (.sl 0 true [])]), (2, .var 26 [(.int .i64 (13 : Int)), (.str ⟨#[]⟩), (.bs 1 3 5 0 x10.2.length), (.bs 4 4 7 0 x14.length)]), (5, .row 9 (x10.2.map sc).flatten), (7, .row 26 (x14.map Node.cells).flatten), (8, .var 26 [(.int .i64 (14 : Int)), (.str ⟨#[]⟩), (.bs 1 6 9 0 ([] : LB).length), (.bs 4 7 10 0 ([] : LN).length)]), (9, .row 9 (([] : LB).map sc).flatten), (10, .row 26 (([] : LN).map Node.cells).flatten)]) (xs := [(.ptr 0 0 0), (.ptr 5 8 0), (.str (⟨#[101, 108, 115, 101]⟩ : BA))]) (qc _ _ _ _ _ _ _ hx) [0, 5, 6, 7] [0, 8, 9, 10] rfl rfl rfl rfl rfl rfl) (qi (qn _) (qi (qn _) (qi (qn _) z6))) (qe (qe (qe (qe (qe (jb (qd (ql _) (qd (ql _) (qd (zg rfl) (qd (zg rfl) js)))) (zt _))))))))))
      refine qb (ACalls.ghost (e := 9) (ACalls.ghost (e := 26) (ACalls.wkg (AC.go (objs := [(0, .var 77 (Reader.cells x13.2)), (1, .var 26 [(.int .i64 0), (.str ⟨#[]⟩), (.sl 0 true []), (.sl 0 true [])]), (2, .var 26 [(.int .i64 (13 : Int)), (.str ⟨#[]⟩), (.bs 1 3 5 0 x10.2.length), (.bs 4 4 7 0 x14.length)]), (5, .row 9 (x10.2.map sc).flatten), (7, .row 26 (x14.map Node.cells).flatten), (8, .var 26 [(.int .i64 (14 : Int)), (.str ⟨#[]⟩), (.bs 1 6 9 0 ([] : LB).length), (.bs 4 7 10 0 ([] : LN).length)]), (9, .row 9 (([] : LB).map sc).flatten), (10, .row 26 (([] : LN).map Node.cells).flatten)]) (xs := [(.ptr 0 0 0), (.ptr 5 8 0), (.str (⟨#[101, 108, 115, 101]⟩ : BA))]) (qc _ _ _ _ _ _ _ hx) [0, 5, 6, 7] [0, 8, 9, 10] rfl rfl rfl rfl rfl rfl rfl rfl rfl) (qi (qn _) (qi (qn _) (qi (qn _) z6))) (qe (qe (qe (qe (qe (jb (qd (ql _) (qd (ql _) (qd (zg rfl) (qd (zg rfl) js)))) (zt _)))))))))) ?_
      refine kr [41, 87] ?_
      obtain ⟨x17, hx, h⟩ := bind_some h
      rcases x17 with ee | x17
      ·replace h : some (.error ee) = some r := h
       cases h
       exact ze (FC.go (yc _ _ hx) [0] [0] rfl rfl rfl rfl rfl rfl)
      refine qb (AC.g9 (yc _ _ hx) [0] [0]) ?_
      refine kr [41, 87] ?_
      obtain ⟨x18, hx, h⟩ := bind_some h
      refine qb (AC.g9 (zy _ _ _ _ _ _ hx) [5, 6, 7] [8, 11, 10]) ?_
      refine kr [41, 87] ?_
      refine Jw 5 2 6 zr rfl rfl rfl rfl rfl rfl ?_
      refine Jw 5 3 7 qk rfl rfl rfl rfl rfl rfl ?_
      exact qz (by kernel_rfl) rfl lQ (Q1 _ _ _ _ _ _ _ h)
     ·replace h := qx hb h
      refine kr [41, 87] ?_
      exact qz (by kernel_rfl) rfl lQ (Q1 _ _ _ _ _ _ _ h)
    ·replace h := qx hb h
     refine kr [41, 87] ?_
     obtain ⟨x19, hx, h⟩ := bind_some h
     refine qb (AC.g9 (zi _ _ _ hx) [0] [0]) ?_
     refine kr [41, 87] ?_
     refine qg (fun hb => ?_) (fun hb => ?_)
     ·replace h := qw hb h
      refine kr [41, 87] ?_
      obtain ⟨x20, hx, h⟩ := bind_some h
      rcases x20 with ee | x20
      ·replace h : some (.error ee) = some r := h
       cases h
       exact ze (FCalls.ghost (e := 9) (FCalls.ghost (e := 26) (FCalls.wkg (FC.go (objs := [(0, .var 77 (Reader.cells a0)), (1, .var 26 [(.int .i64 0), (.str ⟨#[]⟩), (.sl 0 true []), (.sl 0 true [])]), (2, .var 26 [(.int .i64 (15 : Int)), (.str ⟨#[]⟩), (.bs 1 3 3 0 ([] : LB).length), (.bs 4 4 4 0 ([] : LN).length)]), (3, .row 9 (([] : LB).map sc).flatten), (4, .row 26 (([] : LN).map Node.cells).flatten)]) (xs := [(.ptr 0 0 0), (.ptr 2 2 0), (.str (⟨#[119, 104, 105, 108, 101]⟩ : BA))]) (qc _ _ _ _ _ _ _ hx) [0, 2, 3, 4] [0, 2, 3, 4] rfl rfl rfl rfl rfl rfl) (qi (qn _) (qi (qn _) (qi (qn _) z6))) (qe (qe (jb (qd (ql _) (qd (ql _) (qd (zg rfl) (qd (zg rfl) js)))) (zt _)))))))
      refine qb (ACalls.ghost (e := 9) (ACalls.ghost (e := 26) (ACalls.wkg (AC.go (objs := [(0, .var 77 (Reader.cells a0)), (1, .var 26 [(.int .i64 0), (.str ⟨#[]⟩), (.sl 0 true []), (.sl 0 true [])]), (2, .var 26 [(.int .i64 (15 : Int)), (.str ⟨#[]⟩), (.bs 1 3 3 0 ([] : LB).length), (.bs 4 4 4 0 ([] : LN).length)]), (3, .row 9 (([] : LB).map sc).flatten), (4, .row 26 (([] : LN).map Node.cells).flatten)]) (xs := [(.ptr 0 0 0), (.ptr 2 2 0), (.str (⟨#[119, 104, 105, 108, 101]⟩ : BA))]) (qc _ _ _ _ _ _ _ hx) [0, 2, 3, 4] [0, 2, 3, 4] rfl rfl rfl rfl rfl rfl rfl rfl rfl) (qi (qn _) (qi (qn _) (qi (qn _) z6))) (qe (qe (jb (qd (ql _) (qd (ql _) (qd (zg rfl) (qd (zg rfl) js)))) (zt _))))))) ?_
      refine kr [41, 87] ?_
      obtain ⟨x21, hx, h⟩ := bind_some h
      rcases x21 with ee | x21
      ·replace h : some (.error ee) = some r := h
       cases h
       exact ze (FC.go (qu _ _ _ hx) [0] [0] rfl rfl rfl rfl rfl rfl)
      refine qb (AC.g9 (qu _ _ _ hx) [0] [0]) ?_
      refine kr [41, 87] ?_
      obtain ⟨x22, hx, h⟩ := bind_some h
      refine qb (AC.g9 (zy _ _ _ _ _ _ hx) [2, 3, 4] [2, 5, 4]) ?_
      refine kr [41, 87] ?_
      obtain ⟨x23, hx, h⟩ := bind_some h
      rcases x23 with ee | x23
      ·replace h : some (.error ee) = some r := h
       cases h
       exact ze (FC.go (yc _ _ hx) [0] [0] rfl rfl rfl rfl rfl rfl)
      refine qb (AC.g9 (yc _ _ hx) [0] [0]) ?_
      refine kr [41, 87] ?_
      obtain ⟨x24, hx, h⟩ := bind_some h
      refine qb (AC.g9 (zy _ _ _ _ _ _ hx) [2, 3, 4] [2, 5, 6]) ?_
      refine kr [41, 87] ?_
      cases h
      exact jw env rfl rfl (tS [some 0] (sV (lS (lS lN)) qy) (j3 (ym (qh (qf (zw rfl) rfl) (qh (qf (jr rfl) rfl) (qh (qf (jz zr rfl) rfl) (qh (qf (jz qk rfl) rfl) yl))))) (by simp)))
     ·replace h := qx hb h
      refine kr [41, 87] ?_
      obtain ⟨x25, hx, h⟩ := bind_some h
      refine qb (AC.g9 (zu _ _ hx) [0] [0]) ?_
      refine kr [41, 87] ?_
      refine qv (fun hb => ?_) (fun hb => ?_)
      ·replace h := qw hb h
       refine kr [41, 87] ?_
       obtain ⟨x26, hx, h⟩ := bind_some h
       refine qt (qe8 _ _ hx) ?_
       refine kr [41, 87] ?_
       refine qv (fun hb => ?_) (fun hb => ?_)
       ·replace h := qw hb h
        refine kr [41, 87] ?_
        obtain ⟨x27, hx, h⟩ := bind_some h
        refine K1 env hx rfl rfl rfl rfl rfl ?_
        refine kr [41, 87] ?_
        refine qg (fun hb => ?_) (fun hb => ?_)
        ·replace h := qw hb h
         refine kr [41, 87] ?_
         obtain ⟨x28, hx, h⟩ := bind_some h
         rcases x28 with ee | x28
         ·replace h : some (.error ee) = some r := h
          cases h
          exact ze (FCalls.ghost (e := 9) (FCalls.ghost (e := 26) (FCalls.wkg (FC.go (objs := [(0, .var 77 (Reader.cells a0)), (1, .var 26 [(.int .i64 0), (.str ⟨#[]⟩), (.sl 0 true []), (.sl 0 true [])]), (2, .var 49 (Token.cells x25)), (3, .var 26 [(.int .i64 (11 : Int)), (.str ⟨#[]⟩), (.bs 1 4 4 0 ([] : LB).length), (.bs 4 5 5 0 ([] : LN).length)]), (4, .row 9 (([] : LB).map sc).flatten), (5, .row 26 (([] : LN).map Node.cells).flatten)]) (xs := [(.ptr 0 0 0), (.ptr 3 3 0)]) (zl _ _ _ _ _ _ hx) [0, 3, 4, 5] [0, 3, 4, 5] rfl rfl rfl rfl rfl rfl) (qi (qn _) (qi (qn _) z6)) (qe (qe (qe (jb (qd (ql _) (qd (ql _) (qd (zg rfl) (qd (zg rfl) js)))) (zt _))))))))
         refine qb (ACalls.ghost (e := 9) (ACalls.ghost (e := 26) (ACalls.wkg (AC.go (objs := [(0, .var 77 (Reader.cells a0)), (1, .var 26 [(.int .i64 0), (.str ⟨#[]⟩), (.sl 0 true []), (.sl 0 true [])]), (2, .var 49 (Token.cells x25)), (3, .var 26 [(.int .i64 (11 : Int)), (.str ⟨#[]⟩), (.bs 1 4 4 0 ([] : LB).length), (.bs 4 5 5 0 ([] : LN).length)]), (4, .row 9 (([] : LB).map sc).flatten), (5, .row 26 (([] : LN).map Node.cells).flatten)]) (xs := [(.ptr 0 0 0), (.ptr 3 3 0)]) (zl _ _ _ _ _ _ hx) [0, 3, 4, 5] [0, 3, 4, 5] rfl rfl rfl rfl rfl rfl rfl rfl rfl) (qi (qn _) (qi (qn _) z6)) (qe (qe (qe (jb (qd (ql _) (qd (ql _) (qd (zg rfl) (qd (zg rfl) js)))) (zt _)))))))) ?_
         refine kr [41, 87] ?_
         obtain ⟨x29, hx, h⟩ := bind_some h
         rcases x29 with ee | x29
         ·replace h : some (.error ee) = some r := h
          cases h
          exact ze (FC.go (qc _ _ _ _ _ _ _ hx) [0, 3, 4, 5] [0, 3, 6, 5] rfl rfl rfl rfl rfl rfl)
         refine qb (AC.g9 (qc _ _ _ _ _ _ _ hx) [0, 3, 4, 5] [0, 3, 6, 5]) ?_
         refine kr [41, 87] ?_
         obtain ⟨x30, hx, h⟩ := bind_some h
         rcases x30 with ee | x30
         ·replace h : some (.error ee) = some r := h
          cases h
          exact ze (FC.go (qu _ _ _ hx) [0] [0] rfl rfl rfl rfl rfl rfl)
         refine qb (AC.g9 (qu _ _ _ hx) [0] [0]) ?_
         refine kr [41, 87] ?_
         obtain ⟨x31, hx, h⟩ := bind_some h
         refine qb (AC.g9 (zy _ _ _ _ _ _ hx) [3, 4, 5] [3, 7, 5]) ?_
         refine kr [41, 87] ?_
         obtain ⟨x32, hx, h⟩ := bind_some h
         rcases x32 with ee | x32
         ·replace h : some (.error ee) = some r := h
          cases h
          exact ze (FC.go (qc _ _ _ _ _ _ _ hx) [0, 3, 4, 5] [0, 3, 7, 8] rfl rfl rfl rfl rfl rfl)
         refine qb (AC.g9 (qc _ _ _ _ _ _ _ hx) [0, 3, 4, 5] [0, 3, 7, 8]) ?_
         refine kr [41, 87] ?_
         cases h
         exact jw env rfl rfl (tS [some 0] (sV (lS (lS lN)) qy) (j3 (ym (qh (qf (zw rfl) rfl) (qh (qf (jr rfl) rfl) (qh (qf (jz zr rfl) rfl) (qh (qf (jz qk rfl) rfl) yl))))) (by simp)))
        ·replace h := qx hb h
         refine kr [41, 87] ?_
         exact qz (by kernel_rfl) rfl lQ (uo _ _ h)
       ·replace h := qx hb h
        refine kr [41, 87] ?_
        exact qz (by kernel_rfl) rfl lQ (uo _ _ h)
      ·replace h := qx hb h
       refine kr [41, 87] ?_
       exact qz (by kernel_rfl) rfl lQ (uo _ _ h)
theorem yc : PC1 Q8 jd := Qo.1
theorem ug : PC5 v7 j5 := Qo.2.1
theorem k7 : PC1 vq jx := Qo.2.2
mutual
def j4 (o0 : Reader) (o2_0 : Int) (o2_1 : BA) (o2_2 : LB) (o2_3 : LN) (o5_0 : Int) (o5_1 : BA) (o5_2 : LB) (o5_3 : LN) : Option (Except Int (Node × Reader)) :=
 zf (qa o0) (⟨#[41]⟩ : BA) >>= fun x4 =>
 if (!x4) = true then
  if (decide ((0 : Int) < (o5_3.length : Int))) = true then
   qm (qa o0) (qa o5_0) (qa o5_1) (qa o5_2) (qa o5_3) (⟨#[44]⟩ : BA) >>= fun x5 =>
   match x5 with
   | .error ee => some (.error ee)
   | .ok x5 =>
   yg x5.1 (qa o2_0) (qa o2_1) (qa o2_2) (qa o2_3) (qa o5_0) (qa o5_1) x5.2 (qa o5_3)
  else
   yg (qa o0) (qa o2_0) (qa o2_1) (qa o2_2) (qa o2_3) (qa o5_0) (qa o5_1) (qa o5_2) (qa o5_3)
 else
  qm (qa o0) (qa o5_0) (qa o5_1) (qa o5_2) (qa o5_3) (⟨#[41]⟩ : BA) >>= fun x6 =>
  match x6 with
  | .error ee => some (.error ee)
  | .ok x6 =>
  zx (qa o2_0) (qa o2_1) (qa o2_2) (qa o2_3) (Node.mk o5_0 o5_1 x6.2 o5_3) >>= fun x7 =>
  wt x6.1 >>= fun x8 =>
  match x8 with
  | .error ee => some (.error ee)
  | .ok x8 =>
  zx (qa o2_0) (qa o2_1) (qa o2_2) (qa x7) x8.1 >>= fun x9 =>
  jd x8.2 >>= fun x10 =>
  match x10 with
  | .error ee => some (.error ee)
  | .ok x10 =>
  zx (qa o2_0) (qa o2_1) (qa o2_2) (qa x9) x10.1 >>= fun x11 =>
  some (.ok ((Node.mk o2_0 o2_1 o2_2 x11), x10.2))
 partial_fixpoint
def yg (o0 : Reader) (o2_0 : Int) (o2_1 : BA) (o2_2 : LB) (o2_3 : LN) (o5_0 : Int) (o5_1 : BA) (o5_2 : LB) (o5_3 : LN) : Option (Except Int (Node × Reader)) :=
 z8 (qa o0) (4 : Int) (⟨#[]⟩) ([] : LB) ([] : LN) >>= fun x12 =>
 match x12 with
 | .error ee => some (.error ee)
 | .ok x12 =>
 wt x12.1 >>= fun x13 =>
 match x13 with
 | .error ee => some (.error ee)
 | .ok x13 =>
 zx (4 : Int) x12.2.1 x12.2.2 ([] : LN) x13.1 >>= fun x14 =>
 zx (qa o5_0) (qa o5_1) (qa o5_2) (qa o5_3) (Node.mk (4 : Int) x12.2.1 x12.2.2 x14) >>= fun x15 =>
 j4 x13.2 (qa o2_0) (qa o2_1) (qa o2_2) (qa o2_3) (qa o5_0) (qa o5_1) (qa o5_2) (qa x15)
 partial_fixpoint
end
@[reducible] def vd (o0 : Reader) (o2_0 : Int) (o2_1 : BA) (o2_2 : LB) (o2_3 : LN) (o5_0 : Int) (o5_1 : BA) (o5_2 : LB) (o5_3 : LN) (r : Except Int (Node × Reader)) : Prop :=
  Ok Tryz.prog G tt 42 1 (exq (fun (r : Node × Reader) => Ret Tryz.prog [.cell 2 26] (fun y H => ua Tryz.prog G 1 H y (.agg (zp r.1)) ⟨1, [(0, .var 77 (Reader.cells r.2))]⟩)) (fun e => Zl (flt e)) r) (.again (wu [20, 2000011, 2000013] Tryz.f54 0).1 (wu [20, 2000011, 2000013] Tryz.f54 0).2 (.n (.ptr 0 0 0) (.n .undef (.n (.ptr 2 2 0) .z .z) .z) (.n (.ptr 1 1 0) (.n (.ptr 5 7 0) .z .z) .z)) 11 [(0, .var 77 (Reader.cells o0)), (1, .var 26 [(.int .i64 0), (.str ⟨#[]⟩), (.sl 0 true []), (.sl 0 true [])]), (2, .var 26 [(.int .i64 o2_0), (.str o2_1), (.bs 1 3 6 0 o2_2.length), (.bs 4 4 4 0 o2_3.length)]), (6, .row 9 (o2_2.map sc).flatten), (4, .row 26 (o2_3.map Node.cells).flatten), (7, .var 26 [(.int .i64 o5_0), (.str o5_1), (.bs 1 6 10 0 o5_2.length), (.bs 4 7 9 0 o5_3.length)]), (10, .row 9 (o5_2.map sc).flatten), (9, .row 26 (o5_3.map Node.cells).flatten)])
@[reducible] def u1 (o0 : Reader) (o2_0 : Int) (o2_1 : BA) (o2_2 : LB) (o2_3 : LN) (o5_0 : Int) (o5_1 : BA) (o5_2 : LB) (o5_3 : LN) (r : Except Int (Node × Reader)) : Prop :=
  Ok Tryz.prog G tt 42 1 (exq (fun (r : Node × Reader) => Ret Tryz.prog [.cell 2 26] (fun y H => ua Tryz.prog G 1 H y (.agg (zp r.1)) ⟨1, [(0, .var 77 (Reader.cells r.2))]⟩)) (fun e => Zl (flt e)) r) (.go [] (vc [20, 2000011, 2000013] Tryz.f54 20) [] (.n (.ptr 0 0 0) (.n .undef (.n (.ptr 2 2 0) .z .z) .z) (.n (.ptr 1 1 0) (.n (.ptr 5 7 0) .z .z) .z)) 12 [(0, .var 77 (Reader.cells o0)), (1, .var 26 [(.int .i64 0), (.str ⟨#[]⟩), (.sl 0 true []), (.sl 0 true [])]), (2, .var 26 [(.int .i64 o2_0), (.str o2_1), (.bs 1 3 6 0 o2_2.length), (.bs 4 4 4 0 o2_3.length)]), (6, .row 9 (o2_2.map sc).flatten), (4, .row 26 (o2_3.map Node.cells).flatten), (7, .var 26 [(.int .i64 o5_0), (.str o5_1), (.bs 1 6 11 0 o5_2.length), (.bs 4 7 9 0 o5_3.length)]), (11, .row 9 (o5_2.map sc).flatten), (9, .row 26 (o5_3.map Node.cells).flatten)])
theorem Q5 : PC9 vd j4 ∧ PC9 u1 yg := by
 refine j4.mutual_partial_correctness vd u1 (fun yg u6 o0 o2_0 o2_1 o2_2 o2_3 o5_0 o5_1 o5_2 o5_3 r h => ?_) (fun j4 ve o0 o2_0 o2_1 o2_2 o2_3 o5_0 o5_1 o5_2 o5_3 r h => ?_)
 ·unfold qa at h
  refine uz ?_
  refine kr [20, 2000011, 2000013] ?_
  obtain ⟨x4, hx, h⟩ := bind_some h
  refine qb (AC.g9 (zi _ _ _ hx) [0] [0]) ?_
  refine kr [20, 2000011, 2000013] ?_
  refine qg (fun hb => ?_) (fun hb => ?_)
  ·replace h := qw hb h
   refine kr [20, 2000011, 2000013] ?_
   refine qg (fun hb => ?_) (fun hb => ?_)
   ·replace h := qw hb h
    refine kr [20, 2000011, 2000013] ?_
    obtain ⟨x5, hx, h⟩ := bind_some h
    rcases x5 with ee | x5
    ·replace h : some (.error ee) = some r := h
     cases h
     exact ze (FC.go (qc _ _ _ _ _ _ _ hx) [0, 5, 6, 7] [0, 7, 10, 9] rfl rfl rfl rfl rfl rfl)
    refine qb (AC.g9 (qc _ _ _ _ _ _ _ hx) [0, 5, 6, 7] [0, 7, 10, 9]) ?_
    refine kr [20, 2000011, 2000013] ?_
    exact qz (by kernel_rfl) rfl lQ (u6 _ _ _ _ _ _ _ _ _ _ h)
   ·replace h := qx hb h
    refine kr [20, 2000011, 2000013] ?_
    exact qz (by kernel_rfl) rfl lQ (u6 _ _ _ _ _ _ _ _ _ _ h)
  ·replace h := qx hb h
   refine kr [20, 2000011, 2000013] ?_
   obtain ⟨x6, hx, h⟩ := bind_some h
   rcases x6 with ee | x6
   ·replace h : some (.error ee) = some r := h
    cases h
    exact ze (FC.go (qc _ _ _ _ _ _ _ hx) [0, 5, 6, 7] [0, 7, 10, 9] rfl rfl rfl rfl rfl rfl)
   refine qb (AC.g9 (qc _ _ _ _ _ _ _ hx) [0, 5, 6, 7] [0, 7, 10, 9]) ?_
   refine kr [20, 2000011, 2000013] ?_
   refine Jw 5 2 6 zr rfl rfl rfl rfl rfl rfl ?_
   refine Jw 5 3 7 qk rfl rfl rfl rfl rfl rfl ?_
   refine qfp ?_
   refine kr [20, 2000011, 2000013] ?_
   obtain ⟨x7, hx, h⟩ := bind_some h
   refine qb (AC.g9 (zy _ _ _ _ _ _ hx) [2, 3, 4] [2, 6, 4]) ?_
   refine kr [20, 2000011, 2000013] ?_
   obtain ⟨x8, hx, h⟩ := bind_some h
   rcases x8 with ee | x8
   ·replace h : some (.error ee) = some r := h
    cases h
    exact ze (FC.go (vn _ _ hx) [0] [0] rfl rfl rfl rfl rfl rfl)
   refine qb (AC.g9 (vn _ _ hx) [0] [0]) ?_
   refine kr [20, 2000011, 2000013] ?_
   obtain ⟨x9, hx, h⟩ := bind_some h
   refine qb (AC.g9 (zy _ _ _ _ _ _ hx) [2, 3, 4] [2, 6, 12]) ?_
   refine kr [20, 2000011, 2000013] ?_
   obtain ⟨x10, hx, h⟩ := bind_some h
   rcases x10 with ee | x10
   ·replace h : some (.error ee) = some r := h
    cases h
    exact ze (FC.go (yc _ _ hx) [0] [0] rfl rfl rfl rfl rfl rfl)
   refine qb (AC.g9 (yc _ _ hx) [0] [0]) ?_
   refine kr [20, 2000011, 2000013] ?_
   obtain ⟨x11, hx, h⟩ := bind_some h
   refine qb (AC.g9 (zy _ _ _ _ _ _ hx) [2, 3, 4] [2, 6, 13]) ?_
   refine kr [20, 2000011, 2000013] ?_
   cases h
   exact jw env rfl rfl (tS [some 0] (sV (lS (lS lN)) qy) (j3 (ym (qh (qf (zw rfl) rfl) (qh (qf (jr rfl) rfl) (qh (qf (jz zr rfl) rfl) (qh (qf (jz qk rfl) rfl) yl))))) (by simp)))
 ·unfold qa at h
  refine kr [20, 2000011, 2000013] ?_
  obtain ⟨x12, hx, h⟩ := bind_some h
  rcases x12 with ee | x12
  ·replace h : some (.error ee) = some r := h
   cases h
   exact ze (FCalls.ghost (e := 9) (FCalls.ghost (e := 26) (FCalls.wkg (FC.go (objs := [(0, .var 77 (Reader.cells o0)), (1, .var 26 [(.int .i64 0), (.str ⟨#[]⟩), (.sl 0 true []), (.sl 0 true [])]), (2, .var 26 [(.int .i64 o2_0), (.str o2_1), (.bs 1 3 6 0 o2_2.length), (.bs 4 4 4 0 o2_3.length)]), (6, .row 9 (o2_2.map sc).flatten), (4, .row 26 (o2_3.map Node.cells).flatten), (7, .var 26 [(.int .i64 o5_0), (.str o5_1), (.bs 1 6 11 0 o5_2.length), (.bs 4 7 9 0 o5_3.length)]), (11, .row 9 (o5_2.map sc).flatten), (9, .row 26 (o5_3.map Node.cells).flatten), (12, .var 26 [(.int .i64 (4 : Int)), (.str ⟨#[]⟩), (.bs 1 9 13 0 ([] : LB).length), (.bs 4 10 14 0 ([] : LN).length)]), (13, .row 9 (([] : LB).map sc).flatten), (14, .row 26 (([] : LN).map Node.cells).flatten)]) (xs := [(.ptr 0 0 0), (.ptr 8 12 0)]) (zl _ _ _ _ _ _ hx) [0, 8, 9, 10] [0, 12, 13, 14] rfl rfl rfl rfl rfl rfl) (qi (qn _) (qi (qn _) z6)) (qe (qe (qe (qe (qe (qe (qe (qe (jb (qd (ql _) (qd (ql _) (qd (zg rfl) (qd (zg rfl) js)))) (zt _)))))))))))))
  refine qb (ACalls.ghost (e := 9) (ACalls.ghost (e := 26) (ACalls.wkg (AC.go (objs := [(0, .var 77 (Reader.cells o0)), (1, .var 26 [(.int .i64 0), (.str ⟨#[]⟩), (.sl 0 true []), (.sl 0 true [])]), (2, .var 26 [(.int .i64 o2_0), (.str o2_1), (.bs 1 3 6 0 o2_2.length), (.bs 4 4 4 0 o2_3.length)]), (6, .row 9 (o2_2.map sc).flatten), (4, .row 26 (o2_3.map Node.cells).flatten), (7, .var 26 [(.int .i64 o5_0), (.str o5_1), (.bs 1 6 11 0 o5_2.length), (.bs 4 7 9 0 o5_3.length)]), (11, .row 9 (o5_2.map sc).flatten), (9, .row 26 (o5_3.map Node.cells).flatten), (12, .var 26 [(.int .i64 (4 : Int)), (.str ⟨#[]⟩), (.bs 1 9 13 0 ([] : LB).length), (.bs 4 10 14 0 ([] : LN).length)]), (13, .row 9 (([] : LB).map sc).flatten), (14, .row 26 (([] : LN).map Node.cells).flatten)]) (xs := [(.ptr 0 0 0), (.ptr 8 12 0)]) (zl _ _ _ _ _ _ hx) [0, 8, 9, 10] [0, 12, 13, 14] rfl rfl rfl rfl rfl rfl rfl rfl rfl) (qi (qn _) (qi (qn _) z6)) (qe (qe (qe (qe (qe (qe (qe (qe (jb (qd (ql _) (qd (ql _) (qd (zg rfl) (qd (zg rfl) js)))) (zt _))))))))))))) ?_
  refine kr [20, 2000011, 2000013] ?_
  obtain ⟨x13, hx, h⟩ := bind_some h
  rcases x13 with ee | x13
  ·replace h : some (.error ee) = some r := h
   cases h
   exact ze (FC.go (vn _ _ hx) [0] [0] rfl rfl rfl rfl rfl rfl)
  refine qb (AC.g9 (vn _ _ hx) [0] [0]) ?_
  refine kr [20, 2000011, 2000013] ?_
  obtain ⟨x14, hx, h⟩ := bind_some h
  refine qb (AC.g9 (zy _ _ _ _ _ _ hx) [8, 9, 10] [12, 15, 14]) ?_
  refine kr [20, 2000011, 2000013] ?_
  refine Jw 8 2 9 zr rfl rfl rfl rfl rfl rfl ?_
  refine Jw 8 3 10 qk rfl rfl rfl rfl rfl rfl ?_
  refine qfp ?_
  refine kr [20, 2000011, 2000013] ?_
  obtain ⟨x15, hx, h⟩ := bind_some h
  refine qb (AC.g9 (zy _ _ _ _ _ _ hx) [5, 6, 7] [7, 11, 9]) ?_
  refine kr [20, 2000011, 2000013] ?_
  exact wa (by kernel_rfl) lQ (ve _ _ _ _ _ _ _ _ _ _ h)
theorem ve : PC9 vd j4 := Q5.1
theorem u6 : PC9 u1 yg := Q5.2
def yw (a0 : Reader) : Option (Except Int (Node × Reader)) :=
 qm a0 (2 : Int) (⟨#[]⟩) ([] : LB) ([] : LN) (⟨#[102, 110]⟩ : BA) >>= fun x1 =>
 match x1 with
 | .error ee => some (.error ee)
 | .ok x1 =>
 z8 x1.1 (2 : Int) (⟨#[]⟩) x1.2 ([] : LN) >>= fun x2 =>
 match x2 with
 | .error ee => some (.error ee)
 | .ok x2 =>
 qm x2.1 (3 : Int) (⟨#[]⟩) ([] : LB) ([] : LN) (⟨#[40]⟩ : BA) >>= fun x3 =>
 match x3 with
 | .error ee => some (.error ee)
 | .ok x3 =>
 j4 x3.1 (2 : Int) x2.2.1 x2.2.2 ([] : LN) (3 : Int) (⟨#[]⟩) x3.2 ([] : LN)
@[reducible] def qab (a0 : Reader) (r : Except Int (Node × Reader)) : Prop :=
  exq (fun (r : Node × Reader) => AC Tryz.prog G 54 [(.ptr 0 0 0)] 1 [(0, .var 77 (Reader.cells a0))] (.agg (zp r.1)) 1 [(0, .var 77 (Reader.cells r.2))]) (fun e => FC Tryz.prog G 54 [(.ptr 0 0 0)] 1 [(0, .var 77 (Reader.cells a0))] (flt e)) r
theorem ud : PC1 qab yw := fun a0 r h => by
 rw [yw.eq_def] at h
 refine Z3 (T := tt) (N := 42) (rs := [.cell 2 26]) (fun vs w => by simp) Tryz.func54 rfl rfl rfl (by kernel_rfl) (by kernel_rfl) (zm rfl rfl jk) (qj zd) (fun r => (zo rfl jq)) (fun r => (qj zd)) (fun _ => rfl) (fun _ => rfl) rfl (fun _ => rfl) ?_
 refine kr [20, 2000011, 2000013] ?_
 obtain ⟨x1, hx, h⟩ := bind_some h
 rcases x1 with ee | x1
 ·replace h : some (.error ee) = some r := h
  cases h
  exact ze (FCalls.ghost (e := 9) (FCalls.ghost (e := 26) (FCalls.wkg (FC.go (objs := [(0, .var 77 (Reader.cells a0)), (1, .var 26 [(.int .i64 0), (.str ⟨#[]⟩), (.sl 0 true []), (.sl 0 true [])]), (2, .var 26 [(.int .i64 (2 : Int)), (.str ⟨#[]⟩), (.bs 1 3 3 0 ([] : LB).length), (.bs 4 4 4 0 ([] : LN).length)]), (3, .row 9 (([] : LB).map sc).flatten), (4, .row 26 (([] : LN).map Node.cells).flatten)]) (xs := [(.ptr 0 0 0), (.ptr 2 2 0), (.str (⟨#[102, 110]⟩ : BA))]) (qc _ _ _ _ _ _ _ hx) [0, 2, 3, 4] [0, 2, 3, 4] rfl rfl rfl rfl rfl rfl) (qi (qn _) (qi (qn _) (qi (qn _) z6))) (qe (qe (jb (qd (ql _) (qd (ql _) (qd (zg rfl) (qd (zg rfl) js)))) (zt _)))))))
 refine qb (ACalls.ghost (e := 9) (ACalls.ghost (e := 26) (ACalls.wkg (AC.go (objs := [(0, .var 77 (Reader.cells a0)), (1, .var 26 [(.int .i64 0), (.str ⟨#[]⟩), (.sl 0 true []), (.sl 0 true [])]), (2, .var 26 [(.int .i64 (2 : Int)), (.str ⟨#[]⟩), (.bs 1 3 3 0 ([] : LB).length), (.bs 4 4 4 0 ([] : LN).length)]), (3, .row 9 (([] : LB).map sc).flatten), (4, .row 26 (([] : LN).map Node.cells).flatten)]) (xs := [(.ptr 0 0 0), (.ptr 2 2 0), (.str (⟨#[102, 110]⟩ : BA))]) (qc _ _ _ _ _ _ _ hx) [0, 2, 3, 4] [0, 2, 3, 4] rfl rfl rfl rfl rfl rfl rfl rfl rfl) (qi (qn _) (qi (qn _) (qi (qn _) z6))) (qe (qe (jb (qd (ql _) (qd (ql _) (qd (zg rfl) (qd (zg rfl) js)))) (zt _))))))) ?_
 refine kr [20, 2000011, 2000013] ?_
 obtain ⟨x2, hx, h⟩ := bind_some h
 rcases x2 with ee | x2
 ·replace h : some (.error ee) = some r := h
  cases h
  exact ze (FC.go (zl _ _ _ _ _ _ hx) [0, 2, 3, 4] [0, 2, 5, 4] rfl rfl rfl rfl rfl rfl)
 refine qb (AC.g9 (zl _ _ _ _ _ _ hx) [0, 2, 3, 4] [0, 2, 5, 4]) ?_
 refine kr [20, 2000011, 2000013] ?_
 obtain ⟨x3, hx, h⟩ := bind_some h
 rcases x3 with ee | x3
 ·replace h : some (.error ee) = some r := h
  cases h
  exact ze (FCalls.ghost (e := 9) (FCalls.ghost (e := 26) (FCalls.wkg (FC.go (objs := [(0, .var 77 (Reader.cells x2.1)), (1, .var 26 [(.int .i64 0), (.str ⟨#[]⟩), (.sl 0 true []), (.sl 0 true [])]), (2, .var 26 [(.int .i64 (2 : Int)), (.str x2.2.1), (.bs 1 3 6 0 x2.2.2.length), (.bs 4 4 4 0 ([] : LN).length)]), (6, .row 9 (x2.2.2.map sc).flatten), (4, .row 26 (([] : LN).map Node.cells).flatten), (7, .var 26 [(.int .i64 (3 : Int)), (.str ⟨#[]⟩), (.bs 1 6 8 0 ([] : LB).length), (.bs 4 7 9 0 ([] : LN).length)]), (8, .row 9 (([] : LB).map sc).flatten), (9, .row 26 (([] : LN).map Node.cells).flatten)]) (xs := [(.ptr 0 0 0), (.ptr 5 7 0), (.str (⟨#[40]⟩ : BA))]) (qc _ _ _ _ _ _ _ hx) [0, 5, 6, 7] [0, 7, 8, 9] rfl rfl rfl rfl rfl rfl) (qi (qn _) (qi (qn _) (qi (qn _) z6))) (qe (qe (qe (qe (qe (jb (qd (ql _) (qd (ql _) (qd (zg rfl) (qd (zg rfl) js)))) (zt _))))))))))
 refine qb (ACalls.ghost (e := 9) (ACalls.ghost (e := 26) (ACalls.wkg (AC.go (objs := [(0, .var 77 (Reader.cells x2.1)), (1, .var 26 [(.int .i64 0), (.str ⟨#[]⟩), (.sl 0 true []), (.sl 0 true [])]), (2, .var 26 [(.int .i64 (2 : Int)), (.str x2.2.1), (.bs 1 3 6 0 x2.2.2.length), (.bs 4 4 4 0 ([] : LN).length)]), (6, .row 9 (x2.2.2.map sc).flatten), (4, .row 26 (([] : LN).map Node.cells).flatten), (7, .var 26 [(.int .i64 (3 : Int)), (.str ⟨#[]⟩), (.bs 1 6 8 0 ([] : LB).length), (.bs 4 7 9 0 ([] : LN).length)]), (8, .row 9 (([] : LB).map sc).flatten), (9, .row 26 (([] : LN).map Node.cells).flatten)]) (xs := [(.ptr 0 0 0), (.ptr 5 7 0), (.str (⟨#[40]⟩ : BA))]) (qc _ _ _ _ _ _ _ hx) [0, 5, 6, 7] [0, 7, 8, 9] rfl rfl rfl rfl rfl rfl rfl rfl rfl) (qi (qn _) (qi (qn _) (qi (qn _) z6))) (qe (qe (qe (qe (qe (jb (qd (ql _) (qd (ql _) (qd (zg rfl) (qd (zg rfl) js)))) (zt _)))))))))) ?_
 refine kr [20, 2000011, 2000013] ?_
 exact wq (by kernel_rfl) lQ (ve _ _ _ _ _ _ _ _ _ _ h)
def yj (o0 : Reader) (o2_0 : Int) (o2_1 : BA) (o2_2 : LB) (o2_3 : LN) : Option (Except Int (Node × Reader)) :=
 zf (qa o0) (⟨#[102, 110]⟩ : BA) >>= fun x8 =>
 if x8 = true then
  yw (qa o0) >>= fun x9 =>
  match x9 with
  | .error ee => some (.error ee)
  | .ok x9 =>
  zx (qa o2_0) (qa o2_1) (qa o2_2) (qa o2_3) x9.1 >>= fun x10 =>
  yj x9.2 (qa o2_0) (qa o2_1) (qa o2_2) (qa x10)
 else
  qm (qa o0) (qa o2_0) (qa o2_1) (qa o2_2) (qa o2_3) (⟨#[125]⟩ : BA) >>= fun x11 =>
  match x11 with
  | .error ee => some (.error ee)
  | .ok x11 =>
  some (.ok ((Node.mk o2_0 o2_1 x11.2 o2_3), x11.1))
 partial_fixpoint
@[reducible] def Ji (o0 : Reader) (o2_0 : Int) (o2_1 : BA) (o2_2 : LB) (o2_3 : LN) (r : Except Int (Node × Reader)) : Prop :=
  Ok Tryz.prog G tt 29 1 (exq (fun (r : Node × Reader) => Ret Tryz.prog [.cell 2 26] (fun y H => ua Tryz.prog G 1 H y (.agg (zp r.1)) ⟨1, [(0, .var 77 (Reader.cells r.2))]⟩)) (fun e => Zl (flt e)) r) (.again (wu [12] Tryz.f55 0).1 (wu [12] Tryz.f55 0).2 (.n (.ptr 0 0 0) (.n .undef (.n (.ptr 2 2 0) .z .z) .z) (.n (.ptr 1 1 0) .z .z)) 14 [(0, .var 77 (Reader.cells o0)), (1, .var 26 [(.int .i64 0), (.str ⟨#[]⟩), (.sl 0 true []), (.sl 0 true [])]), (2, .var 26 [(.int .i64 o2_0), (.str o2_1), (.bs 1 3 13 0 o2_2.length), (.bs 4 4 12 0 o2_3.length)]), (13, .row 9 (o2_2.map sc).flatten), (12, .row 26 (o2_3.map Node.cells).flatten)])
theorem Qb : PC5 Ji yj := by
 refine yj.partial_correctness Ji (fun yj Qb o0 o2_0 o2_1 o2_2 o2_3 r h => ?_)
 ·unfold qa at h
  refine uz ?_
  refine kr [12] ?_
  obtain ⟨x8, hx, h⟩ := bind_some h
  refine qb (AC.g9 (zi _ _ _ hx) [0] [0]) ?_
  refine kr [12] ?_
  refine qg (fun hb => ?_) (fun hb => ?_)
  ·replace h := qw hb h
   refine kr [12] ?_
   obtain ⟨x9, hx, h⟩ := bind_some h
   rcases x9 with ee | x9
   ·replace h : some (.error ee) = some r := h
    cases h
    exact ze (FC.go (ud _ _ hx) [0] [0] rfl rfl rfl rfl rfl rfl)
   refine qb (AC.g9 (ud _ _ hx) [0] [0]) ?_
   refine kr [12] ?_
   obtain ⟨x10, hx, h⟩ := bind_some h
   refine qb (AC.g9 (zy _ _ _ _ _ _ hx) [2, 3, 4] [2, 13, 12]) ?_
   refine kr [12] ?_
   exact wa (by kernel_rfl) lQ (Qb _ _ _ _ _ _ h)
  ·replace h := qx hb h
   refine kr [12] ?_
   obtain ⟨x11, hx, h⟩ := bind_some h
   rcases x11 with ee | x11
   ·replace h : some (.error ee) = some r := h
    cases h
    exact ze (FC.go (qc _ _ _ _ _ _ _ hx) [0, 2, 3, 4] [0, 2, 13, 12] rfl rfl rfl rfl rfl rfl)
   refine qb (AC.g9 (qc _ _ _ _ _ _ _ hx) [0, 2, 3, 4] [0, 2, 13, 12]) ?_
   refine kr [12] ?_
   cases h
   exact jw env rfl rfl (tS [some 0] (sV (lS (lS lN)) qy) (j3 (ym (qh (qf (zw rfl) rfl) (qh (qf (jr rfl) rfl) (qh (qf (jz zr rfl) rfl) (qh (qf (jz qk rfl) rfl) yl))))) (by simp)))
def kp (o0 : Reader) (o2_0 : Int) (o2_1 : BA) (o2_2 : LB) (o2_3 : LN) (o5 : Node) : Option (Except Int (Node × Reader)) :=
 zx o2_0 o2_1 o2_2 o2_3 o5 >>= fun x6 =>
 qm o0 o2_0 o2_1 o2_2 x6 (⟨#[123]⟩ : BA) >>= fun x7 =>
 match x7 with
 | .error ee => some (.error ee)
 | .ok x7 =>
 yj x7.1 o2_0 o2_1 x7.2 x6
@[reducible] def Wr (o0 : Reader) (o2_0 : Int) (o2_1 : BA) (o2_2 : LB) (o2_3 : LN) (o5 : Node) (r : Except Int (Node × Reader)) : Prop :=
  Ok Tryz.prog G tt 29 1 (exq (fun (r : Node × Reader) => Ret Tryz.prog [.cell 2 26] (fun y H => ua Tryz.prog G 1 H y (.agg (zp r.1)) ⟨1, [(0, .var 77 (Reader.cells r.2))]⟩)) (fun e => Zl (flt e)) r) (.go [] (vc [12] Tryz.f55 12) [] (.n (.ptr 0 0 0) (.n .undef (.n (.ptr 2 2 0) .z .z) .z) (.n (.ptr 1 1 0) (.n (.ptr 5 7 0) .z .z) .z)) 12 [(0, .var 77 (Reader.cells o0)), (1, .var 26 [(.int .i64 0), (.str ⟨#[]⟩), (.sl 0 true []), (.sl 0 true [])]), (2, .var 26 [(.int .i64 o2_0), (.str o2_1), (.bs 1 3 6 0 o2_2.length), (.bs 4 4 4 0 o2_3.length)]), (6, .row 9 (o2_2.map sc).flatten), (4, .row 26 (o2_3.map Node.cells).flatten), (7, .var 26 (zp o5))])
theorem Z6 : PC6 Wr kp := fun o0 o2_0 o2_1 o2_2 o2_3 o5 r h => by
 rw [kp.eq_def] at h
 refine kr [12] ?_
 obtain ⟨x6, hx, h⟩ := bind_some h
 refine qb (AC.g9 (zy _ _ _ _ _ _ hx) [2, 3, 4] [2, 6, 4]) ?_
 refine kr [12] ?_
 obtain ⟨x7, hx, h⟩ := bind_some h
 rcases x7 with ee | x7
 ·replace h : some (.error ee) = some r := h
  cases h
  exact ze (FC.go (qc _ _ _ _ _ _ _ hx) [0, 2, 3, 4] [0, 2, 6, 12] rfl rfl rfl rfl rfl rfl)
 refine qb (AC.g9 (qc _ _ _ _ _ _ _ hx) [0, 2, 3, 4] [0, 2, 6, 12]) ?_
 refine kr [12] ?_
 exact wq (by kernel_rfl) lQ (Qb _ _ _ _ _ _ h)
def wl (a0 : Reader) : Option (Except Int (Node × Reader)) :=
 qm a0 (7 : Int) (⟨#[]⟩) ([] : LB) ([] : LN) (⟨#[99, 108, 97, 115, 115]⟩ : BA) >>= fun x1 =>
 match x1 with
 | .error ee => some (.error ee)
 | .ok x1 =>
 z8 x1.1 (7 : Int) (⟨#[]⟩) x1.2 ([] : LN) >>= fun x2 =>
 match x2 with
 | .error ee => some (.error ee)
 | .ok x2 =>
 zf x2.1 (⟨#[58]⟩ : BA) >>= fun x3 =>
 if x3 = true then
  qm x2.1 (8 : Int) (⟨#[]⟩) ([] : LB) ([] : LN) (⟨#[58]⟩ : BA) >>= fun x4 =>
  match x4 with
  | .error ee => some (.error ee)
  | .ok x4 =>
  z8 x4.1 (8 : Int) (⟨#[]⟩) x4.2 ([] : LN) >>= fun x5 =>
  match x5 with
  | .error ee => some (.error ee)
  | .ok x5 =>
  kp x5.1 (7 : Int) x2.2.1 x2.2.2 ([] : LN) (Node.mk (8 : Int) x5.2.1 x5.2.2 ([] : LN))
 else
  kp x2.1 (7 : Int) x2.2.1 x2.2.2 ([] : LN) (Node.mk (8 : Int) (⟨#[]⟩) ([] : LB) ([] : LN))
@[reducible] def qbs (a0 : Reader) (r : Except Int (Node × Reader)) : Prop :=
  exq (fun (r : Node × Reader) => AC Tryz.prog G 55 [(.ptr 0 0 0)] 1 [(0, .var 77 (Reader.cells a0))] (.agg (zp r.1)) 1 [(0, .var 77 (Reader.cells r.2))]) (fun e => FC Tryz.prog G 55 [(.ptr 0 0 0)] 1 [(0, .var 77 (Reader.cells a0))] (flt e)) r
theorem Yd : PC1 qbs wl := fun a0 r h => by
 rw [wl.eq_def] at h
 refine Z3 (T := tt) (N := 29) (rs := [.cell 2 26]) (fun vs w => by simp) Tryz.func55 rfl rfl rfl (by kernel_rfl) (by kernel_rfl) (zm rfl rfl jk) (qj zd) (fun r => (zo rfl jq)) (fun r => (qj zd)) (fun _ => rfl) (fun _ => rfl) rfl (fun _ => rfl) ?_
 refine kr [12] ?_
 obtain ⟨x1, hx, h⟩ := bind_some h
 rcases x1 with ee | x1
 ·replace h : some (.error ee) = some r := h
  cases h
  exact ze (FCalls.ghost (e := 9) (FCalls.ghost (e := 26) (FCalls.wkg (FC.go (objs := [(0, .var 77 (Reader.cells a0)), (1, .var 26 [(.int .i64 0), (.str ⟨#[]⟩), (.sl 0 true []), (.sl 0 true [])]), (2, .var 26 [(.int .i64 (7 : Int)), (.str ⟨#[]⟩), (.bs 1 3 3 0 ([] : LB).length), (.bs 4 4 4 0 ([] : LN).length)]), (3, .row 9 (([] : LB).map sc).flatten), (4, .row 26 (([] : LN).map Node.cells).flatten)]) (xs := [(.ptr 0 0 0), (.ptr 2 2 0), (.str (⟨#[99, 108, 97, 115, 115]⟩ : BA))]) (qc _ _ _ _ _ _ _ hx) [0, 2, 3, 4] [0, 2, 3, 4] rfl rfl rfl rfl rfl rfl) (qi (qn _) (qi (qn _) (qi (qn _) z6))) (qe (qe (jb (qd (ql _) (qd (ql _) (qd (zg rfl) (qd (zg rfl) js)))) (zt _)))))))
 refine qb (ACalls.ghost (e := 9) (ACalls.ghost (e := 26) (ACalls.wkg (AC.go (objs := [(0, .var 77 (Reader.cells a0)), (1, .var 26 [(.int .i64 0), (.str ⟨#[]⟩), (.sl 0 true []), (.sl 0 true [])]), (2, .var 26 [(.int .i64 (7 : Int)), (.str ⟨#[]⟩), (.bs 1 3 3 0 ([] : LB).length), (.bs 4 4 4 0 ([] : LN).length)]), (3, .row 9 (([] : LB).map sc).flatten), (4, .row 26 (([] : LN).map Node.cells).flatten)]) (xs := [(.ptr 0 0 0), (.ptr 2 2 0), (.str (⟨#[99, 108, 97, 115, 115]⟩ : BA))]) (qc _ _ _ _ _ _ _ hx) [0, 2, 3, 4] [0, 2, 3, 4] rfl rfl rfl rfl rfl rfl rfl rfl rfl) (qi (qn _) (qi (qn _) (qi (qn _) z6))) (qe (qe (jb (qd (ql _) (qd (ql _) (qd (zg rfl) (qd (zg rfl) js)))) (zt _))))))) ?_
 refine kr [12] ?_
 obtain ⟨x2, hx, h⟩ := bind_some h
 rcases x2 with ee | x2
 ·replace h : some (.error ee) = some r := h
  cases h
  exact ze (FC.go (zl _ _ _ _ _ _ hx) [0, 2, 3, 4] [0, 2, 5, 4] rfl rfl rfl rfl rfl rfl)
 refine qb (AC.g9 (zl _ _ _ _ _ _ hx) [0, 2, 3, 4] [0, 2, 5, 4]) ?_
 refine kr [12] ?_
 obtain ⟨x3, hx, h⟩ := bind_some h
 refine qb (AC.g9 (zi _ _ _ hx) [0] [0]) ?_
 refine kr [12] ?_
 refine qg (fun hb => ?_) (fun hb => ?_)
 ·replace h := qw hb h
  refine kr [12] ?_
  obtain ⟨x4, hx, h⟩ := bind_some h
  rcases x4 with ee | x4
  ·replace h : some (.error ee) = some r := h
   cases h
   exact ze (FCalls.ghost (e := 9) (FCalls.ghost (e := 26) (FCalls.wkg (FC.go (objs := [(0, .var 77 (Reader.cells x2.1)), (1, .var 26 [(.int .i64 0), (.str ⟨#[]⟩), (.sl 0 true []), (.sl 0 true [])]), (2, .var 26 [(.int .i64 (7 : Int)), (.str x2.2.1), (.bs 1 3 6 0 x2.2.2.length), (.bs 4 4 4 0 ([] : LN).length)]), (6, .row 9 (x2.2.2.map sc).flatten), (4, .row 26 (([] : LN).map Node.cells).flatten), (7, .var 26 [(.int .i64 (8 : Int)), (.str ⟨#[]⟩), (.bs 1 6 8 0 ([] : LB).length), (.bs 4 7 9 0 ([] : LN).length)]), (8, .row 9 (([] : LB).map sc).flatten), (9, .row 26 (([] : LN).map Node.cells).flatten)]) (xs := [(.ptr 0 0 0), (.ptr 5 7 0), (.str (⟨#[58]⟩ : BA))]) (qc _ _ _ _ _ _ _ hx) [0, 5, 6, 7] [0, 7, 8, 9] rfl rfl rfl rfl rfl rfl) (qi (qn _) (qi (qn _) (qi (qn _) z6))) (qe (qe (qe (qe (qe (jb (qd (ql _) (qd (ql _) (qd (zg rfl) (qd (zg rfl) js)))) (zt _))))))))))
  refine qb (ACalls.ghost (e := 9) (ACalls.ghost (e := 26) (ACalls.wkg (AC.go (objs := [(0, .var 77 (Reader.cells x2.1)), (1, .var 26 [(.int .i64 0), (.str ⟨#[]⟩), (.sl 0 true []), (.sl 0 true [])]), (2, .var 26 [(.int .i64 (7 : Int)), (.str x2.2.1), (.bs 1 3 6 0 x2.2.2.length), (.bs 4 4 4 0 ([] : LN).length)]), (6, .row 9 (x2.2.2.map sc).flatten), (4, .row 26 (([] : LN).map Node.cells).flatten), (7, .var 26 [(.int .i64 (8 : Int)), (.str ⟨#[]⟩), (.bs 1 6 8 0 ([] : LB).length), (.bs 4 7 9 0 ([] : LN).length)]), (8, .row 9 (([] : LB).map sc).flatten), (9, .row 26 (([] : LN).map Node.cells).flatten)]) (xs := [(.ptr 0 0 0), (.ptr 5 7 0), (.str (⟨#[58]⟩ : BA))]) (qc _ _ _ _ _ _ _ hx) [0, 5, 6, 7] [0, 7, 8, 9] rfl rfl rfl rfl rfl rfl rfl rfl rfl) (qi (qn _) (qi (qn _) (qi (qn _) z6))) (qe (qe (qe (qe (qe (jb (qd (ql _) (qd (ql _) (qd (zg rfl) (qd (zg rfl) js)))) (zt _)))))))))) ?_
  refine kr [12] ?_
  obtain ⟨x5, hx, h⟩ := bind_some h
  rcases x5 with ee | x5
  ·replace h : some (.error ee) = some r := h
   cases h
   exact ze (FC.go (zl _ _ _ _ _ _ hx) [0, 5, 6, 7] [0, 7, 10, 9] rfl rfl rfl rfl rfl rfl)
  refine qb (AC.g9 (zl _ _ _ _ _ _ hx) [0, 5, 6, 7] [0, 7, 10, 9]) ?_
  refine kr [12] ?_
  refine Jw 5 2 6 zr rfl rfl rfl rfl rfl rfl ?_
  refine Jw 5 3 7 qk rfl rfl rfl rfl rfl rfl ?_
  exact qz (by kernel_rfl) rfl lQ (Z6 _ _ _ _ _ _ _ h)
 ·replace h := qx hb h
  refine kr [12] ?_
  exact qz (by kernel_rfl) rfl lQ (Z6 _ _ _ _ _ _ _ h)
mutual
def z1 (o0 : Reader) (o2_0 : Int) (o2_1 : BA) (o2_2 : LB) (o2_3 : LN) : Option (Except Int (Node × Reader)) :=
 zn (qa o0) >>= fun x1 =>
 if (!decide (x1.Kind = (4 : Int))) = true then
  zf (qa o0) (⟨#[102, 110]⟩ : BA) >>= fun x2 =>
  if x2 = true then
   yw (qa o0) >>= fun x3 =>
   match x3 with
   | .error ee => some (.error ee)
   | .ok x3 =>
   zx (qa o2_0) (qa o2_1) (qa o2_2) (qa o2_3) x3.1 >>= fun x4 =>
   yi x3.2 (qa o2_0) (qa o2_1) (qa o2_2) (qa x4)
  else
   zf (qa o0) (⟨#[99, 108, 97, 115, 115]⟩ : BA) >>= fun x5 =>
   if x5 = true then
    wl (qa o0) >>= fun x6 =>
    match x6 with
    | .error ee => some (.error ee)
    | .ok x6 =>
    zx (qa o2_0) (qa o2_1) (qa o2_2) (qa o2_3) x6.1 >>= fun x7 =>
    yh x6.2 (qa o2_0) (qa o2_1) (qa o2_2) (qa x7)
   else
    zf (qa o0) (⟨#[99, 111, 110, 115, 116]⟩ : BA) >>= fun x8 =>
    if x8 = true then
     wk (qa o0) (9 : Int) (⟨#[99, 111, 110, 115, 116]⟩ : BA) >>= fun x9 =>
     match x9 with
     | .error ee => some (.error ee)
     | .ok x9 =>
     zx (qa o2_0) (qa o2_1) (qa o2_2) (qa o2_3) x9.1 >>= fun x10 =>
     yx x9.2 (qa o2_0) (qa o2_1) (qa o2_2) (qa x10)
    else
     ja (qa o0) >>= fun x11 =>
     match x11 with
     | .error ee => some (.error ee)
     | .ok x11 =>
     yx (qa o0) (qa o2_0) (qa o2_1) (qa o2_2) (qa o2_3)
 else
  zn (qa o0) >>= fun x12 =>
  app 16 o2_2 ([x12.Lead]) >>= fun x13 =>
  some (.ok ((Node.mk o2_0 o2_1 x13 o2_3), o0))
 partial_fixpoint
def yi (o0 : Reader) (o2_0 : Int) (o2_1 : BA) (o2_2 : LB) (o2_3 : LN) : Option (Except Int (Node × Reader)) :=
 z1 (qa o0) (qa o2_0) (qa o2_1) (qa o2_2) (qa o2_3)
 partial_fixpoint
def yh (o0 : Reader) (o2_0 : Int) (o2_1 : BA) (o2_2 : LB) (o2_3 : LN) : Option (Except Int (Node × Reader)) :=
 yi (qa o0) (qa o2_0) (qa o2_1) (qa o2_2) (qa o2_3)
 partial_fixpoint
def yx (o0 : Reader) (o2_0 : Int) (o2_1 : BA) (o2_2 : LB) (o2_3 : LN) : Option (Except Int (Node × Reader)) :=
 yh (qa o0) (qa o2_0) (qa o2_1) (qa o2_2) (qa o2_3)
 partial_fixpoint
end
@[reducible] def Qj (o0 : Reader) (o2_0 : Int) (o2_1 : BA) (o2_2 : LB) (o2_3 : LN) (r : Except Int (Node × Reader)) : Prop :=
  Ok Tryz.prog G tt 38 1 (exq (fun (r : Node × Reader) => Ret Tryz.prog [.cell 2 26] (fun y H => ua Tryz.prog G 1 H y (.agg (zp r.1)) ⟨1, [(0, .var 77 (Reader.cells r.2))]⟩)) (fun e => Zl (flt e)) r) (.again (wu [11, 17, 23] Tryz.f24 0).1 (wu [11, 17, 23] Tryz.f24 0).2 (.n (.ptr 0 0 0) (.n .undef (.n (.ptr 2 2 0) .z .z) .z) (.n (.ptr 1 1 0) .z .z)) 5 [(0, .var 77 (Reader.cells o0)), (1, .var 26 [(.int .i64 0), (.str ⟨#[]⟩), (.sl 0 true []), (.sl 0 true [])]), (2, .var 26 [(.int .i64 o2_0), (.str o2_1), (.bs 1 3 3 0 o2_2.length), (.bs 4 4 4 0 o2_3.length)]), (3, .row 9 (o2_2.map sc).flatten), (4, .row 26 (o2_3.map Node.cells).flatten)])
@[reducible] def v6 (o0 : Reader) (o2_0 : Int) (o2_1 : BA) (o2_2 : LB) (o2_3 : LN) (r : Except Int (Node × Reader)) : Prop :=
  Ok Tryz.prog G tt 38 1 (exq (fun (r : Node × Reader) => Ret Tryz.prog [.cell 2 26] (fun y H => ua Tryz.prog G 1 H y (.agg (zp r.1)) ⟨1, [(0, .var 77 (Reader.cells r.2))]⟩)) (fun e => Zl (flt e)) r) (.go [] (vc [11, 17, 23] Tryz.f24 11) [] (.n (.ptr 0 0 0) (.n .undef (.n (.ptr 2 2 0) .z .z) .z) (.n (.ptr 1 1 0) .z .z)) 6 [(0, .var 77 (Reader.cells o0)), (1, .var 26 [(.int .i64 0), (.str ⟨#[]⟩), (.sl 0 true []), (.sl 0 true [])]), (2, .var 26 [(.int .i64 o2_0), (.str o2_1), (.bs 1 3 3 0 o2_2.length), (.bs 4 4 5 0 o2_3.length)]), (3, .row 9 (o2_2.map sc).flatten), (5, .row 26 (o2_3.map Node.cells).flatten)])
@[reducible] def vz (o0 : Reader) (o2_0 : Int) (o2_1 : BA) (o2_2 : LB) (o2_3 : LN) (r : Except Int (Node × Reader)) : Prop :=
  Ok Tryz.prog G tt 38 1 (exq (fun (r : Node × Reader) => Ret Tryz.prog [.cell 2 26] (fun y H => ua Tryz.prog G 1 H y (.agg (zp r.1)) ⟨1, [(0, .var 77 (Reader.cells r.2))]⟩)) (fun e => Zl (flt e)) r) (.go [] (vc [11, 17, 23] Tryz.f24 17) [] (.n (.ptr 0 0 0) (.n .undef (.n (.ptr 2 2 0) .z .z) .z) (.n (.ptr 1 1 0) .z .z)) 6 [(0, .var 77 (Reader.cells o0)), (1, .var 26 [(.int .i64 0), (.str ⟨#[]⟩), (.sl 0 true []), (.sl 0 true [])]), (2, .var 26 [(.int .i64 o2_0), (.str o2_1), (.bs 1 3 3 0 o2_2.length), (.bs 4 4 5 0 o2_3.length)]), (3, .row 9 (o2_2.map sc).flatten), (5, .row 26 (o2_3.map Node.cells).flatten)])
@[reducible] def vw (o0 : Reader) (o2_0 : Int) (o2_1 : BA) (o2_2 : LB) (o2_3 : LN) (r : Except Int (Node × Reader)) : Prop :=
  Ok Tryz.prog G tt 38 1 (exq (fun (r : Node × Reader) => Ret Tryz.prog [.cell 2 26] (fun y H => ua Tryz.prog G 1 H y (.agg (zp r.1)) ⟨1, [(0, .var 77 (Reader.cells r.2))]⟩)) (fun e => Zl (flt e)) r) (.go [] (vc [11, 17, 23] Tryz.f24 23) [] (.n (.ptr 0 0 0) (.n .undef (.n (.ptr 2 2 0) .z .z) .z) (.n (.ptr 1 1 0) .z .z)) 6 [(0, .var 77 (Reader.cells o0)), (1, .var 26 [(.int .i64 0), (.str ⟨#[]⟩), (.sl 0 true []), (.sl 0 true [])]), (2, .var 26 [(.int .i64 o2_0), (.str o2_1), (.bs 1 3 3 0 o2_2.length), (.bs 4 4 5 0 o2_3.length)]), (3, .row 9 (o2_2.map sc).flatten), (5, .row 26 (o2_3.map Node.cells).flatten)])
theorem w9 : PC5 Qj z1 ∧ PC5 vw yx ∧ PC5 vz yh ∧ PC5 v6 yi := by
 refine z1.mutual_partial_correctness Qj vw vz v6 (fun yx yh yi Qa ue uf o0 o2_0 o2_1 o2_2 o2_3 r h => ?_) (fun yh ue o0 o2_0 o2_1 o2_2 o2_3 r h => ?_) (fun yi uf o0 o2_0 o2_1 o2_2 o2_3 r h => ?_) (fun z1 Qm o0 o2_0 o2_1 o2_2 o2_3 r h => ?_)
 ·unfold qa at h
  refine uz ?_
  refine kr [11, 17, 23] ?_
  obtain ⟨x1, hx, h⟩ := bind_some h
  refine qb (AC.g9 (zu _ _ hx) [0] [0]) ?_
  refine kr [11, 17, 23] ?_
  refine qg (fun hb => ?_) (fun hb => ?_)
  ·replace h := qw hb h
   refine kr [11, 17, 23] ?_
   obtain ⟨x2, hx, h⟩ := bind_some h
   refine qb (AC.g9 (zi _ _ _ hx) [0] [0]) ?_
   refine kr [11, 17, 23] ?_
   refine qg (fun hb => ?_) (fun hb => ?_)
   ·replace h := qw hb h
    refine kr [11, 17, 23] ?_
    obtain ⟨x3, hx, h⟩ := bind_some h
    rcases x3 with ee | x3
    ·replace h : some (.error ee) = some r := h
     cases h
     exact ze (FC.go (ud _ _ hx) [0] [0] rfl rfl rfl rfl rfl rfl)
    refine qb (AC.g9 (ud _ _ hx) [0] [0]) ?_
    refine kr [11, 17, 23] ?_
    obtain ⟨x4, hx, h⟩ := bind_some h
    refine qb (AC.g9 (zy _ _ _ _ _ _ hx) [2, 3, 4] [2, 3, 4]) ?_
    refine kr [11, 17, 23] ?_
    exact qz (by kernel_rfl) rfl lQ (uf _ _ _ _ _ _ h)
   ·replace h := qx hb h
    refine kr [11, 17, 23] ?_
    obtain ⟨x5, hx, h⟩ := bind_some h
    refine qb (AC.g9 (zi _ _ _ hx) [0] [0]) ?_
    refine kr [11, 17, 23] ?_
    refine qg (fun hb => ?_) (fun hb => ?_)
    ·replace h := qw hb h
     refine kr [11, 17, 23] ?_
     obtain ⟨x6, hx, h⟩ := bind_some h
     rcases x6 with ee | x6
     ·replace h : some (.error ee) = some r := h
      cases h
      exact ze (FC.go (Yd _ _ hx) [0] [0] rfl rfl rfl rfl rfl rfl)
     refine qb (AC.g9 (Yd _ _ hx) [0] [0]) ?_
     refine kr [11, 17, 23] ?_
     obtain ⟨x7, hx, h⟩ := bind_some h
     refine qb (AC.g9 (zy _ _ _ _ _ _ hx) [2, 3, 4] [2, 3, 4]) ?_
     refine kr [11, 17, 23] ?_
     exact qz (by kernel_rfl) rfl lQ (ue _ _ _ _ _ _ h)
    ·replace h := qx hb h
     refine kr [11, 17, 23] ?_
     obtain ⟨x8, hx, h⟩ := bind_some h
     refine qb (AC.g9 (zi _ _ _ hx) [0] [0]) ?_
     refine kr [11, 17, 23] ?_
     refine qg (fun hb => ?_) (fun hb => ?_)
     ·replace h := qw hb h
      refine kr [11, 17, 23] ?_
      obtain ⟨x9, hx, h⟩ := bind_some h
      rcases x9 with ee | x9
      ·replace h : some (.error ee) = some r := h
       cases h
       exact ze (FC.go (vf _ _ _ _ hx) [0] [0] rfl rfl rfl rfl rfl rfl)
      refine qb (AC.g9 (vf _ _ _ _ hx) [0] [0]) ?_
      refine kr [11, 17, 23] ?_
      obtain ⟨x10, hx, h⟩ := bind_some h
      refine qb (AC.g9 (zy _ _ _ _ _ _ hx) [2, 3, 4] [2, 3, 4]) ?_
      refine kr [11, 17, 23] ?_
      exact qz (by kernel_rfl) rfl lQ (Qa _ _ _ _ _ _ h)
     ·replace h := qx hb h
      refine kr [11, 17, 23] ?_
      obtain ⟨x11, hx, h⟩ := bind_some h
      rcases x11 with ee | x11
      ·replace h : some (.error ee) = some r := h
       cases h
       exact ze (FC.go (zq _ _ hx) [0] [0] rfl rfl rfl rfl rfl rfl)
      refine qb (AC.g9 (zq _ _ hx) [0] [0]) ?_
      refine kr [11, 17, 23] ?_
      exact qz (by kernel_rfl) rfl lQ (Qa _ _ _ _ _ _ h)
  ·replace h := qx hb h
   refine kr [11, 17, 23] ?_
   obtain ⟨x12, hx, h⟩ := bind_some h
   refine qb (AC.g9 (zu _ _ hx) [0] [0]) ?_
   refine kr [11, 17, 23] ?_
   obtain ⟨x13, hx, h⟩ := bind_some h
   have hp_x13 := qbh hx (by simp)
   refine W9 (C := sc) env hx rfl rfl (by simp) (fun _ => rfl) rfl rfl rfl rfl rfl (by decide) rfl rfl rfl ?_
   refine kr [11, 17, 23] ?_
   cases h
   exact jw env rfl rfl (tS [some 0] (sV (lS (lS lN)) qy) (j3 (ym (qh (qf (zw rfl) rfl) (qh (qf (jr rfl) rfl) (qh (qf (jz zr rfl) rfl) (qh (qf (jz qk rfl) rfl) yl))))) (by simp)))
 ·unfold qa at h
  refine kr [11, 17, 23] ?_
  exact qz (by kernel_rfl) rfl lQ (ue _ _ _ _ _ _ h)
 ·unfold qa at h
  refine kr [11, 17, 23] ?_
  exact qz (by kernel_rfl) rfl lQ (uf _ _ _ _ _ _ h)
 ·unfold qa at h
  refine kr [11, 17, 23] ?_
  exact wa (by kernel_rfl) lQ (Qm _ _ _ _ _ _ h)
theorem Qm : PC5 Qj z1 := w9.1
theorem Qa : PC5 vw yx := w9.2.1
theorem ue : PC5 vz yh := w9.2.2.1
theorem uf : PC5 v6 yi := w9.2.2.2
def Qr (a0 : Reader) : Option (Except Int (Node × Reader)) :=
 z1 a0 (1 : Int) (⟨#[]⟩) ([] : LB) ([] : LN)
@[reducible] def qcu (a0 : Reader) (r : Except Int (Node × Reader)) : Prop :=
  exq (fun (r : Node × Reader) => AC Tryz.prog G 24 [(.ptr 0 0 0)] 1 [(0, .var 77 (Reader.cells a0))] (.agg (zp r.1)) 1 [(0, .var 77 (Reader.cells r.2))]) (fun e => FC Tryz.prog G 24 [(.ptr 0 0 0)] 1 [(0, .var 77 (Reader.cells a0))] (flt e)) r
theorem Yy : PC1 qcu Qr := fun a0 r h => by
 rw [Qr.eq_def] at h
 refine Z3 (T := tt) (N := 38) (rs := [.cell 2 26]) (fun vs w => by simp) Tryz.func24 rfl rfl rfl (by kernel_rfl) (by kernel_rfl) (zm rfl rfl jk) (qj zd) (fun r => (zo rfl jq)) (fun r => (qj zd)) (fun _ => rfl) (fun _ => rfl) rfl (fun _ => rfl) ?_
 refine kr [11, 17, 23] ?_
 refine qxj 2 2 1 9 rfl rfl rfl ?_
 refine qxj 2 3 4 26 rfl rfl rfl ?_
 exact wq (by kernel_rfl) lQ (Qm _ _ _ _ _ _ h)
def qa9 (a0 : Reader) : Option (Except Int (Node × Reader)) :=
 Qr a0 >>= fun x1 =>
 match x1 with
 | .error ee => some (.error ee)
 | .ok x1 =>
 some (.ok (x1.1, x1.2))
@[reducible] def qvo (a0 : Reader) (r : Except Int (Node × Reader)) : Prop :=
  exq (fun (r : Node × Reader) => AC Tryz.prog G 23 [(.ptr 0 0 0)] 1 [(0, .var 77 (Reader.cells a0))] (.agg (zp r.1)) 1 [(0, .var 77 (Reader.cells r.2))]) (fun e => FC Tryz.prog G 23 [(.ptr 0 0 0)] 1 [(0, .var 77 (Reader.cells a0))] (flt e)) r
theorem qn2 : PC1 qvo qa9 := fun a0 r h => by
 rw [qa9.eq_def] at h
 refine Z3 (T := tt) (N := 5) (rs := [.cell 2 26]) (fun vs w => by simp) Tryz.func23 rfl rfl rfl (by kernel_rfl) (by kernel_rfl) (zm rfl rfl jk) (qj zd) (fun r => (zo rfl jq)) (fun r => (qj zd)) (fun _ => rfl) (fun _ => rfl) rfl (fun _ => rfl) ?_
 refine kr [] ?_
 obtain ⟨x1, hx, h⟩ := bind_some h
 rcases x1 with ee | x1
 ·replace h : some (.error ee) = some r := h
  cases h
  exact ze (FC.go (Yy _ _ hx) [0] [0] rfl rfl rfl rfl rfl rfl)
 refine qb (AC.g9 (Yy _ _ hx) [0] [0]) ?_
 refine kr [] ?_
 cases h
 exact jw env rfl rfl (tS [some 0] (sV (lS (lS lN)) qy) (j3 (ym (qh (qf (zw rfl) rfl) (qh (qf (jr rfl) rfl) (qh (qf (y5 (.inl rfl)) rfl) (qh (qf (y5 (.inl rfl)) rfl) yl))))) (by simp)))
noncomputable def cfst : Code → Code
 | .seq x _ => x
 | c => c
noncomputable def csnd : Code → Code
 | .seq _ y => y
 | c => c
noncomputable def cthen : Code → Code
 | .cond _ x _ => x
 | c => c
/-- The two ways of the deferred closure. -/
theorem q36 (e : Int) (w : World) : (Instr.typeAssert (.iface 74 (.int .i64 e)) 20 74 true).run Tryz.prog w = .ok (.tuple #[.int .i64 e, .bool true]) w := by kernel_rfl
theorem qlr (x y z : Value) (w : World) : CallsD Tryz.prog 50 #[x, y, z] .returning w fun e u' w' => (∃ v, e = .returned v) ∧ u' = .returning ∧ w' = w := by
 refine callsD_of_wpS Tryz.func50 rfl fun c₀ cs hu => ?_
 apply wpS_seq
 apply wpS_region
 simp [wpOpsS, go_sem, recoverD, hu, Tryz.ntmps50, Exit.thenS]
 apply wpS_seq
 apply wpS_region
 simp [wpOpsS, go_sem, Exit.thenS]
 refine wpS_cond (t := false) (by simp [Act.eval, Array.replicate]) ?_
 simp only [Bool.false_eq_true, if_false]
 refine wpS_of_wp (wp_skip ?_)
 cases c₀
 simp_all [bodyPostS, results, Tryz.results50]
def qor : List AV := [.int .i64 0, .str ⟨#[]⟩, .sl 0 true [], .sl 0 true []]
def qls (e : Int) : Objs := [(0, .var 26 qor), (1, .var 27 [.int .i64 1]), (2, .var 3 [.int .i64 e])]
noncomputable def rec5 : Code := csnd (csnd (cthen (csnd (csnd (qds Tryz.f50)))))
theorem qz1 (e c6 : Int) : Ok Tryz.prog G tt 19 3 (Zp (fun _ H => H = ⟨3, qls e⟩) (fun _ _ _ => False)) (.go [(0, .ptr 0 0 0), (1, .ptr 1 1 0), (2, .ptr 2 2 0), (4, .int .i64 e)] [.code rec5] [] .z 3 [(0, .var 26 qor), (1, .var 27 [.int .i64 0]), (2, .var 3 [.int .i64 c6])]) := by
 refine kr [] ?_
 exact qkx rfl
theorem qgb {w : World} {S F : Nat → Prop} {β : Nat → Nat} (e c6 : Int) (hH : HR G w S F β ⟨3, [(0, .var 26 qor), (1, .var 27 [.int .i64 0]), (2, .var 3 [.int .i64 c6])]⟩) :
 CallsD Tryz.prog 50 #[.pointer (some ⟨β 0, 0, none⟩), .pointer (some ⟨β 1, 0, none⟩), .pointer (some ⟨β 2, 0, none⟩)] (.panicking (flt e)) w fun r u' w' =>
  (∃ v, r = .returned v) ∧ settle u' = .returning ∧ ∃ S' β', Ext w S F β 3 w' S' β' 3 ∧ HR G w' S' F β' ⟨3, qls e⟩ := by
 refine callsD_of_wpS Tryz.func50 rfl fun c₀ cs hu => ?_
 have hA := Yc (N := 19) (by kernel_rfl) (qz1 e c6)
 apply wpS_seq
 apply wpS_region
 simp [wpOpsS, go_sem, recoverD, hu, Tryz.ntmps50, Exit.thenS, flt]
 apply wpS_seq
 apply wpS_region
 simp [wpOpsS, go_sem, Exit.thenS]
 refine wpS_cond (t := true) (by simp [Act.eval, Array.replicate]) ?_
 simp only [if_true]
 apply wpS_seq
 apply wpS_region
 simp [wpOpsS, go_sem, Exit.thenS, q36]
 apply wpS_seq
 apply wpS_seq
 apply wpS_region
 simp [wpOpsS, go_sem, Exit.thenS]
 refine wpS_cond (t := false) (by simp [Act.eval, Array.replicate]) ?_
 simp only [Bool.false_eq_true, if_false]
 refine wpS_of_wp (wp_skip ?_)
 show rec5.wpS Tryz.prog _ _ _ _
 refine wpS_of_wp (wp_mono (hA [] w S F β _ (Nat.le_refl _) hH (FRx.of _ (by simp) rfl ?_)) ?_)
 ·intro q hq
  simp only [List.mem_cons, List.not_mem_nil, or_false] at hq
  rcases hq with rfl | rfl | rfl | rfl
  ·simpa using RV.ptr (w := w) (S := S) (β := β) 0 0 0 (by decide)
  ·simpa using RV.ptr (w := w) (S := S) (β := β) 1 1 0 (by decide)
  ·simpa using RV.ptr (w := w) (S := S) (β := β) 2 2 0 (by decide)
  ·simpa using RV.int .i64 e
 ·rintro x a' w' ⟨fr', H', S', β', q, hx, hp, hH', hf'⟩
  cases x with
  | normal =>
    cases (show H' = ⟨3, qls e⟩ from q)
    exact ⟨hf'.defers, _, rfl, .tuple #[], by simp [results, Tryz.results50, go_sem], ⟨_, rfl⟩, rfl, S', β', hx, hH'⟩
  | _ => exact q.elim
abbrev rds : List ResultVar := [.cell 4 26, .cell 5 27, .cell 6 3]
noncomputable def rd0 : Code := cfst (qds Tryz.f22)
noncomputable def rd1 : Code := cfst (csnd (qds Tryz.f22))
noncomputable def rd2 : Code := cfst (csnd (csnd (qds Tryz.f22)))
noncomputable def rd2a : Code := cfst rd2
noncomputable def rd2b : Code := csnd rd2
noncomputable def cops : Code → List Oper
 | .region _ l _ => l.toList
 | _ => []
noncomputable def rdL : List Oper := cops (cfst (cthen rd2b))
theorem quv : rd2 = .seq rd2a (.cond (.tmp 16) (.seq (.region 3 rdL.toArray true) .ret) .skip) := by kernel_rfl
noncomputable def rd3 : Code := cfst (csnd (csnd (csnd (qds Tryz.f22))))
noncomputable def rd4 : Code := csnd (csnd (csnd (csnd (qds Tryz.f22))))
theorem qqm : Tryz.f22.body = some (.seq rd0 (.seq rd1 (.seq rd2 (.seq rd3 rd4)))) := by kernel_rfl
def rdX (x : Node × Int × Int) : AV := .tup [.agg (zp x.1), .int .i64 x.2.1, .int .i64 x.2.2]
abbrev rdR (x : Node × Int × Int) : Exit → Fr → Hp → Prop := Ret Tryz.prog rds (fun z H => Told Tryz.prog G H z (rdX x))
def rdO (e at_ : Int) : Objs := [(0, .var 26 qor), (1, .var 27 [.int .i64 e]), (2, .var 3 [.int .i64 at_])]
theorem qhd {n : Nat} {objs : Objs} (a b : Int) : Told Tryz.prog G ⟨n, objs⟩ (.tup [.agg qor, .int .i64 a, .int .i64 b]) (rdX (Node.mk 0 ⟨#[]⟩ [] [], a, b)) :=
 qfe (qfd (u0 (qzi (qc7 (zw rfl) (qc7 (jr rfl) (qc7 (y5 (.inr rfl)) (qc7 (y5 (.inr rfl)) qxw))))) (u0 (Jk (zw rfl) (by simp)) (u0 (Jk (zw rfl) (by simp)) qc6))))
theorem qih (e : Int) : rdR (Node.mk 0 ⟨#[]⟩ [] [], 1, e) .normal (puts [(4, .ptr 0 0 0), (5, .ptr 1 1 0), (6, .ptr 2 2 0)] (frT .z)) ⟨3, qls e⟩ := by
 have h : Ok Tryz.prog G tt 32 0 (rdR (Node.mk 0 ⟨#[]⟩ [] [], 1, e)) (.go [(4, .ptr 0 0 0), (5, .ptr 1 1 0), (6, .ptr 2 2 0)] [] [] .z 3 (qls e)) := by
  refine kr [] ?_
  exact je env rfl (qhd 1 e)
 unfold Ok at h
 exact h rfl
theorem qlu (e at_ : Int) : AWp Tryz.prog G 32 0 (.seq (.region 3 rdL.toArray true) .ret) (fun x fr H => x = .ret ∧ rdR (Node.mk 0 ⟨#[]⟩ [] [], e, at_) .ret fr H) (puts [(4, .ptr 0 0 0), (5, .ptr 1 1 0), (6, .ptr 2 2 0)] (frT .z)) ⟨3, rdO e at_⟩ := by
 have h : anyS tt G rdL.toArray (fun fr _ objs => qhb tt fr objs rds qfx) [(4, .ptr 0 0 0), (5, .ptr 1 1 0), (6, .ptr 2 2 0)] .z 3 (rdO e at_) = some (List.replicate 15 (.tup [.agg qor, .int .i64 e, .int .i64 at_])) := by kernel_rfl
 refine qia (q3k env (by kernel_rfl) h (fun z hz fr n objs hl => vh (qxp ⟨rfl, ?_⟩)))
 obtain rfl := List.eq_of_mem_replicate hz
 have h := jw (P := Tryz.prog) (G := G) (N := 32) (p := 0) (n := n) (k := []) (K := fun z H => Told Tryz.prog G H z (rdX (Node.mk 0 ⟨#[]⟩ [] [], e, at_))) env rfl hl (qhd _ _)
 unfold Ok at h
 exact h rfl
def qfw (w : World) (S F : Nat → Prop) (β : Nat → Nat) (x : Node × Int × Int) (e : Ending) (w' : World) : Prop :=
 ∃ v, e = .returned v ∧ ∃ S' β', Ext w S F β 0 w' S' β' 0 ∧ HR G w' S' F β' ⟨0, []⟩ ∧ RV w' S' β' 0 (rdX x) v
theorem qz2 (x : Node × Int × Int) : Pure (rdX x) := .tup _ (by
 intro y hy
 simp only [List.mem_cons, List.not_mem_nil, or_false] at hy
 rcases hy with rfl | rfl | rfl
 ·exact .agg _ (by
   intro z hz
   simp only [List.mem_cons, List.not_mem_nil, or_false] at hz
   rcases hz with rfl | rfl | rfl | rfl <;> constructor)
 ·constructor
 ·constructor)
theorem qdf {w w' : World} {S F S' : Nat → Prop} {β β' : Nat → Nat} {D : List Deferred} {fr : Fr} {H : Hp} {a : Act} {x : Node × Int × Int} (q : rdR x .normal fr H) (hx : Ext w S F β 0 w' S' β' 0) (hH : HR G w' S' F β' H) (hf : FRx D w' S' β' H.n 32 fr a) (hG : HR G w S F β ⟨0, []⟩) :
 Leaves Tryz.prog Tryz.f22 a.tmps (qfw w S F β x) [] .returning w' := by
 obtain ⟨z, hz, ht⟩ := q
 unfold Told at ht
 obtain ⟨v, hrun, hR⟩ := qga (P := Tryz.prog) (fn := Tryz.f22) hH hf (show Qf _ Tryz.f22.results.toList fr H = some z from hz)
 obtain ⟨S2, hx2, hl, hR2⟩ := ht w' S' F β' v hH hR
 exact ⟨v, hrun, v, rfl, S2, β', hx.trans hx2, ⟨hl, fun k hk => Nat.lt_of_lt_of_le (hG.ltf k hk) (hx.trans hx2).size, fun g => (hG.glob g).ext (hx.trans hx2), by simp, by simp, by simp⟩, hR2.pure (qz2 x)⟩
theorem Wq {w : World} {S : Nat → Prop} {β : Nat → Nat} {n i s : Nat} {v : Value} (h : RV w S β n (.ptr i s 0) v) : v = .pointer (some ⟨β s, 0, none⟩) := by
 cases h; rfl
/-- What read returns. -/
def Ko (s : BA) : Option (Node × Int × Int) :=
 ww s >>= fun t =>
 if (!decide (t.2.1 = (0 : Int))) = true then some (Node.mk 0 ⟨#[]⟩ [] [], t.2.1, t.2.2)
 else qa9 ⟨t.1, 0⟩ >>= fun x => match x with
  | .error e => some (Node.mk 0 ⟨#[]⟩ [] [], 1, e)
  | .ok x => yp x.1 >>= fun c => if (decide (c = (3 : Int))) = true then some (Node.mk 0 ⟨#[]⟩ [] [], 3, 0) else some (x.1, 0, 0)
/-- The code ahead of the deferred call. -/
def u4 (t : List Token × Int × Int) (fr : Fr) (H : Hp) : Prop := (fr 1 = .fn 23 [] ∧ fr 4 = .ptr 0 0 0 ∧ fr 5 = .ptr 1 1 0 ∧ fr 6 = .ptr 2 2 0 ∧ fr 7 = .sl 4 false (t.1.map Token.cells)) ∧ H = ⟨3, rdO t.2.1 t.2.2⟩
theorem qjl (s : BA) (t : List Token × Int × Int) (ht : ww s = some t) (x : Node × Int × Int) :
 Ok Tryz.prog G tt 32 0 (Zp (fun fr H => fr 16 = .bool (!decide (t.2.1 = (0 : Int))) ∧ u4 t fr H) (rdR x)) (.go (qd5 0 [.str s, .fn 23 []]) [.code rd0, .code rd1, .code rd2a] [] .z 0 []) := by
 refine kr [] ?_
 refine qt (K5 _ _ ht) ?_
 refine kr [] ?_
 exact qkx ⟨rfl, ⟨rfl, rfl, rfl, rfl, rfl⟩, rfl⟩
theorem qji (t : List Token × Int × Int) (x : Node × Int × Int) (hx : (!decide (t.2.1 = (0 : Int))) = true → x = (Node.mk 0 ⟨#[]⟩ [] [], t.2.1, t.2.2)) (fr : Fr) (H : Hp)
 (h : AWp Tryz.prog G 32 0 rd2a (Zp (fun fr H => fr 16 = .bool (!decide (t.2.1 = (0 : Int))) ∧ u4 t fr H) (rdR x)) fr H) : AWp Tryz.prog G 32 0 rd2 (Zp (fun fr H => (!decide (t.2.1 = (0 : Int))) = false ∧ u4 t fr H) (rdR x)) fr H := by
 rw [quv]
 refine qia (h.mono ?_)
 intro e fr H q
 cases e with
 | normal =>
   obtain ⟨hc, hk⟩ := (show _ ∧ _ from q)
   refine vh (qc4 hc (fun hb => ?_) (fun hb => qh9 (vh ⟨hb, hk⟩)))
   obtain ⟨⟨g1, g4, g5, g6, g7⟩, rfl⟩ := hk
   cases hx hb
   refine (qbb (qil [(4, .ptr 0 0 0), (5, .ptr 1 1 0), (6, .ptr 2 2 0)] (by simp [g4, g5, g6])) (qlu t.2.1 t.2.2)).mono ?_
   rintro e fr H ⟨rfl, q⟩
   exact q
 | _ => exact q
theorem qiv (l : List Token) (e : Int) (h : qa9 ⟨l, 0⟩ = some (.error e)) :
 Ok Tryz.prog G tt 32 3 (fun e' fr _ => e' = .panic (flt e) ∧ fr 4 = .ptr 0 0 0 ∧ fr 5 = .ptr 1 1 0 ∧ fr 6 = .ptr 2 2 0) (.go [(1, .fn 23 []), (4, .ptr 0 0 0), (5, .ptr 1 1 0), (6, .ptr 2 2 0), (7, .sl 4 false (l.map Token.cells))] [.code rd4] [] .z 3 []) := by
 refine kr [] ?_
 exact qi0 (FC.go (qn2 _ _ h) [0] [3] rfl rfl rfl rfl rfl rfl) ⟨rfl, rfl, rfl, rfl⟩
theorem qi7 (l : List Token) (e at_ : Int) (r : Node × Reader) (h : qa9 ⟨l, 0⟩ = some (.ok r)) (c : Int) (hc : yp r.1 = some c) (x : Node × Int × Int) (hx : (if (decide (c = (3 : Int))) = true then some (Node.mk 0 ⟨#[]⟩ [] [], 3, 0) else some (r.1, 0, 0)) = some x) :
 Ok Tryz.prog G tt 32 0 (rdR x) (.go [(1, .fn 23 []), (4, .ptr 0 0 0), (5, .ptr 1 1 0), (6, .ptr 2 2 0), (7, .sl 4 false (l.map Token.cells))] [.code rd4] [] .z 3 (rdO e at_)) := by
 refine kr [] ?_
 refine qb (AC.g9 (qn2 _ _ h) [3] [3]) ?_
 refine kr [] ?_
 refine qt (Q2 _ _ hc) ?_
 refine kr [] ?_
 refine qg (fun hb => ?_) (fun hb => ?_)
 ·rw [if_pos hb] at hx
  cases hx
  refine kr [] ?_
  exact jw env rfl rfl (qhd _ _)
 ·rw [if_neg (by rw [hb]; decide)] at hx
  cases hx
  refine kr [] ?_
  exact jw env rfl rfl (zj rfl)
theorem qjf (s : BA) (x : Node × Int × Int) (h : Ko s = some x) : ACalls Tryz.prog G 22 [.str s, .fn 23 []] ⟨0, []⟩ (rdX x) ⟨0, []⟩ := by
 obtain ⟨t, ht, h⟩ := bind_some h
 intro w S F β vs hH hv
 rw [show (callFunc 22 vs).run Tryz.prog w = .ok (.enter 22 vs) w by simp]
 show Calls Tryz.prog 22 vs w (qfw w S F β x)
 refine calls_of_wp_defers Tryz.func22 qqm ?_
 have hA := Yc (N := 32) (by kernel_rfl) (qjl s t ht x)
 rw [Yw] at hA
 have hf := qch (N := 32) hv (Nat.le_of_ble_eq_true rfl)
 have fin : ∀ (e : Exit) (fr' : Fr) (H' : Hp) (w' : World) (S' : Nat → Prop) (β' : Nat → Nat) (a' : Act), rdR x e fr' H' → Ext w S F β 0 w' S' β' 0 → HR G w' S' F β' H' → FRx [] w' S' β' H'.n 32 fr' a' → bodyPostD Tryz.prog Tryz.f22 (qfw w S F β x) e a' w' := by
  intro e fr' H' w' S' β' a' q hx hH' hf'
  have hl := fun q => qdf (x := x) q hx hH' hf' hH
  cases e <;> first
   | exact q.elim
   | (show Leaves _ _ _ _ a'.defers _ _; rw [hf'.defers]; exact hl q)
 refine Y1 hA (Nat.zero_le _) hH hf (fun fr1 H1 w1 S1 β1 a1 q1 hx1 _ hH1 hf1 => ?_) (fun e fr' H' w' S' β' a' he q hx _ hH' hf' => fin e fr' H' w' S' β' a' (K9 he (qvi he q)) hx hH' hf')
 refine Y1 q1 (Nat.zero_le _) hH1 hf1 (fun fr2 H2 w2 S2 β2 a2 q2 hx2 _ hH2 hf2 => ?_) (fun e fr' H' w' S' β' a' he q hx _ hH' hf' => fin e fr' H' w' S' β' a' (K9 he q) (hx1.trans hx) hH' hf')
 refine Y1 (qji t x (fun hb => by rw [if_pos hb] at h; cases h; rfl) fr2 H2 q2) (Nat.zero_le _) hH2 hf2 (fun fr3 H3 w3 S3 β3 a3 q3 hx3 _ hH3 hf3 => ?_) (fun e fr' H' w' S' β' a' he q hx _ hH' hf' => fin e fr' H' w' S' β' a' q ((hx1.trans hx2).trans hx) hH' hf')
 obtain ⟨hb, ⟨g1, g4, g5, g6, g7⟩, rfl⟩ := (show _ ∧ _ ∧ _ from q3)
 have hx0 := (hx1.trans hx2).trans hx3
 rw [if_neg (by rw [hb]; decide)] at h
 obtain ⟨r, hr, h⟩ := bind_some h
 refine wp_seq ?_
 refine qde (u := 20) (f := 50) (cs := #[.tmp 4, .tmp 5, .tmp 6]) (by rw [hf3.size]; decide) ?_
 have e4 := Wq (g4 ▸ hf3.val 4)
 have e5 := Wq (g5 ▸ hf3.val 5)
 have e6 := Wq (g6 ▸ hf3.val 6)
 have hcs : (#[Operand.tmp 4, .tmp 5, .tmp 6] : Array Operand).map a3.eval = #[.pointer (some ⟨β3 0, 0, none⟩), .pointer (some ⟨β3 1, 0, none⟩), .pointer (some ⟨β3 2, 0, none⟩)] := by
  simp [Act.eval, e4, e5, e6]
 rw [hcs]
 have hf3' := hf3.put (d := some 20) rfl (RV.undef (w := w3) (S := S3) (β := β3) (n := 3) (.func (.func 50) #[] #[.pointer (some ⟨β3 0, 0, none⟩), .pointer (some ⟨β3 1, 0, none⟩), .pointer (some ⟨β3 2, 0, none⟩)]))
 have hq := hf3'.some [(1, .fn 23 []), (4, .ptr 0 0 0), (5, .ptr 1 1 0), (6, .ptr 2 2 0), (7, .sl 4 false (t.1.map Token.cells))] (by simp [vi, g1, g4, g5, g6, g7])
 generalize hd : a3.defers = d3 at *
 have hd3 : d3 = [] := by rw [← hd]; exact hf3.defers
 subst hd3
 have hf4 := FRx.of (a := ⟨a3.tmps.setIfInBounds 20 (.func (.func 50) #[] #[.pointer (some ⟨β3 0, 0, none⟩), .pointer (some ⟨β3 1, 0, none⟩), .pointer (some ⟨β3 2, 0, none⟩)]), [{ target := .fn (.func 50) #[.pointer (some ⟨β3 0, 0, none⟩), .pointer (some ⟨β3 1, 0, none⟩), .pointer (some ⟨β3 2, 0, none⟩)], args := #[] }]⟩) _ hf3'.size rfl hq
 show rd4.wp _ _ _ _
 cases r with
 | error e =>
   cases h
   have hB := Yc (N := 32) (by kernel_rfl) (qiv t.1 e hr)
   refine wp_mono (hB _ w3 S3 _ β3 _ (Nat.le_refl _) hH3.hide hf4) ?_
   rintro e' a' w' ⟨fr', H', S', β', ⟨rfl, k4, k5, k6⟩, hx, hp, hH', hf'⟩
   obtain ⟨hx', hH''⟩ := hH3.unhide hx hH'.lts
   show Leaves _ _ _ _ a'.defers _ _
   rw [hf'.defers]
   refine leaves_cons (f := 50) (args := #[.pointer (some ⟨β3 0, 0, none⟩), .pointer (some ⟨β3 1, 0, none⟩), .pointer (some ⟨β3 2, 0, none⟩)]) (by simp) (by simp [go_sem]) ?_
   have hc := qgb e t.2.2 (show HR G w' S' F β' ⟨3, rdO 0 t.2.2⟩ by
    have h0 : t.2.1 = 0 := by simpa using hb
    rw [← h0]; exact hH'')
   rw [hx'.beta 0 (show 0 < 3 by decide), hx'.beta 1 (show 1 < 3 by decide), hx'.beta 2 (show 2 < 3 by decide)] at hc
   refine hc.mono ?_
   rintro r u' w'' ⟨⟨v, rfl⟩, hs, S'', β'', hx'', hH3''⟩
   show Leaves _ _ _ _ [] (settle u') w''
   rw [hs]
   refine qdf (D := a'.defers) (a := a') (qih e) (hx0.trans ((hx'.trans hx'').lower (Nat.zero_le _))) hH3'' (FRx.of _ hf'.size rfl ?_) hH
   intro q hm
   simp only [List.mem_cons, List.not_mem_nil, or_false] at hm
   have hv : ∀ (i s : Nat) (t : Nat), s < 3 → fr' t = .ptr i s 0 → RV w'' S'' β'' 3 (.ptr i s 0) (a'.tmps.getD t Go.undef) := fun i s t hs3 ht => by
    have h1 := hf'.val t
    rw [ht] at h1
    rw [Wq h1, ← hx''.beta s hs3]
    exact .ptr i s 0 hs3
   rcases hm with rfl | rfl | rfl
   ·exact hv _ _ _ (by decide) k4
   ·exact hv _ _ _ (by decide) k5
   ·exact hv _ _ _ (by decide) k6
 | ok r =>
   obtain ⟨c, hc, h⟩ := bind_some h
   have hB := Yc (N := 32) (by kernel_rfl) (qi7 t.1 t.2.1 t.2.2 r hr c hc x h)
   refine wp_mono (hB _ w3 S3 F β3 _ (Nat.zero_le _) hH3 hf4) ?_
   rintro e' a' w' ⟨fr', H', S', β', q, hx, hp, hH', hf'⟩
   have hl : rdR x .normal fr' H' → Leaves Tryz.prog Tryz.f22 a'.tmps (qfw w S F β x) a'.defers .returning w' := fun q => by
    rw [hf'.defers]
    refine leaves_cons (f := 50) (args := #[.pointer (some ⟨β3 0, 0, none⟩), .pointer (some ⟨β3 1, 0, none⟩), .pointer (some ⟨β3 2, 0, none⟩)]) (by simp) (by simp [go_sem]) ?_
    refine (qlr _ _ _ w').mono ?_
    rintro r u' w'' ⟨⟨v, rfl⟩, rfl, rfl⟩
    exact qdf q (hx0.trans hx) hH' hf' hH
   cases e' <;> first
    | exact q.elim
    | exact hl q
theorem qja : PC1 (fun (s : BA) (x : Node × Int × Int) => AC Tryz.prog G 22 [.str s, .fn 23 []] 0 [] (.tup [.agg (zp x.1), .int .i64 x.2.1, .int .i64 x.2.2]) 0 []) Ko := fun s x h => AC.plain (qjf s x h) rfl rfl
/-- END OF READ -/
def Zy (a0 : BA) : Option (Node × Int × Int) :=
 Ko a0 >>= fun x1 =>
 some (x1.1, x1.2.1, x1.2.2)
@[reducible] def qnr (a0 : BA) (r : Node × Int × Int) : Prop :=
  Fn Tryz.prog G 9 [(.str a0)] (.tup [(.agg (zp r.1)), (.int .i64 r.2.1), (.int .i64 r.2.2)])
theorem qa1 : PC1 qnr Zy := fun a0 r h => by
 rw [Zy.eq_def] at h
 refine ji (T := tt) (N := 10) (rs := [.cell 2 26, .tmp 3, .tmp 4]) (fun vs w => by simp) Tryz.func9 rfl rfl rfl rfl (by kernel_rfl) (kw rfl) (jv _ rfl) ?_
 refine kr [] ?_
 obtain ⟨x1, hx, h⟩ := bind_some h
 refine qb (AC.g9 (qja _ _ hx) [] []) ?_
 refine kr [] ?_
 cases h
 exact kf
def J2 (a0 : Reader) : Option (Except Int (Node × Reader)) :=
 q7 a0 (1 : Int) >>= fun x1 =>
 match x1 with
 | .error ee => some (.error ee)
 | .ok x1 =>
 some (.ok (x1.1, x1.2))
@[reducible] def qgy (a0 : Reader) (r : Except Int (Node × Reader)) : Prop :=
  exq (fun (r : Node × Reader) => AC Tryz.prog G 30 [(.ptr 0 0 0)] 1 [(0, .var 77 (Reader.cells a0))] (.agg (zp r.1)) 1 [(0, .var 77 (Reader.cells r.2))]) (fun e => FC Tryz.prog G 30 [(.ptr 0 0 0)] 1 [(0, .var 77 (Reader.cells a0))] (flt e)) r
theorem qa2 : PC1 qgy J2 := fun a0 r h => by
 rw [J2.eq_def] at h
 refine Z3 (T := tt) (N := 5) (rs := [.cell 2 26]) (fun vs w => by simp) Tryz.func30 rfl rfl rfl (by kernel_rfl) (by kernel_rfl) (zm rfl rfl jk) (qj zd) (fun r => (zo rfl jq)) (fun r => (qj zd)) (fun _ => rfl) (fun _ => rfl) rfl (fun _ => rfl) ?_
 refine kr [] ?_
 obtain ⟨x1, hx, h⟩ := bind_some h
 rcases x1 with ee | x1
 ·replace h : some (.error ee) = some r := h
  cases h
  exact ze (FC.go (qu _ _ _ hx) [0] [0] rfl rfl rfl rfl rfl rfl)
 refine qb (AC.g9 (qu _ _ _ hx) [0] [0]) ?_
 refine kr [] ?_
 cases h
 exact jw env rfl rfl (tS [some 0] (sV (lS (lS lN)) qy) (j3 (ym (qh (qf (zw rfl) rfl) (qh (qf (jr rfl) rfl) (qh (qf (y5 (.inl rfl)) rfl) (qh (qf (y5 (.inl rfl)) rfl) yl))))) (by simp)))
def Ks (o0 : Reader) (o2 : Node) : Option (Except Int (Node × Reader)) :=
 some (.ok (o2, o0))
end Go.Proofs.YtigmilhpeodhbaaGreatDoorW.Ex.Gr
