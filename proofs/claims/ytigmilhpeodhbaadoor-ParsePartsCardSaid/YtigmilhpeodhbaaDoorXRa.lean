/- The functions of the program's layer 9 and of its references, printed as functions on numbers, strings, lists and trees, with the proofs that they are what the code computes. Conditions: those in each theorem. -/
import Derived.Test.YtigmilhpeodhbaaDoorGh
import Derived.Test.YtigmilhpeodhbaaDoorYa
import Derived.Test.YtigmilhpeodhbaaDoorExZ
import Derived.Test.YtigmilhpeodhbaaDoorExF
import Derived.Test.YtigmilhpeodhbaaDoorT0
namespace Go.Proofs.YtigmilhpeodhbaaDoorW.Ex.Gr
open Go Go.Proofs.YtigmilhpeodhbaaDoorW.Ex
set_option linter.all false
set_option maxRecDepth 100000
set_option synthInstance.maxSize 4000
set_option maxHeartbeats 4000000
open Go.Proofs.YtigmilhpeodhbaaDoorW.Plain
structure Token where
 Kind : Int
 Lead : ByteArray
 Text : ByteArray
 At : Int
def Token.cells (x : Token) : List AV := [(.int .i64 x.Kind), (.str x.Lead), (.str x.Text), (.int .i64 x.At)]
theorem Yj : CellsOk Token.cells 4 := ⟨fun _ => rfl, by decide, fun a z hz => by
 simp only [Token.cells, List.mem_cons, List.not_mem_nil, or_false] at hz
 rcases hz with rfl | rfl | rfl | rfl <;> exact ⟨rfl, rfl⟩⟩
structure Reader where
 l_ : (List Token)
 at_ : Int
def Reader.cells (x : Reader) : List AV := [(.sl 4 false (x.l_.map Token.cells)), (.int .i64 x.at_)]
@[reducible] def PC0 {R : Type} (M : R → Prop) (F : Option R) : Prop := ∀ r, F = some r → M r
@[reducible] def PC1 {A0 R : Type} (M : A0 → R → Prop) (F : A0 → Option R) : Prop := ∀ a0 r, F a0 = some r → M a0 r
@[reducible] def PC2 {A0 A1 R : Type} (M : A0 → A1 → R → Prop) (F : A0 → A1 → Option R) : Prop := ∀ a0 a1 r, F a0 a1 = some r → M a0 a1 r
@[reducible] def PC3 {A0 A1 A2 R : Type} (M : A0 → A1 → A2 → R → Prop) (F : A0 → A1 → A2 → Option R) : Prop := ∀ a0 a1 a2 r, F a0 a1 a2 = some r → M a0 a1 a2 r
@[reducible] def PC5 {A0 A1 A2 A3 A4 R : Type} (M : A0 → A1 → A2 → A3 → A4 → R → Prop) (F : A0 → A1 → A2 → A3 → A4 → Option R) : Prop := ∀ a0 a1 a2 a3 a4 r, F a0 a1 a2 a3 a4 = some r → M a0 a1 a2 a3 a4 r
@[reducible] def PC6 {A0 A1 A2 A3 A4 A5 R : Type} (M : A0 → A1 → A2 → A3 → A4 → A5 → R → Prop) (F : A0 → A1 → A2 → A3 → A4 → A5 → Option R) : Prop := ∀ a0 a1 a2 a3 a4 a5 r, F a0 a1 a2 a3 a4 a5 = some r → M a0 a1 a2 a3 a4 a5 r
@[reducible] def PC9 {A0 A1 A2 A3 A4 A5 A6 A7 A8 R : Type} (M : A0 → A1 → A2 → A3 → A4 → A5 → A6 → A7 → A8 → R → Prop) (F : A0 → A1 → A2 → A3 → A4 → A5 → A6 → A7 → A8 → Option R) : Prop := ∀ a0 a1 a2 a3 a4 a5 a6 a7 a8 r, F a0 a1 a2 a3 a4 a5 a6 a7 a8 = some r → M a0 a1 a2 a3 a4 a5 a6 a7 a8 r
theorem Node.cells_eq (n : Node) : n.cells = zu n := Go.Proofs.YtigmilhpeodhbaaDoorW.Ex.Gr.cells_eq n
theorem Node.cells_len (n : Node) : n.cells.length = 4 := by rw [Node.cells_eq]; rfl
theorem zl : CellsOk Node.cells 4 := ⟨Node.cells_len, by decide, fun n z hz => by
 rw [Node.cells_eq] at hz
 simp only [List.mem_cons, List.not_mem_nil, or_false] at hz
 rcases hz with rfl | rfl | rfl | rfl <;> exact ⟨rfl, rfl⟩⟩
mutual
def wfB : Node → Bool
 | .mk _ t g l => decide (l.length ≤ 9223372036854775807) && decide (g.length ≤ 9223372036854775807) && decide (t.size ≤ 9223372036854775807) && g.all (fun s => decide (s.size ≤ 9223372036854775807)) && wfBL l
def wfBL : List Node → Bool
 | [] => true
 | n :: l => wfB n && wfBL l
end
mutual
theorem qvl : ∀ n : Node, wfB n = true → Wf n
 | .mk k t g l, h => by
   simp only [wfB, Bool.and_eq_true, decide_eq_true_eq, List.all_eq_true] at h
   exact .mk _ h.1.1.1.1 h.1.1.1.2 h.1.1.2 h.1.2 (qr0 l h.2)
theorem qr0 : ∀ l : List Node, wfBL l = true → ∀ m ∈ l, Wf m
 | [], _, m, hm => by cases hm
 | n :: l, h, m, hm => by
   simp only [wfBL, Bool.and_eq_true] at h
   rcases List.mem_cons.1 hm with e | hm
   ·rw [e]; exact qvl n h.1
   exact qr0 l h.2 m hm
end
def kt (n : Node) : Option Int := if wfB n = true then some (checkErr n) else none
theorem Yn (n : Node) (r : Int) (h : kt n = some r) : Fn Tryd.prog G 33 [.agg (zu n)] (.int .i64 r) := by
 unfold kt at h
 split at h
 ·rename_i hc; cases h; exact qk0 n (qvl n hc)
 cases h
def yd (s : ByteArray) (c : Int) : Option Int := some (Lib.indexByte s.data.toList c.toNat.toUInt8)
theorem yr (s : ByteArray) (c : Int) (r : Int) (h : yd s c = some r) : Fn Tryd.prog G 59 [.str s, .int .u8 c] (.int .i64 r) := by
 cases h; exact Wl s c
def Z2 (s : ByteArray) (a : Int) : Option Int := if s.size ≤ 9223372036854775807 then some (qj1 s a) else none
theorem qkm (s : ByteArray) (a : Int) (r : Int) (h : Z2 s a = some r) : Fn Tryd.prog G 41 [.str s, .int .i64 a] (.int .i64 r) := by
 unfold Z2 at h
 split at h
 ·rename_i hc; cases h; exact qin s a hc
 cases h
def Jn (s : ByteArray) : Option Bool := if s.size ≤ 281474976710656 then some (J4 s.data.toList) else none
theorem qfx (s : ByteArray) (r : Bool) (h : Jn s = some r) : Fn Tryd.prog G 50 [.str s] (.bool r) := by
 unfold Jn at h
 split at h
 ·rename_i hc; cases h; exact qkw s hc
 cases h
def Ys (s : ByteArray) : Option Bool := some (u1 s.data.toList)
theorem qcz (s : ByteArray) (r : Bool) (h : Ys s = some r) : Fn Tryd.prog G 29 [.str s] (.bool r) := by
 cases h; exact qi9 s
def flt (e : Int) : List PanicEntry := [{ v := .iface 52 (.int .i64 e), recovered := false }]
abbrev LB := List ByteArray
abbrev LN := List Node
section
variable {ps : List (Nat × AV)} {k : List Item} {kn : List Nat} {fr fr' : FT} {n n' N p m m' r n2 : Nat} {objs objs' objs2 O O' : Objs} {Q : Exit → Fr → Hp → Prop} {ρ : Nat → Nat}
theorem kr (bars : List Nat) {c : Cfg} (hc : Ok Tryd.prog G tt N p Q c) (h : runK tt G bars 2000 ps k kn fr n objs = some c := by exact rfl) : Ok Tryd.prog G tt N p Q (.go ps k kn fr n objs) := qzw env bars h hc
theorem kf {rs : List ResultVar} {y : AV} (hk : qdo k = true := by exact rfl) (h : qez tt fr objs rs qdn = some y := by exact rfl) : Ok Tryd.prog G tt N p (Ret Tryd.prog rs (fun z H => Told Tryd.prog G H z y)) (.fin .ret k fr n objs) := yc env hk h (za rfl)
theorem lN : leC ρ m [] [] := qy2
theorem lS {v u : AV} {vs us : List AV} (hs : leC ρ m vs us) (h : v = u.ren1 ρ := by exact rfl) (hu : u.un1 m = true := by exact rfl) : leC ρ m (v :: vs) (u :: us) := qwy h hu hs
theorem sV {i s' : Nat} {e : TypeId} {cs cs' : List AV} {l : List (Option Nat)} (hc : leC ρ m cs cs') (h : Yw ρ m objs l O') (ho : objs[i]? = some (ρ s', .var e cs) := by exact rfl) (hb : Nat.blt s' m = true := by exact rfl) : Yw ρ m objs (some i :: l) ((s', .var e cs') :: O') := quk ho hb hc h
theorem sR {α : Type} {C : α → List AV} {sz i s' : Nat} {e : TypeId} {x : List α} {l : List (Option Nat)} (hC : CellsOk C sz) (h : Yw ρ m objs l O') (ho : objs[i]? = some (ρ s', .row e (x.map C).flatten) := by exact rfl) (hb : Nat.blt s' m = true := by exact rfl) : Yw ρ m objs (some i :: l) ((s', .row e (x.map C).flatten) :: O') := qul hC ho hb h
theorem tS {x y : AV} (sel : List (Option Nat)) (ho : Yw (rhoS objs sel O') m' objs sel O') (hx : resT objs' (rhoS objs sel O') m' y x) (hd : qe7 (sel.filterMap id) 0 objs some = some objs' := by exact rfl) (hn : qq6 sel = true := by exact rfl) (hid : (List.range m).all (fun s => Nat.beq (rhoS objs sel O' s) s) = true := by exact rfl) (hle : Nat.ble m m' = true := by exact rfl) : Qt Tryd.prog G m ⟨n, objs⟩ y x ⟨m', O'⟩ := qqs sel hd hn hid hle ho hx
theorem lA (hf : leFT (rho objs' objs) n' fr fr' := by first | (simp [Reader.cells] <;> (repeat' apply And.intro) <;> first | rfl | exact fun x a _ h => (zl.all a x h).2 | exact fun x a _ h => (c8_ok.all a x h).2 | exact fun x a _ h => (kp.all a x h).2 | exact fun x a _ h => (qhf.all a x h).2 | exact fun x a _ h => (Yj.all a x h).2) | (simp [Reader.cells, Token.cells] <;> (repeat' apply And.intro) <;> first | rfl | exact fun x a _ h => (zl.all a x h).2 | exact fun x a _ h => (c8_ok.all a x h).2 | exact fun x a _ h => (kp.all a x h).2 | exact fun x a _ h => (qhf.all a x h).2 | exact fun x a _ h => (Yj.all a x h).2)) (ho : leOs (rho objs' objs) n' objs objs' := by first | (simp [Reader.cells] <;> (repeat' apply And.intro) <;> first | rfl | exact fun x a _ h => (zl.all a x h).2 | exact fun x a _ h => (c8_ok.all a x h).2 | exact fun x a _ h => (kp.all a x h).2 | exact fun x a _ h => (qhf.all a x h).2 | exact fun x a _ h => (Yj.all a x h).2) | (simp [Reader.cells, Token.cells] <;> (repeat' apply And.intro) <;> first | rfl | exact fun x a _ h => (zl.all a x h).2 | exact fun x a _ h => (c8_ok.all a x h).2 | exact fun x a _ h => (kp.all a x h).2 | exact fun x a _ h => (qhf.all a x h).2 | exact fun x a _ h => (Yj.all a x h).2)) : Less G N 0 (frT fr) ⟨n, objs⟩ (frT fr') ⟨n', objs'⟩ := qyz hf ho
theorem lQ (hf : leFT (rho objs' objs) n' fr fr' := by first | (simp [Reader.cells] <;> (repeat' apply And.intro) <;> first | rfl | exact fun x a _ h => (zl.all a x h).2 | exact fun x a _ h => (c8_ok.all a x h).2 | exact fun x a _ h => (kp.all a x h).2 | exact fun x a _ h => (qhf.all a x h).2 | exact fun x a _ h => (Yj.all a x h).2) | (simp [Reader.cells, Token.cells] <;> (repeat' apply And.intro) <;> first | rfl | exact fun x a _ h => (zl.all a x h).2 | exact fun x a _ h => (c8_ok.all a x h).2 | exact fun x a _ h => (kp.all a x h).2 | exact fun x a _ h => (qhf.all a x h).2 | exact fun x a _ h => (Yj.all a x h).2)) (ho : leOs (rho objs' objs) n' objs objs' := by first | (simp [Reader.cells] <;> (repeat' apply And.intro) <;> first | rfl | exact fun x a _ h => (zl.all a x h).2 | exact fun x a _ h => (c8_ok.all a x h).2 | exact fun x a _ h => (kp.all a x h).2 | exact fun x a _ h => (qhf.all a x h).2 | exact fun x a _ h => (Yj.all a x h).2) | (simp [Reader.cells, Token.cells] <;> (repeat' apply And.intro) <;> first | rfl | exact fun x a _ h => (zl.all a x h).2 | exact fun x a _ h => (c8_ok.all a x h).2 | exact fun x a _ h => (kp.all a x h).2 | exact fun x a _ h => (qhf.all a x h).2 | exact fun x a _ h => (Yj.all a x h).2)) (hid : ∀ s, s < p → rho objs' objs s = s := by exact qw9 rfl) (hp : p ≤ n' := by exact Nat.le_of_ble_eq_true rfl) : Less G N p (frT fr) ⟨n, objs⟩ (frT fr') ⟨n', objs'⟩ := qwu hid hp hf ho
theorem AC.g9 {f : FuncId} {xs xs0 : List AV} {x y : AV} (h : AC Tryd.prog G f xs0 r O x m' O') (ids st : List Nat) (hnd : decide ids.Nodup = true := by exact rfl) (hids : ids.length = O.length := by exact rfl) (hst : st.length = r := by exact rfl) (hstn : st.all (fun s => Nat.blt s n) = true := by exact rfl)
 (hxs : xs0.map (AV.mv (fun j => ids.getD j 0) (fun s => st.getD s 0)) = xs := by exact rfl) (hg : qbk ids objs = some (O.map fun q => (st.getD q.1 0, q.2.mvR (fun j => ids.getD j 0) (fun s => st.getD s 0))) := by exact rfl)
 (hy : qd7 (x.mv (fun j => ids.getD j 0) (Wp (fun s => st.getD s 0) r n)) some = some y := by exact rfl) (hs : qex ids (O'.map fun q => (Wp (fun s => st.getD s 0) r n q.1, q.2.mvR (fun j => ids.getD j 0) (Wp (fun s => st.getD s 0) r n))) objs some = some objs2 := by exact rfl) (hn : Z8 (n + (m' - r)) some = some n2 := by exact rfl) : ACalls Tryd.prog G f xs ⟨n, objs⟩ y ⟨n2, objs2⟩ := AC.go h ids st hnd hids hst hstn hxs hg hy hs hn
end
def yj  : Option Int :=
 some (0 : Int)
@[reducible] def qek  (r : Int) : Prop :=
  Ok Tryd.prog G tt 29 0 (Ret Tryd.prog [.tmp 2] (fun y H => Told Tryd.prog G H y (.int .i64 r))) (.go [] (Zu [3] Tryd.f48 3) [] .z 0 [])
theorem kq : PC0 qek yj := fun  r h => by
 rw [yj.eq_def] at h
 refine kr [3] ?_
 cases h
 exact kf
def Qr (a0 : Int) : Option Int :=
 if (decide ((48 : Int) ≤ a0)) = true then
  if (decide (a0 ≤ (57 : Int))) = true then
   some (1 : Int)
  else
   if (decide ((97 : Int) ≤ a0)) = true then
    if (decide (a0 ≤ (122 : Int))) = true then
     some (2 : Int)
    else
     if (decide ((65 : Int) ≤ a0)) = true then
      if (decide (a0 ≤ (90 : Int))) = true then
       some (2 : Int)
      else
       if (decide (a0 = (95 : Int))) = true then
        some (2 : Int)
       else
        yd (⟨#[40, 41, 123, 125, 44, 59, 58, 46, 61, 60, 43, 45, 42, 47, 33, 38, 124]⟩ : BA) a0 >>= fun x1 =>
        if (decide ((0 : Int) ≤ x1)) = true then
         some (3 : Int)
        else
         yj 
     else
      if (decide (a0 = (95 : Int))) = true then
       some (2 : Int)
      else
       yd (⟨#[40, 41, 123, 125, 44, 59, 58, 46, 61, 60, 43, 45, 42, 47, 33, 38, 124]⟩ : BA) a0 >>= fun x2 =>
       if (decide ((0 : Int) ≤ x2)) = true then
        some (3 : Int)
       else
        yj 
   else
    if (decide ((65 : Int) ≤ a0)) = true then
     if (decide (a0 ≤ (90 : Int))) = true then
      some (2 : Int)
     else
      if (decide (a0 = (95 : Int))) = true then
       some (2 : Int)
      else
       yd (⟨#[40, 41, 123, 125, 44, 59, 58, 46, 61, 60, 43, 45, 42, 47, 33, 38, 124]⟩ : BA) a0 >>= fun x3 =>
       if (decide ((0 : Int) ≤ x3)) = true then
        some (3 : Int)
       else
        yj 
    else
     if (decide (a0 = (95 : Int))) = true then
      some (2 : Int)
     else
      yd (⟨#[40, 41, 123, 125, 44, 59, 58, 46, 61, 60, 43, 45, 42, 47, 33, 38, 124]⟩ : BA) a0 >>= fun x4 =>
      if (decide ((0 : Int) ≤ x4)) = true then
       some (3 : Int)
      else
       yj 
 else
  if (decide ((97 : Int) ≤ a0)) = true then
   if (decide (a0 ≤ (122 : Int))) = true then
    some (2 : Int)
   else
    if (decide ((65 : Int) ≤ a0)) = true then
     if (decide (a0 ≤ (90 : Int))) = true then
      some (2 : Int)
     else
      if (decide (a0 = (95 : Int))) = true then
       some (2 : Int)
      else
       yd (⟨#[40, 41, 123, 125, 44, 59, 58, 46, 61, 60, 43, 45, 42, 47, 33, 38, 124]⟩ : BA) a0 >>= fun x5 =>
       if (decide ((0 : Int) ≤ x5)) = true then
        some (3 : Int)
       else
        yj 
    else
     if (decide (a0 = (95 : Int))) = true then
      some (2 : Int)
     else
      yd (⟨#[40, 41, 123, 125, 44, 59, 58, 46, 61, 60, 43, 45, 42, 47, 33, 38, 124]⟩ : BA) a0 >>= fun x6 =>
      if (decide ((0 : Int) ≤ x6)) = true then
       some (3 : Int)
      else
       yj 
  else
   if (decide ((65 : Int) ≤ a0)) = true then
    if (decide (a0 ≤ (90 : Int))) = true then
     some (2 : Int)
    else
     if (decide (a0 = (95 : Int))) = true then
      some (2 : Int)
     else
      yd (⟨#[40, 41, 123, 125, 44, 59, 58, 46, 61, 60, 43, 45, 42, 47, 33, 38, 124]⟩ : BA) a0 >>= fun x7 =>
      if (decide ((0 : Int) ≤ x7)) = true then
       some (3 : Int)
      else
       yj 
   else
    if (decide (a0 = (95 : Int))) = true then
     some (2 : Int)
    else
     yd (⟨#[40, 41, 123, 125, 44, 59, 58, 46, 61, 60, 43, 45, 42, 47, 33, 38, 124]⟩ : BA) a0 >>= fun x8 =>
     if (decide ((0 : Int) ≤ x8)) = true then
      some (3 : Int)
     else
      yj 
@[reducible] def qhs (a0 : Int) (r : Int) : Prop :=
  Fn Tryd.prog G 48 [(.int .u8 a0)] (.int .i64 r)
theorem Kh : PC1 qhs Qr := fun a0 r h => by
 rw [Qr.eq_def] at h
 refine jj (T := tt) (N := 29) (rs := [.tmp 2]) (fun vs w => by simp) Tryd.func48 rfl rfl rfl rfl (by kernel_rfl) (wi rfl) (yb _ rfl) ?_
 refine kr [3] ?_
 refine qq (fun hb => ?_) (fun hb => ?_)
 ·replace h := zf hb h
  refine kr [3] ?_
  refine qi (fun hb => ?_) (fun hb => ?_)
  ·replace h := zf hb h
   refine kr [3] ?_
   cases h
   exact kf
  replace h := zg hb h
  refine kr [3] ?_
  refine qq (fun hb => ?_) (fun hb => ?_)
  ·replace h := zf hb h
   refine kr [3] ?_
   refine qi (fun hb => ?_) (fun hb => ?_)
   ·replace h := zf hb h
    refine kr [3] ?_
    cases h
    exact kf
   replace h := zg hb h
   refine kr [3] ?_
   refine qq (fun hb => ?_) (fun hb => ?_)
   ·replace h := zf hb h
    refine kr [3] ?_
    refine qi (fun hb => ?_) (fun hb => ?_)
    ·replace h := zf hb h
     refine kr [3] ?_
     cases h
     exact kf
    replace h := zg hb h
    refine kr [3] ?_
    refine qi (fun hb => ?_) (fun hb => ?_)
    ·replace h := zf hb h
     refine kr [3] ?_
     cases h
     exact kf
    replace h := zg hb h
    refine kr [3] ?_
    obtain ⟨x1, hx, h⟩ := bind_some h
    refine qr (yr _ _ _ hx) ?_
    refine kr [3] ?_
    refine qi (fun hb => ?_) (fun hb => ?_)
    ·replace h := zf hb h
     refine kr [3] ?_
     cases h
     exact kf
    replace h := zg hb h
    refine kr [3] ?_
    exact zi (by kernel_rfl) rfl lA (kq _ h)
   replace h := zg hb h
   refine kr [3] ?_
   refine qi (fun hb => ?_) (fun hb => ?_)
   ·replace h := zf hb h
    refine kr [3] ?_
    cases h
    exact kf
   replace h := zg hb h
   refine kr [3] ?_
   obtain ⟨x2, hx, h⟩ := bind_some h
   refine qr (yr _ _ _ hx) ?_
   refine kr [3] ?_
   refine qi (fun hb => ?_) (fun hb => ?_)
   ·replace h := zf hb h
    refine kr [3] ?_
    cases h
    exact kf
   replace h := zg hb h
   refine kr [3] ?_
   exact zi (by kernel_rfl) rfl lA (kq _ h)
  replace h := zg hb h
  refine kr [3] ?_
  refine qq (fun hb => ?_) (fun hb => ?_)
  ·replace h := zf hb h
   refine kr [3] ?_
   refine qi (fun hb => ?_) (fun hb => ?_)
   ·replace h := zf hb h
    refine kr [3] ?_
    cases h
    exact kf
   replace h := zg hb h
   refine kr [3] ?_
   refine qi (fun hb => ?_) (fun hb => ?_)
   ·replace h := zf hb h
    refine kr [3] ?_
    cases h
    exact kf
   replace h := zg hb h
   refine kr [3] ?_
   obtain ⟨x3, hx, h⟩ := bind_some h
   refine qr (yr _ _ _ hx) ?_
   refine kr [3] ?_
   refine qi (fun hb => ?_) (fun hb => ?_)
   ·replace h := zf hb h
    refine kr [3] ?_
    cases h
    exact kf
   replace h := zg hb h
   refine kr [3] ?_
   exact zi (by kernel_rfl) rfl lA (kq _ h)
  replace h := zg hb h
  refine kr [3] ?_
  refine qi (fun hb => ?_) (fun hb => ?_)
  ·replace h := zf hb h
   refine kr [3] ?_
   cases h
   exact kf
  replace h := zg hb h
  refine kr [3] ?_
  obtain ⟨x4, hx, h⟩ := bind_some h
  refine qr (yr _ _ _ hx) ?_
  refine kr [3] ?_
  refine qi (fun hb => ?_) (fun hb => ?_)
  ·replace h := zf hb h
   refine kr [3] ?_
   cases h
   exact kf
  replace h := zg hb h
  refine kr [3] ?_
  exact zi (by kernel_rfl) rfl lA (kq _ h)
 replace h := zg hb h
 refine kr [3] ?_
 refine qq (fun hb => ?_) (fun hb => ?_)
 ·replace h := zf hb h
  refine kr [3] ?_
  refine qi (fun hb => ?_) (fun hb => ?_)
  ·replace h := zf hb h
   refine kr [3] ?_
   cases h
   exact kf
  replace h := zg hb h
  refine kr [3] ?_
  refine qq (fun hb => ?_) (fun hb => ?_)
  ·replace h := zf hb h
   refine kr [3] ?_
   refine qi (fun hb => ?_) (fun hb => ?_)
   ·replace h := zf hb h
    refine kr [3] ?_
    cases h
    exact kf
   replace h := zg hb h
   refine kr [3] ?_
   refine qi (fun hb => ?_) (fun hb => ?_)
   ·replace h := zf hb h
    refine kr [3] ?_
    cases h
    exact kf
   replace h := zg hb h
   refine kr [3] ?_
   obtain ⟨x5, hx, h⟩ := bind_some h
   refine qr (yr _ _ _ hx) ?_
   refine kr [3] ?_
   refine qi (fun hb => ?_) (fun hb => ?_)
   ·replace h := zf hb h
    refine kr [3] ?_
    cases h
    exact kf
   replace h := zg hb h
   refine kr [3] ?_
   exact zi (by kernel_rfl) rfl lA (kq _ h)
  replace h := zg hb h
  refine kr [3] ?_
  refine qi (fun hb => ?_) (fun hb => ?_)
  ·replace h := zf hb h
   refine kr [3] ?_
   cases h
   exact kf
  replace h := zg hb h
  refine kr [3] ?_
  obtain ⟨x6, hx, h⟩ := bind_some h
  refine qr (yr _ _ _ hx) ?_
  refine kr [3] ?_
  refine qi (fun hb => ?_) (fun hb => ?_)
  ·replace h := zf hb h
   refine kr [3] ?_
   cases h
   exact kf
  replace h := zg hb h
  refine kr [3] ?_
  exact zi (by kernel_rfl) rfl lA (kq _ h)
 replace h := zg hb h
 refine kr [3] ?_
 refine qq (fun hb => ?_) (fun hb => ?_)
 ·replace h := zf hb h
  refine kr [3] ?_
  refine qi (fun hb => ?_) (fun hb => ?_)
  ·replace h := zf hb h
   refine kr [3] ?_
   cases h
   exact kf
  replace h := zg hb h
  refine kr [3] ?_
  refine qi (fun hb => ?_) (fun hb => ?_)
  ·replace h := zf hb h
   refine kr [3] ?_
   cases h
   exact kf
  replace h := zg hb h
  refine kr [3] ?_
  obtain ⟨x7, hx, h⟩ := bind_some h
  refine qr (yr _ _ _ hx) ?_
  refine kr [3] ?_
  refine qi (fun hb => ?_) (fun hb => ?_)
  ·replace h := zf hb h
   refine kr [3] ?_
   cases h
   exact kf
  replace h := zg hb h
  refine kr [3] ?_
  exact zi (by kernel_rfl) rfl lA (kq _ h)
 replace h := zg hb h
 refine kr [3] ?_
 refine qi (fun hb => ?_) (fun hb => ?_)
 ·replace h := zf hb h
  refine kr [3] ?_
  cases h
  exact kf
 replace h := zg hb h
 refine kr [3] ?_
 obtain ⟨x8, hx, h⟩ := bind_some h
 refine qr (yr _ _ _ hx) ?_
 refine kr [3] ?_
 refine qi (fun hb => ?_) (fun hb => ?_)
 ·replace h := zf hb h
  refine kr [3] ?_
  cases h
  exact kf
 replace h := zg hb h
 refine kr [3] ?_
 exact zi (by kernel_rfl) rfl lA (kq _ h)
def Zk (a0 : Int) : Option Bool :=
 Qr a0 >>= fun x1 =>
 if (decide (x1 = (2 : Int))) = true then
  some true
 else
  Qr a0 >>= fun x2 =>
  some (decide (x2 = (1 : Int)))
@[reducible] def qhq (a0 : Int) (r : Bool) : Prop :=
  Fn Tryd.prog G 60 [(.int .u8 a0)] (.bool r)
theorem qhw : PC1 qhq Zk := fun a0 r h => by
 rw [Zk.eq_def] at h
 refine jj (T := tt) (N := 11) (rs := [.tmp 2]) (fun vs w => by simp) Tryd.func60 rfl rfl rfl rfl (by kernel_rfl) (wi rfl) (yb _ rfl) ?_
 refine kr [] ?_
 obtain ⟨x1, hx, h⟩ := bind_some h
 refine qr (Kh _ _ hx) ?_
 refine kr [] ?_
 refine qu (fun hb => ?_) (fun hb => ?_)
 ·replace h := zg hb h
  refine kr [] ?_
  obtain ⟨x2, hx, h⟩ := bind_some h
  refine qr (Kh _ _ hx) ?_
  refine kr [] ?_
  cases h
  exact kf
 replace h := zf hb h
 refine kr [] ?_
 cases h
 exact kf
def uy (t3 : Int) : Option Int :=
 some t3
@[reducible] def qgt (t3 : Int) (r : Int) : Prop :=
  Ok Tryd.prog G tt 17 0 (Ret Tryd.prog [.tmp 2] (fun y H => Told Tryd.prog G H y (.int .i64 r))) (.go [] (qti [1000000] Tryd.f49 0) [] (.n .undef (.n .undef (.n (.int .i64 t3) .z .z) .z) .z) 0 [])
theorem qa0 : PC1 qgt uy := fun t3 r h => by
 rw [uy.eq_def] at h
 refine kr [1000000] ?_
 cases h
 exact kf
def w8 (t0 : BA) (t3 : Int) : Option Int :=
 if (decide (t3 < (t0.size : Int))) = true then
  sx t0 t3 >>= fun x1 =>
  Zk (qg x1) >>= fun x2 =>
  if x2 = true then
   w8 (qg t0) (IntKind.i64.wrap (t3 + (1 : Int)))
  else
   uy (qg t3)
 else
  uy (qg t3)
 partial_fixpoint
@[reducible] def qas (t0 : BA) (t3 : Int) (r : Int) : Prop :=
  Ok Tryd.prog G tt 17 0 (Ret Tryd.prog [.tmp 2] (fun y H => Told Tryd.prog G H y (.int .i64 r))) (.again (Qd [1000000] Tryd.f49 0).1 (Qd [1000000] Tryd.f49 0).2 (.n (.str t0) (.n .undef (.n (.int .i64 t3) .z .z) .z) .z) 0 [])
theorem Y2 : PC2 qas w8 := by
 refine w8.partial_correctness qas (fun w8 Y2 t0 t3 r h => ?_)
 unfold qg at h
 refine Q3 ?_
 refine kr [1000000] ?_
 refine qq (fun hb => ?_) (fun hb => ?_)
 ·replace h := zf hb h
  refine kr [1000000] ?_
  obtain ⟨x1, hx, h⟩ := bind_some h
  refine qx2 env hx rfl rfl rfl rfl ?_
  refine kr [1000000] ?_
  obtain ⟨x2, hx, h⟩ := bind_some h
  refine qr (qhw _ _ hx) ?_
  refine kr [1000000] ?_
  refine qi (fun hb => ?_) (fun hb => ?_)
  ·replace h := zf hb h
   refine kr [1000000] ?_
   exact ux (by kernel_rfl) lA (Y2 _ _ _ h)
  replace h := zg hb h
  refine kr [1000000] ?_
  exact zi (by kernel_rfl) rfl lA (qa0 _ _ h)
 replace h := zg hb h
 refine kr [1000000] ?_
 exact zi (by kernel_rfl) rfl lA (qa0 _ _ h)
def J0 (a0 : BA) : Option Int :=
 w8 a0 (0 : Int)
@[reducible] def qk3 (a0 : BA) (r : Int) : Prop :=
  Fn Tryd.prog G 49 [(.str a0)] (.int .i64 r)
theorem qdr : PC1 qk3 J0 := fun a0 r h => by
 rw [J0.eq_def] at h
 refine jj (T := tt) (N := 17) (rs := [.tmp 2]) (fun vs w => by simp) Tryd.func49 rfl rfl rfl rfl (by kernel_rfl) (wi rfl) (yb _ rfl) ?_
 refine kr [1000000] ?_
 exact vv (by kernel_rfl) lA (Y2 _ _ _ h)
def kj (a0 : BA) (a1 : BA) : Option Bool :=
 if (decide ((a1.size : Int) ≤ (a0.size : Int))) = true then
  ssub a0 (0 : Int) (a1.size : Int) >>= fun x1 =>
  some (decide (x1 = a1))
 else
  some false
@[reducible] def Jq (a0 : BA) (a1 : BA) (r : Bool) : Prop :=
  Fn Tryd.prog G 63 [(.str a0), (.str a1)] (.bool r)
theorem Jr : PC2 Jq kj := fun a0 a1 r h => by
 rw [kj.eq_def] at h
 refine jj (T := tt) (N := 18) (rs := [.tmp 4]) (fun vs w => by simp) Tryd.func63 rfl rfl rfl rfl (by kernel_rfl) (wi rfl) (yb _ rfl) ?_
 refine kr [] ?_
 refine qq (fun hb => ?_) (fun hb => ?_)
 ·replace h := zf hb h
  refine kr [] ?_
  obtain ⟨x1, hx, h⟩ := bind_some h
  refine qaq env hx rfl rfl rfl rfl rfl ?_
  refine kr [] ?_
  cases h
  exact kf
 replace h := zg hb h
 refine kr [] ?_
 cases h
 exact kf
def ud (a0 : BA) (a1 : BA) : Option Bool :=
 kj a0 a1 >>= fun x1 =>
 some x1
@[reducible] def qb2 (a0 : BA) (a1 : BA) (r : Bool) : Prop :=
  Fn Tryd.prog G 51 [(.str a0), (.str a1)] (.bool r)
theorem Yx : PC2 qb2 ud := fun a0 a1 r h => by
 rw [ud.eq_def] at h
 refine jj (T := tt) (N := 8) (rs := [.tmp 4]) (fun vs w => by simp) Tryd.func51 rfl rfl rfl rfl (by kernel_rfl) (wi rfl) (yb _ rfl) ?_
 refine kr [] ?_
 obtain ⟨x1, hx, h⟩ := bind_some h
 refine qr (Jr _ _ _ hx) ?_
 refine kr [] ?_
 cases h
 exact kf
def w9  : Option (Int × Int) :=
 some ((0 : Int), (0 : Int))
@[reducible] def qdj  (r : Int × Int) : Prop :=
  Ok Tryd.prog G tt 33 0 (Ret Tryd.prog [.tmp 2, .tmp 3] (fun y H => Told Tryd.prog G H y (.tup [(.int .i64 r.1), (.int .i64 r.2)]))) (.go [] (Zu [11, 20] Tryd.f42 11) [] .z 0 [])
theorem Ko : PC0 qdj w9 := fun  r h => by
 rw [w9.eq_def] at h
 refine kr [11, 20] ?_
 cases h
 exact kf
def u5  : Option (Int × Int) :=
 w9 
@[reducible] def qdi  (r : Int × Int) : Prop :=
  Ok Tryd.prog G tt 33 0 (Ret Tryd.prog [.tmp 2, .tmp 3] (fun y H => Told Tryd.prog G H y (.tup [(.int .i64 r.1), (.int .i64 r.2)]))) (.go [] (Zu [11, 20] Tryd.f42 20) [] .z 0 [])
theorem Kn : PC0 qdi u5 := fun  r h => by
 rw [u5.eq_def] at h
 refine kr [11, 20] ?_
 exact zi (by kernel_rfl) rfl lA (Ko _ h)
def Zl (a0 : BA) : Option (Int × Int) :=
 if (decide (a0 = (⟨#[]⟩ : BA))) = true then
  some ((0 : Int), (0 : Int))
 else
  sx a0 (0 : Int) >>= fun x1 =>
  Qr x1 >>= fun x2 =>
  if (decide (x2 = (1 : Int))) = true then
   J0 a0 >>= fun x3 =>
   ssub a0 (0 : Int) x3 >>= fun x4 =>
   Jn x4 >>= fun x5 =>
   if x5 = true then
    some (x3, (2 : Int))
   else
    w9 
  else
   if (decide (x2 = (2 : Int))) = true then
    J0 a0 >>= fun x6 =>
    if (decide (x6 ≤ (32 : Int))) = true then
     some (x6, (1 : Int))
    else
     u5 
   else
    if (decide (x2 = (3 : Int))) = true then
     ud a0 (⟨#[47, 47]⟩ : BA) >>= fun x7 =>
     if x7 = true then
      some ((0 : Int), (0 : Int))
     else
      ud a0 (⟨#[61, 61]⟩ : BA) >>= fun x8 =>
      if x8 = true then
       some ((2 : Int), (3 : Int))
      else
       some ((1 : Int), (3 : Int))
    else
     u5 
@[reducible] def qhr (a0 : BA) (r : Int × Int) : Prop :=
  Fn Tryd.prog G 42 [(.str a0)] (.tup [(.int .i64 r.1), (.int .i64 r.2)])
theorem qhx : PC1 qhr Zl := fun a0 r h => by
 rw [Zl.eq_def] at h
 refine jj (T := tt) (N := 33) (rs := [.tmp 2, .tmp 3]) (fun vs w => by simp) Tryd.func42 rfl rfl rfl rfl (by kernel_rfl) (wi rfl) (yb _ rfl) ?_
 refine kr [11, 20] ?_
 refine qi (fun hb => ?_) (fun hb => ?_)
 ·replace h := zf hb h
  refine kr [11, 20] ?_
  cases h
  exact kf
 replace h := zg hb h
 refine kr [11, 20] ?_
 obtain ⟨x1, hx, h⟩ := bind_some h
 refine qx2 env hx rfl rfl rfl rfl ?_
 refine kr [11, 20] ?_
 obtain ⟨x2, hx, h⟩ := bind_some h
 refine qr (Kh _ _ hx) ?_
 refine kr [11, 20] ?_
 refine qi (fun hb => ?_) (fun hb => ?_)
 ·replace h := zf hb h
  refine kr [11, 20] ?_
  obtain ⟨x3, hx, h⟩ := bind_some h
  refine qr (qdr _ _ hx) ?_
  refine kr [11, 20] ?_
  obtain ⟨x4, hx, h⟩ := bind_some h
  refine qaq env hx rfl rfl rfl rfl rfl ?_
  refine kr [11, 20] ?_
  obtain ⟨x5, hx, h⟩ := bind_some h
  refine qr (qfx _ _ hx) ?_
  refine kr [11, 20] ?_
  refine qi (fun hb => ?_) (fun hb => ?_)
  ·replace h := zf hb h
   refine kr [11, 20] ?_
   cases h
   exact kf
  replace h := zg hb h
  refine kr [11, 20] ?_
  exact zi (by kernel_rfl) rfl lA (Ko _ h)
 replace h := zg hb h
 refine kr [11, 20] ?_
 refine qi (fun hb => ?_) (fun hb => ?_)
 ·replace h := zf hb h
  refine kr [11, 20] ?_
  obtain ⟨x6, hx, h⟩ := bind_some h
  refine qr (qdr _ _ hx) ?_
  refine kr [11, 20] ?_
  refine qi (fun hb => ?_) (fun hb => ?_)
  ·replace h := zf hb h
   refine kr [11, 20] ?_
   cases h
   exact kf
  replace h := zg hb h
  refine kr [11, 20] ?_
  exact zi (by kernel_rfl) rfl lA (Kn _ h)
 replace h := zg hb h
 refine kr [11, 20] ?_
 refine qi (fun hb => ?_) (fun hb => ?_)
 ·replace h := zf hb h
  refine kr [11, 20] ?_
  obtain ⟨x7, hx, h⟩ := bind_some h
  refine qr (Yx _ _ _ hx) ?_
  refine kr [11, 20] ?_
  refine qi (fun hb => ?_) (fun hb => ?_)
  ·replace h := zf hb h
   refine kr [11, 20] ?_
   cases h
   exact kf
  replace h := zg hb h
  refine kr [11, 20] ?_
  obtain ⟨x8, hx, h⟩ := bind_some h
  refine qr (Yx _ _ _ hx) ?_
  refine kr [11, 20] ?_
  refine qi (fun hb => ?_) (fun hb => ?_)
  ·replace h := zf hb h
   refine kr [11, 20] ?_
   cases h
   exact kf
  replace h := zg hb h
  refine kr [11, 20] ?_
  cases h
  exact kf
 replace h := zg hb h
 refine kr [11, 20] ?_
 exact zi (by kernel_rfl) rfl lA (Kn _ h)
def kh (t0 : BA) (t5 : (List Token)) (t6 : Int) : Option ((List Token) × Int × Int) :=
 Z2 (qg t0) (qg t6) >>= fun x1 =>
 if (decide (x1 = (t0.size : Int))) = true then
  ssub t0 t6 (t0.size : Int) >>= fun x2 =>
  app 48 t5 ([(Token.mk (4 : Int) x2 (⟨#[]⟩) (t0.size : Int))]) >>= fun x3 =>
  some (x3, (0 : Int), (0 : Int))
 else
  ssub t0 x1 (t0.size : Int) >>= fun x4 =>
  Zl (qg x4) >>= fun x5 =>
  if (decide (x5.2 = (0 : Int))) = true then
   some (([] : (List Token)), (1 : Int), x1)
  else
   ssub t0 t6 x1 >>= fun x6 =>
   ssub t0 x1 (IntKind.i64.wrap (x1 + x5.1)) >>= fun x7 =>
   app 48 t5 ([(Token.mk x5.2 x6 x7 x1)]) >>= fun x8 =>
   kh (qg t0) (qg x8) (IntKind.i64.wrap (x1 + x5.1))
 partial_fixpoint
@[reducible] def Km (t0 : BA) (t5 : (List Token)) (t6 : Int) (r : (List Token) × Int × Int) : Prop :=
  Ok Tryd.prog G tt 58 0 (Ret Tryd.prog [.tmp 2, .tmp 3, .tmp 4] (fun y H => Told Tryd.prog G H y (.tup [(.sl 4 false (r.1.map Token.cells)), (.int .i64 r.2.1), (.int .i64 r.2.2)]))) (.again (Qd [] Tryd.f31 0).1 (Qd [] Tryd.f31 0).2 (.n (.str t0) (.n .undef .z (.n (.bs 4 0 0 0 t5.length) .z .z)) (.n .undef .z (.n (.int .i64 t6) .z .z))) 1 [(0, .row 39 (t5.map Token.cells).flatten)])
theorem Z9 : PC3 Km kh := by
 refine kh.partial_correctness Km (fun kh Z9 t0 t5 t6 r h => ?_)
 unfold qg at h
 refine Q3 ?_
 refine kr [] ?_
 obtain ⟨x1, hx, h⟩ := bind_some h
 refine qr (qkm _ _ _ hx) ?_
 refine kr [] ?_
 refine qi (fun hb => ?_) (fun hb => ?_)
 ·replace h := zf hb h
  refine kr [] ?_
  obtain ⟨x2, hx, h⟩ := bind_some h
  refine qaq env hx rfl rfl rfl rfl rfl ?_
  refine kr [] ?_
  obtain ⟨x3, hx, h⟩ := bind_some h
  have hp_x3 := qfr hx (by simp)
  refine qfw (C := Token.cells) env hx rfl rfl (by simp) (fun _ => rfl) rfl rfl rfl rfl rfl (by decide) rfl rfl rfl ?_
  refine kr [] ?_
  cases h
  exact yc env rfl rfl (qc6 (qc5 (ue (Zt (jv Yj rfl) (by simp)) (ue (Zt (zt rfl) (by simp)) (ue (Zt (zt rfl) (by simp)) qa4)))))
 replace h := zg hb h
 refine kr [] ?_
 obtain ⟨x4, hx, h⟩ := bind_some h
 refine qaq env hx rfl rfl rfl rfl rfl ?_
 refine kr [] ?_
 obtain ⟨x5, hx, h⟩ := bind_some h
 refine qr (qhx _ _ hx) ?_
 refine kr [] ?_
 refine qi (fun hb => ?_) (fun hb => ?_)
 ·replace h := zf hb h
  refine kr [] ?_
  cases h
  exact yc env rfl rfl (qc6 (qc5 (ue (Zt (yl (.inr rfl)) (by simp)) (ue (Zt (zt rfl) (by simp)) (ue (Zt (zt rfl) (by simp)) qa4)))))
 replace h := zg hb h
 refine kr [] ?_
 obtain ⟨x6, hx, h⟩ := bind_some h
 refine qaq env hx rfl rfl rfl rfl rfl ?_
 refine kr [] ?_
 obtain ⟨x7, hx, h⟩ := bind_some h
 refine qaq env hx rfl rfl rfl rfl rfl ?_
 refine kr [] ?_
 obtain ⟨x8, hx, h⟩ := bind_some h
 have hp_x8 := qfr hx (by simp)
 refine qfw (C := Token.cells) env hx rfl rfl (by simp) (fun _ => rfl) rfl rfl rfl rfl rfl (by decide) rfl rfl rfl ?_
 refine kr [] ?_
 exact ux (by kernel_rfl) lA (Z9 _ _ _ _ h)
def wb (a0 : BA) : Option ((List Token) × Int × Int) :=
 if (decide ((65536 : Int) < (a0.size : Int))) = true then
  some (([] : (List Token)), (3 : Int), (0 : Int))
 else
  kh a0 ([] : List Token) (0 : Int)
@[reducible] def qgu (a0 : BA) (r : (List Token) × Int × Int) : Prop :=
  Fn Tryd.prog G 31 [(.str a0)] (.tup [(.sl 4 false (r.1.map Token.cells)), (.int .i64 r.2.1), (.int .i64 r.2.2)])
theorem Y3 : PC1 qgu wb := fun a0 r h => by
 rw [wb.eq_def] at h
 refine jj (T := tt) (N := 58) (rs := [.tmp 2, .tmp 3, .tmp 4]) (fun vs w => by simp) Tryd.func31 rfl rfl rfl rfl (by kernel_rfl) (wi rfl) (yb _ rfl) ?_
 refine kr [] ?_
 refine qi (fun hb => ?_) (fun hb => ?_)
 ·replace h := zf hb h
  refine kr [] ?_
  cases h
  exact yc env rfl rfl (qc6 (qc5 (ue (Zt (yl (.inr rfl)) (by simp)) (ue (Zt (zt rfl) (by simp)) (ue (Zt (zt rfl) (by simp)) qa4)))))
 replace h := zg hb h
 refine kr [] ?_
 refine q1m 5 _ 4 39 rfl rfl ?_
 exact vv (by kernel_rfl) lA (Z9 _ _ _ _ h)
def Jg (a0 : Token) : Option Int :=
 if (!decide (a0.Kind = (3 : Int))) = true then
  some (0 : Int)
 else
  if (decide (a0.Text = (⟨#[124]⟩ : BA))) = true then
   some (1 : Int)
  else
   if (decide (a0.Text = (⟨#[38]⟩ : BA))) = true then
    some (2 : Int)
   else
    if (decide (a0.Text = (⟨#[61, 61]⟩ : BA))) = true then
     some (3 : Int)
    else
     if (decide (a0.Text = (⟨#[60]⟩ : BA))) = true then
      some (3 : Int)
     else
      if (decide (a0.Text = (⟨#[43]⟩ : BA))) = true then
       some (4 : Int)
      else
       if (decide (a0.Text = (⟨#[45]⟩ : BA))) = true then
        some (4 : Int)
       else
        if (decide (a0.Text = (⟨#[42]⟩ : BA))) = true then
         some (5 : Int)
        else
         if (decide (a0.Text = (⟨#[47]⟩ : BA))) = true then
          some (5 : Int)
         else
          some (0 : Int)
@[reducible] def qht (a0 : Token) (r : Int) : Prop :=
  Fn Tryd.prog G 22 [(.agg (Token.cells a0))] (.int .i64 r)
theorem qhy : PC1 qht Jg := fun a0 r h => by
 rw [Jg.eq_def] at h
 refine jj (T := tt) (N := 21) (rs := [.tmp 2]) (fun vs w => by simp) Tryd.func22 rfl rfl rfl rfl (by kernel_rfl) (wi rfl) (yb _ rfl) ?_
 refine kr [] ?_
 refine qi (fun hb => ?_) (fun hb => ?_)
 ·replace h := zf hb h
  refine kr [] ?_
  cases h
  exact kf
 replace h := zg hb h
 refine kr [] ?_
 refine qi (fun hb => ?_) (fun hb => ?_)
 ·replace h := zf hb h
  refine kr [] ?_
  cases h
  exact kf
 replace h := zg hb h
 refine kr [] ?_
 refine qi (fun hb => ?_) (fun hb => ?_)
 ·replace h := zf hb h
  refine kr [] ?_
  cases h
  exact kf
 replace h := zg hb h
 refine kr [] ?_
 refine qi (fun hb => ?_) (fun hb => ?_)
 ·replace h := zf hb h
  refine kr [] ?_
  cases h
  exact kf
 replace h := zg hb h
 refine kr [] ?_
 refine qi (fun hb => ?_) (fun hb => ?_)
 ·replace h := zf hb h
  refine kr [] ?_
  cases h
  exact kf
 replace h := zg hb h
 refine kr [] ?_
 refine qi (fun hb => ?_) (fun hb => ?_)
 ·replace h := zf hb h
  refine kr [] ?_
  cases h
  exact kf
 replace h := zg hb h
 refine kr [] ?_
 refine qi (fun hb => ?_) (fun hb => ?_)
 ·replace h := zf hb h
  refine kr [] ?_
  cases h
  exact kf
 replace h := zg hb h
 refine kr [] ?_
 refine qi (fun hb => ?_) (fun hb => ?_)
 ·replace h := zf hb h
  refine kr [] ?_
  cases h
  exact kf
 replace h := zg hb h
 refine kr [] ?_
 refine qi (fun hb => ?_) (fun hb => ?_)
 ·replace h := zf hb h
  refine kr [] ?_
  cases h
  exact kf
 replace h := zg hb h
 refine kr [] ?_
 cases h
 exact kf
def zd (a0 : Reader) : Option (Token) :=
 ix a0.l_ a0.at_ >>= fun x1 =>
 some x1
@[reducible] def qav (a0 : Reader) (r : Token) : Prop :=
  AC Tryd.prog G 19 [(.ptr 0 0 0)] 1 [(0, .var 48 (Reader.cells a0))] (.agg (Token.cells r)) 1 [(0, .var 48 (Reader.cells a0))]
theorem zj : PC1 qav zd := fun a0 r h => by
 rw [zd.eq_def] at h
 refine ⟨?_, (yw rfl rfl y8), (zk zp), (yv rfl y6), (zk zp), rfl, rfl, rfl, rfl⟩
 refine Y5 (T := tt) (N := 13) (rs := [.cell 2 39]) (fun vs w => by simp) Tryd.func19 rfl rfl rfl (by kernel_rfl) (by kernel_rfl) ?_
 refine kr [] ?_
 obtain ⟨x1, hx, h⟩ := bind_some h
 refine Y0 env hx rfl rfl rfl rfl rfl ?_
 refine kr [] ?_
 cases h
 exact j4 env rfl rfl (tS [some 0] (sV (lS (lS lN)) zx) (j5 (ya (qf (qe (zt rfl) rfl) (qf (qe (jl rfl) rfl) (qf (qe (jl rfl) rfl) (qf (qe (zt rfl) rfl) j9))))) (by simp)))
def q7 (a0 : Reader) (a1 : BA) : Option Bool :=
 zd a0 >>= fun x1 =>
 if (!decide (x1.Kind = (4 : Int))) = true then
  zd a0 >>= fun x2 =>
  some (decide (x2.Text = a1))
 else
  some false
@[reducible] def qb3 (a0 : Reader) (a1 : BA) (r : Bool) : Prop :=
  AC Tryd.prog G 25 [(.ptr 0 0 0), (.str a1)] 1 [(0, .var 48 (Reader.cells a0))] (.bool r) 1 [(0, .var 48 (Reader.cells a0))]
theorem q9 : PC2 qb3 q7 := fun a0 a1 r h => by
 rw [q7.eq_def] at h
 refine ⟨?_, (yw rfl rfl y8), (zk zp), (yv rfl y6), (zk zp), rfl, rfl, rfl, rfl⟩
 refine Y5 (T := tt) (N := 16) (rs := [.tmp 4]) (fun vs w => by simp) Tryd.func25 rfl rfl rfl (by kernel_rfl) (by kernel_rfl) ?_
 refine kr [] ?_
 obtain ⟨x1, hx, h⟩ := bind_some h
 refine qb (AC.g9 (zj _ _ hx) [0] [0]) ?_
 refine kr [] ?_
 refine qq (fun hb => ?_) (fun hb => ?_)
 ·replace h := zf hb h
  refine kr [] ?_
  obtain ⟨x2, hx, h⟩ := bind_some h
  refine qb (AC.g9 (zj _ _ hx) [0] [0]) ?_
  refine kr [] ?_
  cases h
  exact j4 env rfl rfl (tS [some 0] (sV (lS (lS lN)) zx) (j5 (qou (qe (qil rfl) rfl) (by simp)) (by simp)))
 replace h := zg hb h
 refine kr [] ?_
 cases h
 exact j4 env rfl rfl (tS [some 0] (sV (lS (lS lN)) zx) (j5 (qou (qe (qil rfl) rfl) (by simp)) (by simp)))
def jo (a0 : Reader) (a1 : Int) : Option (Node × Reader) :=
 zd a0 >>= fun x1 =>
 some ((Node.mk a1 x1.Text ([x1.Lead]) ([] : LN)), (Reader.mk a0.l_ (IntKind.i64.wrap (a0.at_ + (1 : Int)))))
@[reducible] def qat (a0 : Reader) (a1 : Int) (r : Node × Reader) : Prop :=
  AC Tryd.prog G 23 [(.ptr 0 0 0), (.int .i64 a1)] 2 [(0, .var 48 (Reader.cells a0)), (1, .row 26 [])] (.agg [(.int .i64 r.1.kind), (.str r.1.text), (.sl 1 false (r.1.gaps.map sc)), (.bs 4 1 2 0 r.1.kids.length)]) 3 [(0, .var 48 (Reader.cells r.2)), (2, .row 26 (r.1.kids.map Node.cells).flatten)]
theorem yx : PC2 qat jo := fun a0 a1 r h => by
 rw [jo.eq_def] at h
 refine ⟨?_, (yw rfl rfl (qza rfl y8)), (zk (qzg zp)), (yv rfl (Ja zl y6)), (zk (wv zl zp)), rfl, rfl, rfl, rfl⟩
 refine Y5 (T := tt) (N := 22) (rs := [.cell 4 26]) (fun vs w => by simp) Tryd.func23 rfl rfl rfl (by kernel_rfl) (by kernel_rfl) ?_
 refine kr [] ?_
 obtain ⟨x1, hx, h⟩ := bind_some h
 refine qb (AC.g9 (zj _ _ hx) [0] [0]) ?_
 refine kr [] ?_
 cases h
 exact j4 env rfl rfl (tS [some 0, none] (sV (lS (lS lN)) (qv1 rfl rfl zx)) (j5 (ya (qf (qe (zt rfl) rfl) (qf (qe (jl rfl) rfl) (qf (qe (yl (.inl rfl)) rfl) (qf (qv7 rfl rfl) j9))))) (by simp)))
def vo (a0 : Int) (a2 : BA) (a3 : LB) (a4 : LN) (a1 : Node) : Option LN :=
 app 72 a4 [a1] >>= fun x1 =>
 some x1
@[reducible] def qhv (a0 : Int) (a2 : BA) (a3 : LB) (a4 : LN) (a1 : Node) (r : LN) : Prop :=
  AC Tryd.prog G 24 [(.ptr 0 0 0), (.agg (zu a1))] 2 [(0, .var 26 [(.int .i64 a0), (.str a2), (.sl 1 false (a3.map sc)), (.bs 4 1 1 0 a4.length)]), (1, .row 26 (a4.map Node.cells).flatten)] (.tup []) 3 [(0, .var 26 [(.int .i64 a0), (.str a2), (.sl 1 false (a3.map sc)), (.bs 4 1 2 0 r.length)]), (2, .row 26 (r.map Node.cells).flatten)]
theorem Jl : PC5 qhv vo := fun a0 a2 a3 a4 a1 r h => by
 rw [vo.eq_def] at h
 refine ⟨?_, (yw rfl rfl (Yg zl rfl y8)), (zk (wv zl zp)), (yv rfl (Ja zl y6)), (zk (wv zl zp)), rfl, rfl, rfl, rfl⟩
 refine Y5 (T := tt) (N := 15) (rs := []) (fun vs w => by simp) Tryd.func24 rfl rfl rfl (by kernel_rfl) (by kernel_rfl) ?_
 refine kr [] ?_
 obtain ⟨x1, hx, h⟩ := bind_some h
 have hz_x1 := hx
 refine qqa (C := Node.cells) env hx rfl rfl Node.cells_len rfl rfl rfl rfl rfl (by decide) rfl rfl rfl ?_
 refine kr [] ?_
 refine qx5 env rfl rfl rfl rfl (Int.natCast_nonneg _) (qp1 hz_x1) ?_
 refine kr [] ?_
 refine qmc hz_x1 zl rfl rfl (Node.cells_eq a1).symm rfl rfl rfl ?_
 refine kr [] ?_
 cases h
 exact Kx env rfl (tS [some 0, some 1] (sV (lS (lS (lS (lS lN)))) (sR zl zx)) (qcf qab))
def zw (a0 : Reader) : Option (Except Int (Unit)) :=
 zd a0 >>= fun x1 =>
 some (.error x1.At)
@[reducible] def qaz (a0 : Reader) (r : Except Int (Unit)) : Prop :=
  exq (fun (r : Unit) => AC Tryd.prog G 20 [(.ptr 0 0 0)] 1 [(0, .var 48 (Reader.cells a0))] (.tup []) 1 [(0, .var 48 (Reader.cells a0))]) (fun e => FC Tryd.prog G 20 [(.ptr 0 0 0)] 1 [(0, .var 48 (Reader.cells a0))] (flt e)) r
theorem zh : PC1 qaz zw := fun a0 r h => by
 rw [zw.eq_def] at h
 refine Zc (T := tt) (N := 6) (rs := []) (fun vs w => by simp) Tryd.func20 rfl rfl rfl (by kernel_rfl) (by kernel_rfl) (yw rfl rfl y8) (zk zp) (fun r => (yv rfl y6)) (fun r => (zk zp)) (fun _ => rfl) (fun _ => rfl) rfl (fun _ => rfl) ?_
 refine kr [] ?_
 obtain ⟨x1, hx, h⟩ := bind_some h
 refine qb (AC.g9 (zj _ _ hx) [0] [0]) ?_
 refine kr [] ?_
 refine qrp (by kernel_rfl) rfl ?_
 refine kr [] ?_
 cases h
 exact qx3 rfl rfl
def wc (o0 : Reader) (o1_0 : Int) (o1_1 : BA) (o1_2 : LB) (o1_3 : LN) : Option (Except Int (Reader × LB)) :=
 zd o0 >>= fun x3 =>
 app 16 o1_2 ([x3.Lead]) >>= fun x4 =>
 some (.ok ((Reader.mk o0.l_ (IntKind.i64.wrap (o0.at_ + (1 : Int)))), x4))
@[reducible] def K8 (o0 : Reader) (o1_0 : Int) (o1_1 : BA) (o1_2 : LB) (o1_3 : LN) (r : Except Int (Reader × LB)) : Prop :=
  Ok Tryd.prog G tt 31 4 (exq (fun (r : Reader × LB) => Ret Tryd.prog [] (fun y H => Qt Tryd.prog G 4 H y (.tup []) ⟨5, [(0, .var 48 (Reader.cells r.1)), (1, .var 26 [(.int .i64 o1_0), (.str o1_1), (.bs 1 2 4 0 r.2.length), (.bs 4 3 3 0 o1_3.length)]), (4, .row 9 (r.2.map sc).flatten), (3, .row 26 (o1_3.map Node.cells).flatten)]⟩)) (fun e => Q5 (flt e)) r) (.go [] (Zu [9] Tryd.f27 9) [] (.n (.ptr 0 0 0) (.n (.ptr 1 1 0) .z .z) .z) 5 [(0, .var 48 (Reader.cells o0)), (1, .var 26 [(.int .i64 o1_0), (.str o1_1), (.bs 1 2 4 0 o1_2.length), (.bs 4 3 3 0 o1_3.length)]), (4, .row 9 (o1_2.map sc).flatten), (3, .row 26 (o1_3.map Node.cells).flatten)])
theorem Zx : PC5 K8 wc := fun o0 o1_0 o1_1 o1_2 o1_3 r h => by
 rw [wc.eq_def] at h
 refine kr [9] ?_
 obtain ⟨x3, hx, h⟩ := bind_some h
 refine qb (AC.g9 (zj _ _ hx) [0] [0]) ?_
 refine kr [9] ?_
 obtain ⟨x4, hx, h⟩ := bind_some h
 have hp_x4 := qfr hx (by simp)
 refine qfw (C := sc) env hx rfl rfl (by simp) (fun _ => rfl) rfl rfl rfl rfl rfl (by decide) rfl rfl rfl ?_
 refine kr [9] ?_
 cases h
 exact Kx env rfl (tS [some 0, some 1, some 2, some 3] (sV (lS (lS lN)) (sV (lS (lS (lS (lS lN)))) (sR kp (sR zl zx)))) (qcf qab))
def qj (a0 : Reader) (a1 : Int) (a3 : BA) (a4 : LB) (a5 : LN) (a2 : BA) : Option (Except Int (Reader × LB)) :=
 q7 a0 a2 >>= fun x1 =>
 if (!x1) = true then
  zw a0 >>= fun x2 =>
  match x2 with
  | .error ee => some (.error ee)
  | .ok x2 =>
  wc a0 a1 a3 a4 a5
 else
  wc a0 a1 a3 a4 a5
@[reducible] def qau (a0 : Reader) (a1 : Int) (a3 : BA) (a4 : LB) (a5 : LN) (a2 : BA) (r : Except Int (Reader × LB)) : Prop :=
  exq (fun (r : Reader × LB) => AC Tryd.prog G 27 [(.ptr 0 0 0), (.ptr 1 1 0), (.str a2)] 4 [(0, .var 48 (Reader.cells a0)), (1, .var 26 [(.int .i64 a1), (.str a3), (.bs 1 2 2 0 a4.length), (.bs 4 3 3 0 a5.length)]), (2, .row 9 (a4.map sc).flatten), (3, .row 26 (a5.map Node.cells).flatten)] (.tup []) 5 [(0, .var 48 (Reader.cells r.1)), (1, .var 26 [(.int .i64 a1), (.str a3), (.bs 1 2 4 0 r.2.length), (.bs 4 3 3 0 a5.length)]), (4, .row 9 (r.2.map sc).flatten), (3, .row 26 (a5.map Node.cells).flatten)]) (fun e => FC Tryd.prog G 27 [(.ptr 0 0 0), (.ptr 1 1 0), (.str a2)] 4 [(0, .var 48 (Reader.cells a0)), (1, .var 26 [(.int .i64 a1), (.str a3), (.bs 1 2 2 0 a4.length), (.bs 4 3 3 0 a5.length)]), (2, .row 9 (a4.map sc).flatten), (3, .row 26 (a5.map Node.cells).flatten)] (flt e)) r
theorem qa : PC6 qau qj := fun a0 a1 a3 a4 a5 a2 r h => by
 rw [qj.eq_def] at h
 refine Zc (T := tt) (N := 31) (rs := []) (fun vs w => by simp) Tryd.func27 rfl rfl rfl (by kernel_rfl) (by kernel_rfl) (yw rfl rfl (yw rfl rfl (Yg kp rfl (Yg zl rfl y8)))) (zk (zk (wv kp (wv zl zp)))) (fun r => (yv rfl (yv rfl (Ja kp (Ja zl y6))))) (fun r => (zk (zk (wv kp (wv zl zp))))) (fun _ => rfl) (fun _ => rfl) rfl (fun _ => rfl) ?_
 refine kr [9] ?_
 obtain ⟨x1, hx, h⟩ := bind_some h
 refine qb (AC.g9 (q9 _ _ _ hx) [0] [0]) ?_
 refine kr [9] ?_
 refine qi (fun hb => ?_) (fun hb => ?_)
 ·replace h := zf hb h
  refine kr [9] ?_
  obtain ⟨x2, hx, h⟩ := bind_some h
  rcases x2 with ee | x2
  ·replace h : some (.error ee) = some r := h
   cases h
   exact qz (FC.go (zh _ _ hx) [0] [0] rfl rfl rfl rfl rfl rfl)
  refine qb (AC.g9 (zh _ _ hx) [0] [0]) ?_
  refine kr [9] ?_
  exact zi (by kernel_rfl) rfl lQ (Zx _ _ _ _ _ _ h)
 replace h := zg hb h
 refine kr [9] ?_
 exact zi (by kernel_rfl) rfl lQ (Zx _ _ _ _ _ _ h)
def y4 (o0 : Reader) (o1_0 : Int) (o1_1 : BA) (o1_2 : LB) (o1_3 : LN) (o4 : Token) : Option (Except Int (Reader × BA × LB)) :=
 app 16 o1_2 ([o4.Lead]) >>= fun x5 =>
 some (.ok ((Reader.mk o0.l_ (IntKind.i64.wrap (o0.at_ + (1 : Int)))), o4.Text, x5))
@[reducible] def Kq (o0 : Reader) (o1_0 : Int) (o1_1 : BA) (o1_2 : LB) (o1_3 : LN) (o4 : Token) (r : Except Int (Reader × BA × LB)) : Prop :=
  Ok Tryd.prog G tt 41 4 (exq (fun (r : Reader × BA × LB) => Ret Tryd.prog [] (fun y H => Qt Tryd.prog G 4 H y (.tup []) ⟨5, [(0, .var 48 (Reader.cells r.1)), (1, .var 26 [(.int .i64 o1_0), (.str r.2.1), (.bs 1 2 4 0 r.2.2.length), (.bs 4 3 3 0 o1_3.length)]), (4, .row 9 (r.2.2.map sc).flatten), (3, .row 26 (o1_3.map Node.cells).flatten)]⟩)) (fun e => Q5 (flt e)) r) (.go [] (Zu [15] Tryd.f30 15) [] (.n (.ptr 0 0 0) (.n (.ptr 1 1 0) .z .z) (.n .undef (.n (.ptr 4 4 0) .z .z) .z)) 6 [(0, .var 48 (Reader.cells o0)), (1, .var 26 [(.int .i64 o1_0), (.str o1_1), (.bs 1 2 5 0 o1_2.length), (.bs 4 3 3 0 o1_3.length)]), (5, .row 9 (o1_2.map sc).flatten), (3, .row 26 (o1_3.map Node.cells).flatten), (4, .var 39 (Token.cells o4))])
theorem vk : PC6 Kq y4 := fun o0 o1_0 o1_1 o1_2 o1_3 o4 r h => by
 rw [y4.eq_def] at h
 refine kr [15] ?_
 obtain ⟨x5, hx, h⟩ := bind_some h
 have hp_x5 := qfr hx (by simp)
 refine qfw (C := sc) env hx rfl rfl (by simp) (fun _ => rfl) rfl rfl rfl rfl rfl (by decide) rfl rfl rfl ?_
 refine kr [15] ?_
 cases h
 exact Kx env rfl (tS [some 0, some 1, some 2, some 3] (sV (lS (lS lN)) (sV (lS (lS (lS (lS lN)))) (sR kp (sR zl zx)))) (qcf qab))
def zv (a0 : Reader) (a1 : Int) (a2 : BA) (a3 : LB) (a4 : LN) : Option (Except Int (Reader × BA × LB)) :=
 zd a0 >>= fun x1 =>
 if (!decide (x1.Kind = (1 : Int))) = true then
  zw a0 >>= fun x4 =>
  match x4 with
  | .error ee => some (.error ee)
  | .ok x4 =>
  y4 a0 a1 a2 a3 a4 x1
 else
  Ys x1.Text >>= fun x2 =>
  if (!x2) = true then
   zw a0 >>= fun x3 =>
   match x3 with
   | .error ee => some (.error ee)
   | .ok x3 =>
   y4 a0 a1 a2 a3 a4 x1
  else
   y4 a0 a1 a2 a3 a4 x1
@[reducible] def qaw (a0 : Reader) (a1 : Int) (a2 : BA) (a3 : LB) (a4 : LN) (r : Except Int (Reader × BA × LB)) : Prop :=
  exq (fun (r : Reader × BA × LB) => AC Tryd.prog G 30 [(.ptr 0 0 0), (.ptr 1 1 0)] 4 [(0, .var 48 (Reader.cells a0)), (1, .var 26 [(.int .i64 a1), (.str a2), (.bs 1 2 2 0 a3.length), (.bs 4 3 3 0 a4.length)]), (2, .row 9 (a3.map sc).flatten), (3, .row 26 (a4.map Node.cells).flatten)] (.tup []) 5 [(0, .var 48 (Reader.cells r.1)), (1, .var 26 [(.int .i64 a1), (.str r.2.1), (.bs 1 2 4 0 r.2.2.length), (.bs 4 3 3 0 a4.length)]), (4, .row 9 (r.2.2.map sc).flatten), (3, .row 26 (a4.map Node.cells).flatten)]) (fun e => FC Tryd.prog G 30 [(.ptr 0 0 0), (.ptr 1 1 0)] 4 [(0, .var 48 (Reader.cells a0)), (1, .var 26 [(.int .i64 a1), (.str a2), (.bs 1 2 2 0 a3.length), (.bs 4 3 3 0 a4.length)]), (2, .row 9 (a3.map sc).flatten), (3, .row 26 (a4.map Node.cells).flatten)] (flt e)) r
theorem zb : PC5 qaw zv := fun a0 a1 a2 a3 a4 r h => by
 rw [zv.eq_def] at h
 refine Zc (T := tt) (N := 41) (rs := []) (fun vs w => by simp) Tryd.func30 rfl rfl rfl (by kernel_rfl) (by kernel_rfl) (yw rfl rfl (yw rfl rfl (Yg kp rfl (Yg zl rfl y8)))) (zk (zk (wv kp (wv zl zp)))) (fun r => (yv rfl (yv rfl (Ja kp (Ja zl y6))))) (fun r => (zk (zk (wv kp (wv zl zp))))) (fun _ => rfl) (fun _ => rfl) rfl (fun _ => rfl) ?_
 refine kr [15] ?_
 obtain ⟨x1, hx, h⟩ := bind_some h
 refine qb (AC.g9 (zj _ _ hx) [0] [0]) ?_
 refine kr [15] ?_
 refine qu (fun hb => ?_) (fun hb => ?_)
 ·replace h := zg hb h
  refine kr [15] ?_
  obtain ⟨x2, hx, h⟩ := bind_some h
  refine qr (qcz _ _ hx) ?_
  refine kr [15] ?_
  refine qi (fun hb => ?_) (fun hb => ?_)
  ·replace h := zf hb h
   refine kr [15] ?_
   obtain ⟨x3, hx, h⟩ := bind_some h
   rcases x3 with ee | x3
   ·replace h : some (.error ee) = some r := h
    cases h
    exact qz (FC.go (zh _ _ hx) [0] [0] rfl rfl rfl rfl rfl rfl)
   refine qb (AC.g9 (zh _ _ hx) [0] [0]) ?_
   refine kr [15] ?_
   exact zi (by kernel_rfl) rfl lQ (vk _ _ _ _ _ _ _ h)
  replace h := zg hb h
  refine kr [15] ?_
  exact zi (by kernel_rfl) rfl lQ (vk _ _ _ _ _ _ _ h)
 replace h := zf hb h
 refine kr [15] ?_
 obtain ⟨x4, hx, h⟩ := bind_some h
 rcases x4 with ee | x4
 ·replace h : some (.error ee) = some r := h
  cases h
  exact qz (FC.go (zh _ _ hx) [0] [0] rfl rfl rfl rfl rfl rfl)
 refine qb (AC.g9 (zh _ _ hx) [0] [0]) ?_
 refine kr [15] ?_
 exact zi (by kernel_rfl) rfl lQ (vk _ _ _ _ _ _ _ h)
def zm (a0 : Int) (a2 : BA) (a3 : LB) (a4 : LN) (a1 : Node) : Option LN :=
 app 72 a4 [a1] >>= fun x1 =>
 some x1
@[reducible] def qhu (a0 : Int) (a2 : BA) (a3 : LB) (a4 : LN) (a1 : Node) (r : LN) : Prop :=
  AC Tryd.prog G 24 [(.ptr 0 0 0), (.agg (zu a1))] 3 [(0, .var 26 [(.int .i64 a0), (.str a2), (.bs 1 1 1 0 a3.length), (.bs 4 2 2 0 a4.length)]), (1, .row 9 (a3.map sc).flatten), (2, .row 26 (a4.map Node.cells).flatten)] (.tup []) 4 [(0, .var 26 [(.int .i64 a0), (.str a2), (.bs 1 1 1 0 a3.length), (.bs 4 2 3 0 r.length)]), (1, .row 9 (a3.map sc).flatten), (3, .row 26 (r.map Node.cells).flatten)]
theorem zn : PC5 qhu zm := fun a0 a2 a3 a4 a1 r h => by
 rw [zm.eq_def] at h
 refine ⟨?_, (yw rfl rfl (Yg kp rfl (Yg zl rfl y8))), (zk (wv kp (wv zl zp))), (yv rfl (Ja kp (Ja zl y6))), (zk (wv kp (wv zl zp))), rfl, rfl, rfl, rfl⟩
 refine Y5 (T := tt) (N := 15) (rs := []) (fun vs w => by simp) Tryd.func24 rfl rfl rfl (by kernel_rfl) (by kernel_rfl) ?_
 refine kr [] ?_
 obtain ⟨x1, hx, h⟩ := bind_some h
 have hz_x1 := hx
 refine qqa (C := Node.cells) env hx rfl rfl Node.cells_len rfl rfl rfl rfl rfl (by decide) rfl rfl rfl ?_
 refine kr [] ?_
 refine qx5 env rfl rfl rfl rfl (Int.natCast_nonneg _) (qp1 hz_x1) ?_
 refine kr [] ?_
 refine qmc hz_x1 zl rfl rfl (Node.cells_eq a1).symm rfl rfl rfl ?_
 refine kr [] ?_
 cases h
 exact Kx env rfl (tS [some 0, some 1, some 2] (sV (lS (lS (lS (lS lN)))) (sR kp (sR zl zx))) (qcf qab))
def yk (o0 : Reader) (o3_0 : Int) (o3_1 : BA) (o3_2 : LB) (o3_3 : LN) : Option (Except Int (Node × Reader)) :=
 some (.ok ((Node.mk o3_0 o3_1 o3_2 o3_3), o0))
@[reducible] def Y1 (o0 : Reader) (o3_0 : Int) (o3_1 : BA) (o3_2 : LB) (o3_3 : LN) (r : Except Int (Node × Reader)) : Prop :=
  Ok Tryd.prog G tt 61 1 (exq (fun (r : Node × Reader) => Ret Tryd.prog [.cell 2 26] (fun y H => Qt Tryd.prog G 1 H y (.agg (zu r.1)) ⟨1, [(0, .var 48 (Reader.cells r.2))]⟩)) (fun e => Q5 (flt e)) r) (.go [] (Zu [56] Tryd.f36 56) [] (.n .undef .z (.n (.ptr 1 1 0) .z (.n (.ptr 3 3 0) .z .z))) 9 [(0, .var 48 (Reader.cells o0)), (1, .var 26 [(.int .i64 0), (.str ⟨#[]⟩), (.sl 0 true []), (.sl 0 true [])]), (2, .dead), (3, .var 26 [(.int .i64 o3_0), (.str o3_1), (.bs 1 4 7 0 o3_2.length), (.bs 4 5 8 0 o3_3.length)]), (7, .row 9 (o3_2.map sc).flatten), (8, .row 26 (o3_3.map Node.cells).flatten)])
theorem Q4 : PC5 Y1 yk := fun o0 o3_0 o3_1 o3_2 o3_3 r h => by
 rw [yk.eq_def] at h
 refine kr [56] ?_
 cases h
 exact j4 env rfl rfl (tS [some 0] (sV (lS (lS lN)) zx) (j5 (ya (qf (qe (zt rfl) rfl) (qf (qe (jl rfl) rfl) (qf (qe (jv kp rfl) rfl) (qf (qe (jv zl rfl) rfl) j9))))) (by simp)))
def yz (o0 : Reader) (o2 : Node) : Option (Except Int (Node × Reader)) :=
 some (.ok (o2, o0))
@[reducible] def Kd (o0 : Reader) (o2 : Node) (r : Except Int (Node × Reader)) : Prop :=
  Ok Tryd.prog G tt 33 1 (exq (fun (r : Node × Reader) => Ret Tryd.prog [.cell 4 26] (fun y H => Qt Tryd.prog G 1 H y (.agg (zu r.1)) ⟨1, [(0, .var 48 (Reader.cells r.2))]⟩)) (fun e => Q5 (flt e)) r) (.go [] (qti [1000000] Tryd.f11 0) [] (.n .undef (.n .undef .z (.n (.ptr 2 2 0) .z .z)) (.n .undef (.n (.ptr 1 1 0) .z .z) .z)) 8 [(0, .var 48 (Reader.cells o0)), (1, .var 26 [(.int .i64 0), (.str ⟨#[]⟩), (.sl 0 true []), (.sl 0 true [])]), (2, .var 26 (zu o2))])
theorem Zg : PC2 Kd yz := fun o0 o2 r h => by
 rw [yz.eq_def] at h
 refine kr [1000000] ?_
 cases h
 exact j4 env rfl rfl (tS [some 0] (sV (lS (lS lN)) zx) (j5 (ya (qf (qe (zt rfl) rfl) (qf (qe (jl rfl) rfl) (qf (qe (yl (.inl rfl)) rfl) (qf (qe (yl (.inl rfl)) rfl) j9))))) (by simp)))
mutual
def qw (a0 : Reader) (a1 : Int) : Option (Except Int (Node × Reader)) :=
 if (decide ((5 : Int) < a1)) = true then
  jt (qg a0) >>= fun x1 =>
  match x1 with
  | .error ee => some (.error ee)
  | .ok x1 =>
  some (.ok (x1.1, x1.2))
 else
  qw (qg a0) (IntKind.i64.wrap (a1 + (1 : Int))) >>= fun x2 =>
  match x2 with
  | .error ee => some (.error ee)
  | .ok x2 =>
  jk (qg a1) x2.2 x2.1
 partial_fixpoint
def jt (a0 : Reader) : Option (Except Int (Node × Reader)) :=
 q7 (qg a0) (⟨#[45]⟩ : BA) >>= fun x3 =>
 if x3 = true then
  jo (qg a0) (25 : Int) >>= fun x9 =>
  jt x9.2 >>= fun x10 =>
  match x10 with
  | .error ee => some (.error ee)
  | .ok x10 =>
  vo x9.1.kind x9.1.text x9.1.gaps x9.1.kids x10.1 >>= fun x11 =>
  some (.ok ((Node.mk x9.1.kind x9.1.text x9.1.gaps x11), x10.2))
 else
  q7 (qg a0) (⟨#[33]⟩ : BA) >>= fun x4 =>
  if x4 = true then
   jo (qg a0) (25 : Int) >>= fun x5 =>
   jt x5.2 >>= fun x6 =>
   match x6 with
   | .error ee => some (.error ee)
   | .ok x6 =>
   vo x5.1.kind x5.1.text x5.1.gaps x5.1.kids x6.1 >>= fun x7 =>
   some (.ok ((Node.mk x5.1.kind x5.1.text x5.1.gaps x7), x6.2))
  else
   yn (qg a0) >>= fun x8 =>
   match x8 with
   | .error ee => some (.error ee)
   | .ok x8 =>
   jd x8.2 x8.1
 partial_fixpoint
def yn (a0 : Reader) : Option (Except Int (Node × Reader)) :=
 zd (qg a0) >>= fun x12 =>
 if (decide (x12.Kind = (2 : Int))) = true then
  jo (qg a0) (17 : Int) >>= fun x13 =>
  some (.ok ((Node.mk x13.1.kind x13.1.text x13.1.gaps x13.1.kids), x13.2))
 else
  q7 (qg a0) (⟨#[116, 114, 117, 101]⟩ : BA) >>= fun x14 =>
  if x14 = true then
   jo (qg a0) (18 : Int) >>= fun x15 =>
   some (.ok ((Node.mk x15.1.kind x15.1.text x15.1.gaps x15.1.kids), x15.2))
  else
   q7 (qg a0) (⟨#[102, 97, 108, 115, 101]⟩ : BA) >>= fun x16 =>
   if x16 = true then
    jo (qg a0) (18 : Int) >>= fun x17 =>
    some (.ok ((Node.mk x17.1.kind x17.1.text x17.1.gaps x17.1.kids), x17.2))
   else
    q7 (qg a0) (⟨#[115, 101, 108, 102]⟩ : BA) >>= fun x18 =>
    if x18 = true then
     jo (qg a0) (23 : Int) >>= fun x19 =>
     some (.ok ((Node.mk x19.1.kind x19.1.text x19.1.gaps x19.1.kids), x19.2))
    else
     q7 (qg a0) (⟨#[110, 101, 119]⟩ : BA) >>= fun x20 =>
     if x20 = true then
      qj (qg a0) (22 : Int) (⟨#[]⟩) ([] : LB) ([] : LN) (⟨#[110, 101, 119]⟩ : BA) >>= fun x21 =>
      match x21 with
      | .error ee => some (.error ee)
      | .ok x21 =>
      zv x21.1 (22 : Int) (⟨#[]⟩) x21.2 ([] : LN) >>= fun x22 =>
      match x22 with
      | .error ee => some (.error ee)
      | .ok x22 =>
      qj x22.1 (22 : Int) x22.2.1 x22.2.2 ([] : LN) (⟨#[40]⟩ : BA) >>= fun x23 =>
      match x23 with
      | .error ee => some (.error ee)
      | .ok x23 =>
      qj x23.1 (22 : Int) x22.2.1 x23.2 ([] : LN) (⟨#[41]⟩ : BA) >>= fun x24 =>
      match x24 with
      | .error ee => some (.error ee)
      | .ok x24 =>
      some (.ok ((Node.mk (22 : Int) x22.2.1 x24.2 ([] : LN)), x24.1))
     else
      q7 (qg a0) (⟨#[40]⟩ : BA) >>= fun x25 =>
      if x25 = true then
       qj (qg a0) (26 : Int) (⟨#[]⟩) ([] : LB) ([] : LN) (⟨#[40]⟩ : BA) >>= fun x26 =>
       match x26 with
       | .error ee => some (.error ee)
       | .ok x26 =>
       qw x26.1 (1 : Int) >>= fun x27 =>
       match x27 with
       | .error ee => some (.error ee)
       | .ok x27 =>
       zm (26 : Int) (⟨#[]⟩) x26.2 ([] : LN) x27.1 >>= fun x28 =>
       qj x27.2 (26 : Int) (⟨#[]⟩) x26.2 (qg x28) (⟨#[41]⟩ : BA) >>= fun x29 =>
       match x29 with
       | .error ee => some (.error ee)
       | .ok x29 =>
       some (.ok ((Node.mk (26 : Int) (⟨#[]⟩) x29.2 x28), x29.1))
      else
       zv (qg a0) (19 : Int) (⟨#[]⟩) ([] : LB) ([] : LN) >>= fun x30 =>
       match x30 with
       | .error ee => some (.error ee)
       | .ok x30 =>
       q7 x30.1 (⟨#[40]⟩ : BA) >>= fun x31 =>
       if x31 = true then
        z8 x30.1 (20 : Int) x30.2.1 x30.2.2 ([] : LN) >>= fun x32 =>
        match x32 with
        | .error ee => some (.error ee)
        | .ok x32 =>
        yk x32.1 (20 : Int) x30.2.1 x32.2.1 x32.2.2
       else
        yk x30.1 (19 : Int) x30.2.1 x30.2.2 ([] : LN)
 partial_fixpoint
def z8 (a0 : Reader) (a1 : Int) (a2 : BA) (a3 : LB) (a4 : LN) : Option (Except Int (Reader × LB × LN)) :=
 qj (qg a0) (qg a1) (qg a2) (qg a3) (qg a4) (⟨#[40]⟩ : BA) >>= fun x33 =>
 match x33 with
 | .error ee => some (.error ee)
 | .ok x33 =>
 z1 (qg true) x33.1 (qg a1) (qg a2) x33.2 (qg a4)
 partial_fixpoint
def jk (t1 : Int) (o0 : Reader) (o2 : Node) : Option (Except Int (Node × Reader)) :=
 zd (qg o0) >>= fun x34 =>
 Jg (qg x34) >>= fun x35 =>
 if (decide (x35 = t1)) = true then
  jo (qg o0) (24 : Int) >>= fun x36 =>
  vo x36.1.kind x36.1.text x36.1.gaps x36.1.kids (qg o2) >>= fun x37 =>
  qw x36.2 (IntKind.i64.wrap (t1 + (1 : Int))) >>= fun x38 =>
  match x38 with
  | .error ee => some (.error ee)
  | .ok x38 =>
  vo x36.1.kind x36.1.text x36.1.gaps (qg x37) x38.1 >>= fun x39 =>
  if (decide (t1 = (3 : Int))) = true then
   yz x38.2 (Node.mk x36.1.kind x36.1.text x36.1.gaps x39)
  else
   jk (qg t1) x38.2 (Node.mk x36.1.kind x36.1.text x36.1.gaps x39)
 else
  yz (qg o0) (qg o2)
 partial_fixpoint
def jd (o0 : Reader) (o2 : Node) : Option (Except Int (Node × Reader)) :=
 q7 (qg o0) (⟨#[46]⟩ : BA) >>= fun x40 =>
 if x40 = true then
  qj (qg o0) (21 : Int) (⟨#[]⟩) ([] : LB) ([o2] : LN) (⟨#[46]⟩ : BA) >>= fun x41 =>
  match x41 with
  | .error ee => some (.error ee)
  | .ok x41 =>
  zv x41.1 (21 : Int) (⟨#[]⟩) x41.2 ([o2] : LN) >>= fun x42 =>
  match x42 with
  | .error ee => some (.error ee)
  | .ok x42 =>
  z8 x42.1 (21 : Int) x42.2.1 x42.2.2 ([o2] : LN) >>= fun x43 =>
  match x43 with
  | .error ee => some (.error ee)
  | .ok x43 =>
  jd x43.1 (Node.mk (21 : Int) x42.2.1 x43.2.1 x43.2.2)
 else
  some (.ok (o2, o0))
 partial_fixpoint
def z1 (t4 : Bool) (o0 : Reader) (o1_0 : Int) (o1_1 : BA) (o1_2 : LB) (o1_3 : LN) : Option (Except Int (Reader × LB × LN)) :=
 q7 (qg o0) (⟨#[41]⟩ : BA) >>= fun x44 =>
 if (!x44) = true then
  if (!t4) = true then
   qj (qg o0) (qg o1_0) (qg o1_1) (qg o1_2) (qg o1_3) (⟨#[44]⟩ : BA) >>= fun x45 =>
   match x45 with
   | .error ee => some (.error ee)
   | .ok x45 =>
   jr x45.1 (qg o1_0) (qg o1_1) x45.2 (qg o1_3)
  else
   jr (qg o0) (qg o1_0) (qg o1_1) (qg o1_2) (qg o1_3)
 else
  qj (qg o0) (qg o1_0) (qg o1_1) (qg o1_2) (qg o1_3) (⟨#[41]⟩ : BA) >>= fun x46 =>
  match x46 with
  | .error ee => some (.error ee)
  | .ok x46 =>
  some (.ok (x46.1, x46.2, o1_3))
 partial_fixpoint
def jr (o0 : Reader) (o1_0 : Int) (o1_1 : BA) (o1_2 : LB) (o1_3 : LN) : Option (Except Int (Reader × LB × LN)) :=
 qw (qg o0) (1 : Int) >>= fun x47 =>
 match x47 with
 | .error ee => some (.error ee)
 | .ok x47 =>
 zm (qg o1_0) (qg o1_1) (qg o1_2) (qg o1_3) x47.1 >>= fun x48 =>
 z1 (qg false) x47.2 (qg o1_0) (qg o1_1) (qg o1_2) (qg x48)
 partial_fixpoint
end
@[reducible] def Qe (a0 : Reader) (a1 : Int) (r : Except Int (Node × Reader)) : Prop :=
  exq (fun (r : Node × Reader) => AC Tryd.prog G 11 [(.ptr 0 0 0), (.int .i64 a1)] 1 [(0, .var 48 (Reader.cells a0))] (.agg (zu r.1)) 1 [(0, .var 48 (Reader.cells r.2))]) (fun e => FC Tryd.prog G 11 [(.ptr 0 0 0), (.int .i64 a1)] 1 [(0, .var 48 (Reader.cells a0))] (flt e)) r
@[reducible] def Qp (a0 : Reader) (r : Except Int (Node × Reader)) : Prop :=
  exq (fun (r : Node × Reader) => AC Tryd.prog G 21 [(.ptr 0 0 0)] 1 [(0, .var 48 (Reader.cells a0))] (.agg (zu r.1)) 1 [(0, .var 48 (Reader.cells r.2))]) (fun e => FC Tryd.prog G 21 [(.ptr 0 0 0)] 1 [(0, .var 48 (Reader.cells a0))] (flt e)) r
@[reducible] def vw (a0 : Reader) (r : Except Int (Node × Reader)) : Prop :=
  exq (fun (r : Node × Reader) => AC Tryd.prog G 36 [(.ptr 0 0 0)] 1 [(0, .var 48 (Reader.cells a0))] (.agg (zu r.1)) 1 [(0, .var 48 (Reader.cells r.2))]) (fun e => FC Tryd.prog G 36 [(.ptr 0 0 0)] 1 [(0, .var 48 (Reader.cells a0))] (flt e)) r
@[reducible] def vc (a0 : Reader) (a1 : Int) (a2 : BA) (a3 : LB) (a4 : LN) (r : Except Int (Reader × LB × LN)) : Prop :=
  exq (fun (r : Reader × LB × LN) => AC Tryd.prog G 37 [(.ptr 0 0 0), (.ptr 1 1 0)] 4 [(0, .var 48 (Reader.cells a0)), (1, .var 26 [(.int .i64 a1), (.str a2), (.bs 1 2 2 0 a3.length), (.bs 4 3 3 0 a4.length)]), (2, .row 9 (a3.map sc).flatten), (3, .row 26 (a4.map Node.cells).flatten)] (.tup []) 6 [(0, .var 48 (Reader.cells r.1)), (1, .var 26 [(.int .i64 a1), (.str a2), (.bs 1 2 4 0 r.2.1.length), (.bs 4 3 5 0 r.2.2.length)]), (4, .row 9 (r.2.1.map sc).flatten), (5, .row 26 (r.2.2.map Node.cells).flatten)]) (fun e => FC Tryd.prog G 37 [(.ptr 0 0 0), (.ptr 1 1 0)] 4 [(0, .var 48 (Reader.cells a0)), (1, .var 26 [(.int .i64 a1), (.str a2), (.bs 1 2 2 0 a3.length), (.bs 4 3 3 0 a4.length)]), (2, .row 9 (a3.map sc).flatten), (3, .row 26 (a4.map Node.cells).flatten)] (flt e)) r
@[reducible] def u9 (t1 : Int) (o0 : Reader) (o2 : Node) (r : Except Int (Node × Reader)) : Prop :=
  Ok Tryd.prog G tt 33 1 (exq (fun (r : Node × Reader) => Ret Tryd.prog [.cell 4 26] (fun y H => Qt Tryd.prog G 1 H y (.agg (zu r.1)) ⟨1, [(0, .var 48 (Reader.cells r.2))]⟩)) (fun e => Q5 (flt e)) r) (.again (Qd [1000000] Tryd.f11 0).1 (Qd [1000000] Tryd.f11 0).2 (.n (.ptr 0 0 0) (.n (.int .i64 t1) .z (.n (.ptr 2 2 0) .z .z)) (.n .undef (.n (.ptr 1 1 0) .z .z) .z)) 3 [(0, .var 48 (Reader.cells o0)), (1, .var 26 [(.int .i64 0), (.str ⟨#[]⟩), (.sl 0 true []), (.sl 0 true [])]), (2, .var 26 (zu o2))])
@[reducible] def ve (o0 : Reader) (o2 : Node) (r : Except Int (Node × Reader)) : Prop :=
  Ok Tryd.prog G tt 33 1 (exq (fun (r : Node × Reader) => Ret Tryd.prog [.cell 2 26] (fun y H => Qt Tryd.prog G 1 H y (.agg (zu r.1)) ⟨1, [(0, .var 48 (Reader.cells r.2))]⟩)) (fun e => Q5 (flt e)) r) (.again (Qd [3000023] Tryd.f21 0).1 (Qd [3000023] Tryd.f21 0).2 (.n (.ptr 0 0 0) .z (.n (.ptr 1 1 0) (.n (.ptr 2 2 0) .z .z) .z)) 3 [(0, .var 48 (Reader.cells o0)), (1, .var 26 [(.int .i64 0), (.str ⟨#[]⟩), (.sl 0 true []), (.sl 0 true [])]), (2, .var 26 (zu o2))])
@[reducible] def ui (t4 : Bool) (o0 : Reader) (o1_0 : Int) (o1_1 : BA) (o1_2 : LB) (o1_3 : LN) (r : Except Int (Reader × LB × LN)) : Prop :=
  Ok Tryd.prog G tt 23 4 (exq (fun (r : Reader × LB × LN) => Ret Tryd.prog [] (fun y H => Qt Tryd.prog G 4 H y (.tup []) ⟨6, [(0, .var 48 (Reader.cells r.1)), (1, .var 26 [(.int .i64 o1_0), (.str o1_1), (.bs 1 2 4 0 r.2.1.length), (.bs 4 3 5 0 r.2.2.length)]), (4, .row 9 (r.2.1.map sc).flatten), (5, .row 26 (r.2.2.map Node.cells).flatten)]⟩)) (fun e => Q5 (flt e)) r) (.again (Qd [12] Tryd.f37 0).1 (Qd [12] Tryd.f37 0).2 (.n (.ptr 0 0 0) (.n (.ptr 1 1 0) .z .z) (.n .undef (.n (.bool t4) .z .z) .z)) 7 [(0, .var 48 (Reader.cells o0)), (1, .var 26 [(.int .i64 o1_0), (.str o1_1), (.bs 1 2 5 0 o1_2.length), (.bs 4 3 6 0 o1_3.length)]), (5, .row 9 (o1_2.map sc).flatten), (6, .row 26 (o1_3.map Node.cells).flatten)])
@[reducible] def wx (o0 : Reader) (o1_0 : Int) (o1_1 : BA) (o1_2 : LB) (o1_3 : LN) (r : Except Int (Reader × LB × LN)) : Prop :=
  Ok Tryd.prog G tt 23 4 (exq (fun (r : Reader × LB × LN) => Ret Tryd.prog [] (fun y H => Qt Tryd.prog G 4 H y (.tup []) ⟨6, [(0, .var 48 (Reader.cells r.1)), (1, .var 26 [(.int .i64 o1_0), (.str o1_1), (.bs 1 2 4 0 r.2.1.length), (.bs 4 3 5 0 r.2.2.length)]), (4, .row 9 (r.2.1.map sc).flatten), (5, .row 26 (r.2.2.map Node.cells).flatten)]⟩)) (fun e => Q5 (flt e)) r) (.go [] (Zu [12] Tryd.f37 12) [] (.n (.ptr 0 0 0) (.n (.ptr 1 1 0) .z .z) .z) 10 [(0, .var 48 (Reader.cells o0)), (1, .var 26 [(.int .i64 o1_0), (.str o1_1), (.bs 1 2 8 0 o1_2.length), (.bs 4 3 9 0 o1_3.length)]), (8, .row 9 (o1_2.map sc).flatten), (9, .row 26 (o1_3.map Node.cells).flatten)])
theorem jp : PC2 Qe qw ∧ PC3 u9 jk ∧ PC1 Qp jt ∧ PC2 ve jd ∧ PC5 vc z8 ∧ PC6 ui z1 ∧ PC5 wx jr ∧ PC1 vw yn := by
 refine qw.mutual_partial_correctness Qe u9 Qp ve vc ui wx vw (fun qw jk jt qo we j7 a0 a1 r h => ?_) (fun qw jk qo we t1 o0 o2 r h => ?_) (fun jt jd yn j7 wj v6 a0 r h => ?_) (fun jd z8 wj yi o0 o2 r h => ?_) (fun z1 ko a0 a1 a2 a3 a4 r h => ?_) (fun jr w7 t4 o0 o1_0 o1_1 o1_2 o1_3 r h => ?_) (fun qw z1 qo ko o0 o1_0 o1_1 o1_2 o1_3 r h => ?_) (fun qw z8 qo yi a0 r h => ?_)
 ·unfold qg at h
  refine Zc (T := tt) (N := 33) (rs := [.cell 4 26]) (fun vs w => by simp) Tryd.func11 rfl rfl rfl (by kernel_rfl) (by kernel_rfl) (yw rfl rfl y8) (zk zp) (fun r => (yv rfl y6)) (fun r => (zk zp)) (fun _ => rfl) (fun _ => rfl) rfl (fun _ => rfl) ?_
  refine kr [1000000] ?_
  refine qi (fun hb => ?_) (fun hb => ?_)
  ·replace h := zf hb h
   refine kr [1000000] ?_
   obtain ⟨x1, hx, h⟩ := bind_some h
   rcases x1 with ee | x1
   ·replace h : some (.error ee) = some r := h
    cases h
    exact qz (FC.go (j7 _ _ hx) [0] [0] rfl rfl rfl rfl rfl rfl)
   refine qb (AC.g9 (j7 _ _ hx) [0] [0]) ?_
   refine kr [1000000] ?_
   cases h
   exact j4 env rfl rfl (tS [some 0] (sV (lS (lS lN)) zx) (j5 (ya (qf (qe (zt rfl) rfl) (qf (qe (jl rfl) rfl) (qf (qe (yl (.inl rfl)) rfl) (qf (qe (yl (.inl rfl)) rfl) j9))))) (by simp)))
  replace h := zg hb h
  refine kr [1000000] ?_
  obtain ⟨x2, hx, h⟩ := bind_some h
  rcases x2 with ee | x2
  ·replace h : some (.error ee) = some r := h
   cases h
   exact qz (FC.go (qo _ _ _ hx) [0] [0] rfl rfl rfl rfl rfl rfl)
  refine qb (AC.g9 (qo _ _ _ hx) [0] [0]) ?_
  refine kr [1000000] ?_
  exact vv (by kernel_rfl) lQ (we _ _ _ _ h)
 ·unfold qg at h
  refine Q3 ?_
  refine kr [1000000] ?_
  obtain ⟨x34, hx, h⟩ := bind_some h
  refine qb (AC.g9 (zj _ _ hx) [0] [0]) ?_
  refine kr [1000000] ?_
  obtain ⟨x35, hx, h⟩ := bind_some h
  refine qr (qhy _ _ hx) ?_
  refine kr [1000000] ?_
  refine qi (fun hb => ?_) (fun hb => ?_)
  ·replace h := zf hb h
   refine kr [1000000] ?_
   obtain ⟨x36, hx, h⟩ := bind_some h
   refine qb (ACalls.ghost (e := 26) (AC.g9 (yx _ _ _ hx) [0, 3] [0, 3])) ?_
   refine kr [1000000] ?_
   obtain ⟨x37, hx, h⟩ := bind_some h
   refine qb (AC.g9 (Jl _ _ _ _ _ _ hx) [4, 3] [5, 4]) ?_
   refine kr [1000000] ?_
   obtain ⟨x38, hx, h⟩ := bind_some h
   rcases x38 with ee | x38
   ·replace h : some (.error ee) = some r := h
    cases h
    exact qz (FC.go (qo _ _ _ hx) [0] [0] rfl rfl rfl rfl rfl rfl)
   refine qb (AC.g9 (qo _ _ _ hx) [0] [0]) ?_
   refine kr [1000000] ?_
   obtain ⟨x39, hx, h⟩ := bind_some h
   refine qb (AC.g9 (Jl _ _ _ _ _ _ hx) [4, 3] [5, 6]) ?_
   refine kr [1000000] ?_
   refine qi (fun hb => ?_) (fun hb => ?_)
   ·replace h := zf hb h
    refine kr [1000000] ?_
    refine Z1 2 3 3 zl rfl rfl rfl rfl rfl rfl ?_
    exact zi (by kernel_rfl) rfl lQ (Zg _ _ _ h)
   replace h := zg hb h
   refine kr [1000000] ?_
   refine qgq 2 3 3 zl rfl rfl rfl rfl rfl ?_
   exact ux (by kernel_rfl) lQ (we _ _ _ _ h)
  replace h := zg hb h
  refine kr [1000000] ?_
  exact zi (by kernel_rfl) rfl lQ (Zg _ _ _ h)
 ·unfold qg at h
  refine Zc (T := tt) (N := 33) (rs := [.cell 2 26]) (fun vs w => by simp) Tryd.func21 rfl rfl rfl (by kernel_rfl) (by kernel_rfl) (yw rfl rfl y8) (zk zp) (fun r => (yv rfl y6)) (fun r => (zk zp)) (fun _ => rfl) (fun _ => rfl) rfl (fun _ => rfl) ?_
  refine kr [3000023] ?_
  obtain ⟨x3, hx, h⟩ := bind_some h
  refine qb (AC.g9 (q9 _ _ _ hx) [0] [0]) ?_
  refine kr [3000023] ?_
  refine qu (fun hb => ?_) (fun hb => ?_)
  ·replace h := zg hb h
   refine kr [3000023] ?_
   obtain ⟨x4, hx, h⟩ := bind_some h
   refine qb (AC.g9 (q9 _ _ _ hx) [0] [0]) ?_
   refine kr [3000023] ?_
   refine qi (fun hb => ?_) (fun hb => ?_)
   ·replace h := zf hb h
    refine kr [3000023] ?_
    obtain ⟨x5, hx, h⟩ := bind_some h
    refine qb (ACalls.ghost (e := 26) (AC.g9 (yx _ _ _ hx) [0, 2] [0, 2])) ?_
    refine kr [3000023] ?_
    obtain ⟨x6, hx, h⟩ := bind_some h
    rcases x6 with ee | x6
    ·replace h : some (.error ee) = some r := h
     cases h
     exact qz (FC.go (j7 _ _ hx) [0] [0] rfl rfl rfl rfl rfl rfl)
    refine qb (AC.g9 (j7 _ _ hx) [0] [0]) ?_
    refine kr [3000023] ?_
    obtain ⟨x7, hx, h⟩ := bind_some h
    refine qb (AC.g9 (Jl _ _ _ _ _ _ hx) [3, 2] [4, 3]) ?_
    refine kr [3000023] ?_
    cases h
    exact j4 env rfl rfl (tS [some 0] (sV (lS (lS lN)) zx) (j5 (ya (qf (qe (zt rfl) rfl) (qf (qe (jl rfl) rfl) (qf (qe (yl (.inl rfl)) rfl) (qf (qe (jv zl rfl) rfl) j9))))) (by simp)))
   replace h := zg hb h
   refine kr [3000023] ?_
   obtain ⟨x8, hx, h⟩ := bind_some h
   rcases x8 with ee | x8
   ·replace h : some (.error ee) = some r := h
    cases h
    exact qz (FC.go (v6 _ _ hx) [0] [0] rfl rfl rfl rfl rfl rfl)
   refine qb (AC.g9 (v6 _ _ hx) [0] [0]) ?_
   refine kr [3000023] ?_
   exact vv (by kernel_rfl) lQ (wj _ _ _ h)
  replace h := zf hb h
  refine kr [3000023] ?_
  obtain ⟨x9, hx, h⟩ := bind_some h
  refine qb (ACalls.ghost (e := 26) (AC.g9 (yx _ _ _ hx) [0, 2] [0, 2])) ?_
  refine kr [3000023] ?_
  obtain ⟨x10, hx, h⟩ := bind_some h
  rcases x10 with ee | x10
  ·replace h : some (.error ee) = some r := h
   cases h
   exact qz (FC.go (j7 _ _ hx) [0] [0] rfl rfl rfl rfl rfl rfl)
  refine qb (AC.g9 (j7 _ _ hx) [0] [0]) ?_
  refine kr [3000023] ?_
  obtain ⟨x11, hx, h⟩ := bind_some h
  refine qb (AC.g9 (Jl _ _ _ _ _ _ hx) [3, 2] [4, 3]) ?_
  refine kr [3000023] ?_
  cases h
  exact j4 env rfl rfl (tS [some 0] (sV (lS (lS lN)) zx) (j5 (ya (qf (qe (zt rfl) rfl) (qf (qe (jl rfl) rfl) (qf (qe (yl (.inl rfl)) rfl) (qf (qe (jv zl rfl) rfl) j9))))) (by simp)))
 ·unfold qg at h
  refine Q3 ?_
  refine kr [3000023] ?_
  obtain ⟨x40, hx, h⟩ := bind_some h
  refine qb (AC.g9 (q9 _ _ _ hx) [0] [0]) ?_
  refine kr [3000023] ?_
  refine qi (fun hb => ?_) (fun hb => ?_)
  ·replace h := zf hb h
   refine kr [3000023] ?_
   refine qu8 (l := [o2]) (C := Node.cells) env rfl rfl rfl rfl rfl rfl (by simp only [List.map_cons, List.map_nil, Node.cells_eq]; rfl) (by simp only [List.map_cons, List.map_nil, Node.cells_eq]; rfl) rfl ?_
   refine kr [3000023] ?_
   obtain ⟨x41, hx, h⟩ := bind_some h
   rcases x41 with ee | x41
   ·replace h : some (.error ee) = some r := h
    cases h
    exact qz (FCalls.ghost (e := 9) (FCalls.wkg (FC.go (objs := [(0, .var 48 (Reader.cells o0)), (1, .var 26 [(.int .i64 0), (.str ⟨#[]⟩), (.sl 0 true []), (.sl 0 true [])]), (2, .var 26 (zu o2)), (3, .row 26 (([o2] : LN).map Node.cells).flatten), (4, .var 26 [(.int .i64 (21 : Int)), (.str ⟨#[]⟩), (.bs 1 5 5 0 ([] : LB).length), (.bs 4 3 3 0 ([o2] : LN).length)]), (5, .row 9 (([] : LB).map sc).flatten)]) (xs := [(.ptr 0 0 0), (.ptr 4 4 0), (.str (⟨#[46]⟩ : BA))]) (qa _ _ _ _ _ _ _ hx) [0, 4, 5, 3] [0, 4, 5, 3] rfl rfl rfl rfl rfl rfl) (qh (qp _) (qh (qp _) (qh (qp _) jf))) (qd (qd (qd (qd (je (qc (qv _) (qc (qv _) (qc (ze rfl) (qc (qv _) ju)))) (zr _))))))))
   refine qb (ACalls.ghost (e := 9) (ACalls.wkg (AC.go (objs := [(0, .var 48 (Reader.cells o0)), (1, .var 26 [(.int .i64 0), (.str ⟨#[]⟩), (.sl 0 true []), (.sl 0 true [])]), (2, .var 26 (zu o2)), (3, .row 26 (([o2] : LN).map Node.cells).flatten), (4, .var 26 [(.int .i64 (21 : Int)), (.str ⟨#[]⟩), (.bs 1 5 5 0 ([] : LB).length), (.bs 4 3 3 0 ([o2] : LN).length)]), (5, .row 9 (([] : LB).map sc).flatten)]) (xs := [(.ptr 0 0 0), (.ptr 4 4 0), (.str (⟨#[46]⟩ : BA))]) (qa _ _ _ _ _ _ _ hx) [0, 4, 5, 3] [0, 4, 5, 3] rfl rfl rfl rfl rfl rfl rfl rfl rfl) (qh (qp _) (qh (qp _) (qh (qp _) jf))) (qd (qd (qd (qd (je (qc (qv _) (qc (qv _) (qc (ze rfl) (qc (qv _) ju)))) (zr _)))))))) ?_
   refine kr [3000023] ?_
   obtain ⟨x42, hx, h⟩ := bind_some h
   rcases x42 with ee | x42
   ·replace h : some (.error ee) = some r := h
    cases h
    exact qz (FC.go (zb _ _ _ _ _ _ hx) [0, 4, 5, 3] [0, 4, 6, 3] rfl rfl rfl rfl rfl rfl)
   refine qb (AC.g9 (zb _ _ _ _ _ _ hx) [0, 4, 5, 3] [0, 4, 6, 3]) ?_
   refine kr [3000023] ?_
   obtain ⟨x43, hx, h⟩ := bind_some h
   rcases x43 with ee | x43
   ·replace h : some (.error ee) = some r := h
    cases h
    exact qz (FC.go (yi _ _ _ _ _ _ hx) [0, 4, 5, 3] [0, 4, 7, 3] rfl rfl rfl rfl rfl rfl)
   refine qb (AC.g9 (yi _ _ _ _ _ _ hx) [0, 4, 5, 3] [0, 4, 7, 3]) ?_
   refine kr [3000023] ?_
   refine qgq 2 2 5 kp rfl rfl rfl rfl rfl ?_
   refine qgq 2 3 3 zl rfl rfl rfl rfl rfl ?_
   exact ux (by kernel_rfl) lQ (wj _ _ _ h)
  replace h := zg hb h
  refine kr [3000023] ?_
  cases h
  exact j4 env rfl rfl (tS [some 0] (sV (lS (lS lN)) zx) (j5 (ya (qf (qe (zt rfl) rfl) (qf (qe (jl rfl) rfl) (qf (qe (yl (.inl rfl)) rfl) (qf (qe (yl (.inl rfl)) rfl) j9))))) (by simp)))
 ·unfold qg at h
  refine Zc (T := tt) (N := 23) (rs := []) (fun vs w => by simp) Tryd.func37 rfl rfl rfl (by kernel_rfl) (by kernel_rfl) (yw rfl rfl (yw rfl rfl (Yg kp rfl (Yg zl rfl y8)))) (zk (zk (wv kp (wv zl zp)))) (fun r => (yv rfl (yv rfl (Ja kp (Ja zl y6))))) (fun r => (zk (zk (wv kp (wv zl zp))))) (fun _ => rfl) (fun _ => rfl) rfl (fun _ => rfl) ?_
  refine kr [12] ?_
  obtain ⟨x33, hx, h⟩ := bind_some h
  rcases x33 with ee | x33
  ·replace h : some (.error ee) = some r := h
   cases h
   exact qz (FC.go (qa _ _ _ _ _ _ _ hx) [0, 1, 2, 3] [0, 1, 2, 3] rfl rfl rfl rfl rfl rfl)
  refine qb (AC.g9 (qa _ _ _ _ _ _ _ hx) [0, 1, 2, 3] [0, 1, 2, 3]) ?_
  refine kr [12] ?_
  exact vv (by kernel_rfl) lQ (ko _ _ _ _ _ _ _ h)
 ·unfold qg at h
  refine Q3 ?_
  refine kr [12] ?_
  obtain ⟨x44, hx, h⟩ := bind_some h
  refine qb (AC.g9 (q9 _ _ _ hx) [0] [0]) ?_
  refine kr [12] ?_
  refine qi (fun hb => ?_) (fun hb => ?_)
  ·replace h := zf hb h
   refine kr [12] ?_
   refine qi (fun hb => ?_) (fun hb => ?_)
   ·replace h := zf hb h
    refine kr [12] ?_
    obtain ⟨x45, hx, h⟩ := bind_some h
    rcases x45 with ee | x45
    ·replace h : some (.error ee) = some r := h
     cases h
     exact qz (FC.go (qa _ _ _ _ _ _ _ hx) [0, 1, 2, 3] [0, 1, 5, 6] rfl rfl rfl rfl rfl rfl)
    refine qb (AC.g9 (qa _ _ _ _ _ _ _ hx) [0, 1, 2, 3] [0, 1, 5, 6]) ?_
    refine kr [12] ?_
    exact zi (by kernel_rfl) rfl lQ (w7 _ _ _ _ _ _ h)
   replace h := zg hb h
   refine kr [12] ?_
   exact zi (by kernel_rfl) rfl lQ (w7 _ _ _ _ _ _ h)
  replace h := zg hb h
  refine kr [12] ?_
  obtain ⟨x46, hx, h⟩ := bind_some h
  rcases x46 with ee | x46
  ·replace h : some (.error ee) = some r := h
   cases h
   exact qz (FC.go (qa _ _ _ _ _ _ _ hx) [0, 1, 2, 3] [0, 1, 5, 6] rfl rfl rfl rfl rfl rfl)
  refine qb (AC.g9 (qa _ _ _ _ _ _ _ hx) [0, 1, 2, 3] [0, 1, 5, 6]) ?_
  refine kr [12] ?_
  cases h
  exact Kx env rfl (tS [some 0, some 1, some 2, some 3] (sV (lS (lS lN)) (sV (lS (lS (lS (lS lN)))) (sR kp (sR zl zx)))) (qcf qab))
 ·unfold qg at h
  refine kr [12] ?_
  obtain ⟨x47, hx, h⟩ := bind_some h
  rcases x47 with ee | x47
  ·replace h : some (.error ee) = some r := h
   cases h
   exact qz (FC.go (qo _ _ _ hx) [0] [0] rfl rfl rfl rfl rfl rfl)
  refine qb (AC.g9 (qo _ _ _ hx) [0] [0]) ?_
  refine kr [12] ?_
  obtain ⟨x48, hx, h⟩ := bind_some h
  refine qb (AC.g9 (zn _ _ _ _ _ _ hx) [1, 2, 3] [1, 8, 9]) ?_
  refine kr [12] ?_
  exact ux (by kernel_rfl) lQ (ko _ _ _ _ _ _ _ h)
 unfold qg at h
 refine Zc (T := tt) (N := 61) (rs := [.cell 2 26]) (fun vs w => by simp) Tryd.func36 rfl rfl rfl (by kernel_rfl) (by kernel_rfl) (yw rfl rfl y8) (zk zp) (fun r => (yv rfl y6)) (fun r => (zk zp)) (fun _ => rfl) (fun _ => rfl) rfl (fun _ => rfl) ?_
 refine kr [56] ?_
 obtain ⟨x12, hx, h⟩ := bind_some h
 refine qb (AC.g9 (zj _ _ hx) [0] [0]) ?_
 refine kr [56] ?_
 refine qi (fun hb => ?_) (fun hb => ?_)
 ·replace h := zf hb h
  refine kr [56] ?_
  obtain ⟨x13, hx, h⟩ := bind_some h
  refine qb (ACalls.ghost (e := 26) (AC.g9 (yx _ _ _ hx) [0, 3] [0, 3])) ?_
  refine kr [56] ?_
  cases h
  exact j4 env rfl rfl (tS [some 0] (sV (lS (lS lN)) zx) (j5 (ya (qf (qe (zt rfl) rfl) (qf (qe (jl rfl) rfl) (qf (qe (yl (.inl rfl)) rfl) (qf (qe (jv zl rfl) rfl) j9))))) (by simp)))
 replace h := zg hb h
 refine kr [56] ?_
 obtain ⟨x14, hx, h⟩ := bind_some h
 refine qb (AC.g9 (q9 _ _ _ hx) [0] [0]) ?_
 refine kr [56] ?_
 refine qi (fun hb => ?_) (fun hb => ?_)
 ·replace h := zf hb h
  refine kr [56] ?_
  obtain ⟨x15, hx, h⟩ := bind_some h
  refine qb (ACalls.ghost (e := 26) (AC.g9 (yx _ _ _ hx) [0, 3] [0, 3])) ?_
  refine kr [56] ?_
  cases h
  exact j4 env rfl rfl (tS [some 0] (sV (lS (lS lN)) zx) (j5 (ya (qf (qe (zt rfl) rfl) (qf (qe (jl rfl) rfl) (qf (qe (yl (.inl rfl)) rfl) (qf (qe (jv zl rfl) rfl) j9))))) (by simp)))
 replace h := zg hb h
 refine kr [56] ?_
 obtain ⟨x16, hx, h⟩ := bind_some h
 refine qb (AC.g9 (q9 _ _ _ hx) [0] [0]) ?_
 refine kr [56] ?_
 refine qi (fun hb => ?_) (fun hb => ?_)
 ·replace h := zf hb h
  refine kr [56] ?_
  obtain ⟨x17, hx, h⟩ := bind_some h
  refine qb (ACalls.ghost (e := 26) (AC.g9 (yx _ _ _ hx) [0, 3] [0, 3])) ?_
  refine kr [56] ?_
  cases h
  exact j4 env rfl rfl (tS [some 0] (sV (lS (lS lN)) zx) (j5 (ya (qf (qe (zt rfl) rfl) (qf (qe (jl rfl) rfl) (qf (qe (yl (.inl rfl)) rfl) (qf (qe (jv zl rfl) rfl) j9))))) (by simp)))
 replace h := zg hb h
 refine kr [56] ?_
 obtain ⟨x18, hx, h⟩ := bind_some h
 refine qb (AC.g9 (q9 _ _ _ hx) [0] [0]) ?_
 refine kr [56] ?_
 refine qi (fun hb => ?_) (fun hb => ?_)
 ·replace h := zf hb h
  refine kr [56] ?_
  obtain ⟨x19, hx, h⟩ := bind_some h
  refine qb (ACalls.ghost (e := 26) (AC.g9 (yx _ _ _ hx) [0, 3] [0, 3])) ?_
  refine kr [56] ?_
  cases h
  exact j4 env rfl rfl (tS [some 0] (sV (lS (lS lN)) zx) (j5 (ya (qf (qe (zt rfl) rfl) (qf (qe (jl rfl) rfl) (qf (qe (yl (.inl rfl)) rfl) (qf (qe (jv zl rfl) rfl) j9))))) (by simp)))
 replace h := zg hb h
 refine kr [56] ?_
 obtain ⟨x20, hx, h⟩ := bind_some h
 refine qb (AC.g9 (q9 _ _ _ hx) [0] [0]) ?_
 refine kr [56] ?_
 refine qi (fun hb => ?_) (fun hb => ?_)
 ·replace h := zf hb h
  refine kr [56] ?_
  obtain ⟨x21, hx, h⟩ := bind_some h
  rcases x21 with ee | x21
  ·replace h : some (.error ee) = some r := h
   cases h
   exact qz (FCalls.ghost (e := 9) (FCalls.ghost (e := 26) (FCalls.wkg (FC.go (objs := [(0, .var 48 (Reader.cells a0)), (1, .var 26 [(.int .i64 0), (.str ⟨#[]⟩), (.sl 0 true []), (.sl 0 true [])]), (2, .var 39 (Token.cells x12)), (3, .var 26 [(.int .i64 (22 : Int)), (.str ⟨#[]⟩), (.bs 1 4 4 0 ([] : LB).length), (.bs 4 5 5 0 ([] : LN).length)]), (4, .row 9 (([] : LB).map sc).flatten), (5, .row 26 (([] : LN).map Node.cells).flatten)]) (xs := [(.ptr 0 0 0), (.ptr 3 3 0), (.str (⟨#[110, 101, 119]⟩ : BA))]) (qa _ _ _ _ _ _ _ hx) [0, 3, 4, 5] [0, 3, 4, 5] rfl rfl rfl rfl rfl rfl) (qh (qp _) (qh (qp _) (qh (qp _) jf))) (qd (qd (qd (je (qc (qv _) (qc (qv _) (qc (ze rfl) (qc (ze rfl) ju)))) (zr _))))))))
  refine qb (ACalls.ghost (e := 9) (ACalls.ghost (e := 26) (ACalls.wkg (AC.go (objs := [(0, .var 48 (Reader.cells a0)), (1, .var 26 [(.int .i64 0), (.str ⟨#[]⟩), (.sl 0 true []), (.sl 0 true [])]), (2, .var 39 (Token.cells x12)), (3, .var 26 [(.int .i64 (22 : Int)), (.str ⟨#[]⟩), (.bs 1 4 4 0 ([] : LB).length), (.bs 4 5 5 0 ([] : LN).length)]), (4, .row 9 (([] : LB).map sc).flatten), (5, .row 26 (([] : LN).map Node.cells).flatten)]) (xs := [(.ptr 0 0 0), (.ptr 3 3 0), (.str (⟨#[110, 101, 119]⟩ : BA))]) (qa _ _ _ _ _ _ _ hx) [0, 3, 4, 5] [0, 3, 4, 5] rfl rfl rfl rfl rfl rfl rfl rfl rfl) (qh (qp _) (qh (qp _) (qh (qp _) jf))) (qd (qd (qd (je (qc (qv _) (qc (qv _) (qc (ze rfl) (qc (ze rfl) ju)))) (zr _)))))))) ?_
  refine kr [56] ?_
  obtain ⟨x22, hx, h⟩ := bind_some h
  rcases x22 with ee | x22
  ·replace h : some (.error ee) = some r := h
   cases h
   exact qz (FC.go (zb _ _ _ _ _ _ hx) [0, 3, 4, 5] [0, 3, 6, 5] rfl rfl rfl rfl rfl rfl)
  refine qb (AC.g9 (zb _ _ _ _ _ _ hx) [0, 3, 4, 5] [0, 3, 6, 5]) ?_
  refine kr [56] ?_
  obtain ⟨x23, hx, h⟩ := bind_some h
  rcases x23 with ee | x23
  ·replace h : some (.error ee) = some r := h
   cases h
   exact qz (FC.go (qa _ _ _ _ _ _ _ hx) [0, 3, 4, 5] [0, 3, 7, 5] rfl rfl rfl rfl rfl rfl)
  refine qb (AC.g9 (qa _ _ _ _ _ _ _ hx) [0, 3, 4, 5] [0, 3, 7, 5]) ?_
  refine kr [56] ?_
  obtain ⟨x24, hx, h⟩ := bind_some h
  rcases x24 with ee | x24
  ·replace h : some (.error ee) = some r := h
   cases h
   exact qz (FC.go (qa _ _ _ _ _ _ _ hx) [0, 3, 4, 5] [0, 3, 8, 5] rfl rfl rfl rfl rfl rfl)
  refine qb (AC.g9 (qa _ _ _ _ _ _ _ hx) [0, 3, 4, 5] [0, 3, 8, 5]) ?_
  refine kr [56] ?_
  cases h
  exact j4 env rfl rfl (tS [some 0] (sV (lS (lS lN)) zx) (j5 (ya (qf (qe (zt rfl) rfl) (qf (qe (jl rfl) rfl) (qf (qe (jv kp rfl) rfl) (qf (qe (jv zl rfl) rfl) j9))))) (by simp)))
 replace h := zg hb h
 refine kr [56] ?_
 obtain ⟨x25, hx, h⟩ := bind_some h
 refine qb (AC.g9 (q9 _ _ _ hx) [0] [0]) ?_
 refine kr [56] ?_
 refine qi (fun hb => ?_) (fun hb => ?_)
 ·replace h := zf hb h
  refine kr [56] ?_
  obtain ⟨x26, hx, h⟩ := bind_some h
  rcases x26 with ee | x26
  ·replace h : some (.error ee) = some r := h
   cases h
   exact qz (FCalls.ghost (e := 9) (FCalls.ghost (e := 26) (FCalls.wkg (FC.go (objs := [(0, .var 48 (Reader.cells a0)), (1, .var 26 [(.int .i64 0), (.str ⟨#[]⟩), (.sl 0 true []), (.sl 0 true [])]), (2, .var 39 (Token.cells x12)), (3, .var 26 [(.int .i64 (26 : Int)), (.str ⟨#[]⟩), (.bs 1 4 4 0 ([] : LB).length), (.bs 4 5 5 0 ([] : LN).length)]), (4, .row 9 (([] : LB).map sc).flatten), (5, .row 26 (([] : LN).map Node.cells).flatten)]) (xs := [(.ptr 0 0 0), (.ptr 3 3 0), (.str (⟨#[40]⟩ : BA))]) (qa _ _ _ _ _ _ _ hx) [0, 3, 4, 5] [0, 3, 4, 5] rfl rfl rfl rfl rfl rfl) (qh (qp _) (qh (qp _) (qh (qp _) jf))) (qd (qd (qd (je (qc (qv _) (qc (qv _) (qc (ze rfl) (qc (ze rfl) ju)))) (zr _))))))))
  refine qb (ACalls.ghost (e := 9) (ACalls.ghost (e := 26) (ACalls.wkg (AC.go (objs := [(0, .var 48 (Reader.cells a0)), (1, .var 26 [(.int .i64 0), (.str ⟨#[]⟩), (.sl 0 true []), (.sl 0 true [])]), (2, .var 39 (Token.cells x12)), (3, .var 26 [(.int .i64 (26 : Int)), (.str ⟨#[]⟩), (.bs 1 4 4 0 ([] : LB).length), (.bs 4 5 5 0 ([] : LN).length)]), (4, .row 9 (([] : LB).map sc).flatten), (5, .row 26 (([] : LN).map Node.cells).flatten)]) (xs := [(.ptr 0 0 0), (.ptr 3 3 0), (.str (⟨#[40]⟩ : BA))]) (qa _ _ _ _ _ _ _ hx) [0, 3, 4, 5] [0, 3, 4, 5] rfl rfl rfl rfl rfl rfl rfl rfl rfl) (qh (qp _) (qh (qp _) (qh (qp _) jf))) (qd (qd (qd (je (qc (qv _) (qc (qv _) (qc (ze rfl) (qc (ze rfl) ju)))) (zr _)))))))) ?_
  refine kr [56] ?_
  obtain ⟨x27, hx, h⟩ := bind_some h
  rcases x27 with ee | x27
  ·replace h : some (.error ee) = some r := h
   cases h
   exact qz (FC.go (qo _ _ _ hx) [0] [0] rfl rfl rfl rfl rfl rfl)
  refine qb (AC.g9 (qo _ _ _ hx) [0] [0]) ?_
  refine kr [56] ?_
  obtain ⟨x28, hx, h⟩ := bind_some h
  refine qb (AC.g9 (zn _ _ _ _ _ _ hx) [3, 4, 5] [3, 6, 5]) ?_
  refine kr [56] ?_
  obtain ⟨x29, hx, h⟩ := bind_some h
  rcases x29 with ee | x29
  ·replace h : some (.error ee) = some r := h
   cases h
   exact qz (FC.go (qa _ _ _ _ _ _ _ hx) [0, 3, 4, 5] [0, 3, 6, 7] rfl rfl rfl rfl rfl rfl)
  refine qb (AC.g9 (qa _ _ _ _ _ _ _ hx) [0, 3, 4, 5] [0, 3, 6, 7]) ?_
  refine kr [56] ?_
  cases h
  exact j4 env rfl rfl (tS [some 0] (sV (lS (lS lN)) zx) (j5 (ya (qf (qe (zt rfl) rfl) (qf (qe (jl rfl) rfl) (qf (qe (jv kp rfl) rfl) (qf (qe (jv zl rfl) rfl) j9))))) (by simp)))
 replace h := zg hb h
 refine kr [56] ?_
 obtain ⟨x30, hx, h⟩ := bind_some h
 rcases x30 with ee | x30
 ·replace h : some (.error ee) = some r := h
  cases h
  exact qz (FCalls.ghost (e := 9) (FCalls.ghost (e := 26) (FCalls.wkg (FC.go (objs := [(0, .var 48 (Reader.cells a0)), (1, .var 26 [(.int .i64 0), (.str ⟨#[]⟩), (.sl 0 true []), (.sl 0 true [])]), (2, .var 39 (Token.cells x12)), (3, .var 26 [(.int .i64 (19 : Int)), (.str ⟨#[]⟩), (.bs 1 4 4 0 ([] : LB).length), (.bs 4 5 5 0 ([] : LN).length)]), (4, .row 9 (([] : LB).map sc).flatten), (5, .row 26 (([] : LN).map Node.cells).flatten)]) (xs := [(.ptr 0 0 0), (.ptr 3 3 0)]) (zb _ _ _ _ _ _ hx) [0, 3, 4, 5] [0, 3, 4, 5] rfl rfl rfl rfl rfl rfl) (qh (qp _) (qh (qp _) jf)) (qd (qd (qd (je (qc (qv _) (qc (qv _) (qc (ze rfl) (qc (ze rfl) ju)))) (zr _))))))))
 refine qb (ACalls.ghost (e := 9) (ACalls.ghost (e := 26) (ACalls.wkg (AC.go (objs := [(0, .var 48 (Reader.cells a0)), (1, .var 26 [(.int .i64 0), (.str ⟨#[]⟩), (.sl 0 true []), (.sl 0 true [])]), (2, .var 39 (Token.cells x12)), (3, .var 26 [(.int .i64 (19 : Int)), (.str ⟨#[]⟩), (.bs 1 4 4 0 ([] : LB).length), (.bs 4 5 5 0 ([] : LN).length)]), (4, .row 9 (([] : LB).map sc).flatten), (5, .row 26 (([] : LN).map Node.cells).flatten)]) (xs := [(.ptr 0 0 0), (.ptr 3 3 0)]) (zb _ _ _ _ _ _ hx) [0, 3, 4, 5] [0, 3, 4, 5] rfl rfl rfl rfl rfl rfl rfl rfl rfl) (qh (qp _) (qh (qp _) jf)) (qd (qd (qd (je (qc (qv _) (qc (qv _) (qc (ze rfl) (qc (ze rfl) ju)))) (zr _)))))))) ?_
 refine kr [56] ?_
 obtain ⟨x31, hx, h⟩ := bind_some h
 refine qb (AC.g9 (q9 _ _ _ hx) [0] [0]) ?_
 refine kr [56] ?_
 refine qi (fun hb => ?_) (fun hb => ?_)
 ·replace h := zf hb h
  refine kr [56] ?_
  obtain ⟨x32, hx, h⟩ := bind_some h
  rcases x32 with ee | x32
  ·replace h : some (.error ee) = some r := h
   cases h
   exact qz (FC.go (yi _ _ _ _ _ _ hx) [0, 3, 4, 5] [0, 3, 6, 5] rfl rfl rfl rfl rfl rfl)
  refine qb (AC.g9 (yi _ _ _ _ _ _ hx) [0, 3, 4, 5] [0, 3, 6, 5]) ?_
  refine kr [56] ?_
  exact zi (by kernel_rfl) rfl lQ (Q4 _ _ _ _ _ _ h)
 replace h := zg hb h
 refine kr [56] ?_
 exact zi (by kernel_rfl) rfl lQ (Q4 _ _ _ _ _ _ h)
theorem qo : PC2 Qe qw := jp.1
theorem we : PC3 u9 jk := jp.2.1
theorem j7 : PC1 Qp jt := jp.2.2.1
theorem wj : PC2 ve jd := jp.2.2.2.1
theorem yi : PC5 vc z8 := jp.2.2.2.2.1
theorem ko : PC6 ui z1 := jp.2.2.2.2.2.1
theorem w7 : PC5 wx jr := jp.2.2.2.2.2.2.1
theorem v6 : PC1 vw yn := jp.2.2.2.2.2.2.2
def Z5 (a0 : Reader) : Option (Except Int (Node × Reader)) :=
 qw a0 (1 : Int) >>= fun x1 =>
 match x1 with
 | .error ee => some (.error ee)
 | .ok x1 =>
 some (.ok (x1.1, x1.2))
@[reducible] def qem (a0 : Reader) (r : Except Int (Node × Reader)) : Prop :=
  exq (fun (r : Node × Reader) => AC Tryd.prog G 10 [(.ptr 0 0 0)] 1 [(0, .var 48 (Reader.cells a0))] (.agg (zu r.1)) 1 [(0, .var 48 (Reader.cells r.2))]) (fun e => FC Tryd.prog G 10 [(.ptr 0 0 0)] 1 [(0, .var 48 (Reader.cells a0))] (flt e)) r
theorem Wb : PC1 qem Z5 := fun a0 r h => by
 rw [Z5.eq_def] at h
 refine Zc (T := tt) (N := 5) (rs := [.cell 2 26]) (fun vs w => by simp) Tryd.func10 rfl rfl rfl (by kernel_rfl) (by kernel_rfl) (yw rfl rfl y8) (zk zp) (fun r => (yv rfl y6)) (fun r => (zk zp)) (fun _ => rfl) (fun _ => rfl) rfl (fun _ => rfl) ?_
 refine kr [] ?_
 obtain ⟨x1, hx, h⟩ := bind_some h
 rcases x1 with ee | x1
 ·replace h : some (.error ee) = some r := h
  cases h
  exact qz (FC.go (qo _ _ _ hx) [0] [0] rfl rfl rfl rfl rfl rfl)
 refine qb (AC.g9 (qo _ _ _ hx) [0] [0]) ?_
 refine kr [] ?_
 cases h
 exact j4 env rfl rfl (tS [some 0] (sV (lS (lS lN)) zx) (j5 (ya (qf (qe (zt rfl) rfl) (qf (qe (jl rfl) rfl) (qf (qe (yl (.inl rfl)) rfl) (qf (qe (yl (.inl rfl)) rfl) j9))))) (by simp)))
def Yu (o0 : Reader) (o2 : Node) : Option (Except Int (Node × Reader)) :=
 some (.ok (o2, o0))
@[reducible] def qkj (o0 : Reader) (o2 : Node) (r : Except Int (Node × Reader)) : Prop :=
  Ok Tryd.prog G tt 21 1 (exq (fun (r : Node × Reader) => Ret Tryd.prog [.cell 3 26] (fun y H => Qt Tryd.prog G 1 H y (.agg (zu r.1)) ⟨1, [(0, .var 48 (Reader.cells r.2))]⟩)) (fun e => Q5 (flt e)) r) (.go [] (Zu [17] Tryd.f18 17) [] (.n .undef (.n .undef (.n (.ptr 1 1 0) .z .z) .z) (.n .undef (.n (.ptr 2 2 0) .z .z) .z)) 3 [(0, .var 48 (Reader.cells o0)), (1, .var 26 [(.int .i64 0), (.str ⟨#[]⟩), (.sl 0 true []), (.sl 0 true [])]), (2, .var 26 (zu o2))])
theorem Wd : PC2 qkj Yu := fun o0 o2 r h => by
 rw [Yu.eq_def] at h
 refine kr [17] ?_
 cases h
 exact j4 env rfl rfl (tS [some 0] (sV (lS (lS lN)) zx) (j5 (ya (qf (qe (zt rfl) rfl) (qf (qe (jl rfl) rfl) (qf (qe (yl (.inl rfl)) rfl) (qf (qe (yl (.inl rfl)) rfl) j9))))) (by simp)))
def Wh (a0 : Reader) : Option (Except Int (Node × Reader)) :=
 Z5 a0 >>= fun x1 =>
 match x1 with
 | .error ee => some (.error ee)
 | .ok x1 =>
 zd x1.2 >>= fun x2 =>
 if (!decide (x2.Kind = (4 : Int))) = true then
  zw x1.2 >>= fun x5 =>
  match x5 with
  | .error ee => some (.error ee)
  | .ok x5 =>
  Yu x1.2 x1.1
 else
  zd x1.2 >>= fun x3 =>
  if (!decide (x3.Lead = (⟨#[]⟩ : BA))) = true then
   zw x1.2 >>= fun x4 =>
   match x4 with
   | .error ee => some (.error ee)
   | .ok x4 =>
   Yu x1.2 x1.1
  else
   Yu x1.2 x1.1
@[reducible] def qrt (a0 : Reader) (r : Except Int (Node × Reader)) : Prop :=
  exq (fun (r : Node × Reader) => AC Tryd.prog G 18 [(.ptr 0 0 0), (.rptr [(.fn 10 [])])] 1 [(0, .var 48 (Reader.cells a0))] (.agg (zu r.1)) 1 [(0, .var 48 (Reader.cells r.2))]) (fun e => FC Tryd.prog G 18 [(.ptr 0 0 0), (.rptr [(.fn 10 [])])] 1 [(0, .var 48 (Reader.cells a0))] (flt e)) r
theorem qkp : PC1 qrt Wh := fun a0 r h => by
 rw [Wh.eq_def] at h
 refine Zc (T := tt) (N := 21) (rs := [.cell 3 26]) (fun vs w => by simp) Tryd.func18 rfl rfl rfl (by kernel_rfl) (by kernel_rfl) (yw rfl rfl y8) (zk zp) (fun r => (yv rfl y6)) (fun r => (zk zp)) (fun _ => rfl) (fun _ => rfl) rfl (fun _ => rfl) ?_
 refine kr [17] ?_
 obtain ⟨x1, hx, h⟩ := bind_some h
 rcases x1 with ee | x1
 ·replace h : some (.error ee) = some r := h
  cases h
  exact qz (FC.go (Wb _ _ hx) [0] [0] rfl rfl rfl rfl rfl rfl)
 refine qb (AC.g9 (Wb _ _ hx) [0] [0]) ?_
 refine kr [17] ?_
 obtain ⟨x2, hx, h⟩ := bind_some h
 refine qb (AC.g9 (zj _ _ hx) [0] [0]) ?_
 refine kr [17] ?_
 refine qu (fun hb => ?_) (fun hb => ?_)
 ·replace h := zg hb h
  refine kr [17] ?_
  obtain ⟨x3, hx, h⟩ := bind_some h
  refine qb (AC.g9 (zj _ _ hx) [0] [0]) ?_
  refine kr [17] ?_
  refine qi (fun hb => ?_) (fun hb => ?_)
  ·replace h := zf hb h
   refine kr [17] ?_
   obtain ⟨x4, hx, h⟩ := bind_some h
   rcases x4 with ee | x4
   ·replace h : some (.error ee) = some r := h
    cases h
    exact qz (FC.go (zh _ _ hx) [0] [0] rfl rfl rfl rfl rfl rfl)
   refine qb (AC.g9 (zh _ _ hx) [0] [0]) ?_
   refine kr [17] ?_
   exact zi (by kernel_rfl) rfl lQ (Wd _ _ _ h)
  replace h := zg hb h
  refine kr [17] ?_
  exact zi (by kernel_rfl) rfl lQ (Wd _ _ _ h)
 replace h := zf hb h
 refine kr [17] ?_
 obtain ⟨x5, hx, h⟩ := bind_some h
 rcases x5 with ee | x5
 ·replace h : some (.error ee) = some r := h
  cases h
  exact qz (FC.go (zh _ _ hx) [0] [0] rfl rfl rfl rfl rfl rfl)
 refine qb (AC.g9 (zh _ _ hx) [0] [0]) ?_
 refine kr [17] ?_
 exact zi (by kernel_rfl) rfl lQ (Wd _ _ _ h)
noncomputable def cfst : Code → Code
 | .seq x _ => x
 | c => c
noncomputable def csnd : Code → Code
 | .seq _ y => y
 | c => c
noncomputable def cthen : Code → Code
 | .cond _ x _ => x
 | c => c
theorem q0k (e : Int) (w : World) : (Instr.typeAssert (.iface 52 (.int .i64 e)) 20 52 true).run Tryd.prog w = .ok (.tuple #[.int .i64 e, .bool true]) w := by kernel_rfl
theorem qiy (x y z : Value) (w : World) : CallsD Tryd.prog 32 #[x, y, z] .returning w fun e u' w' => (∃ v, e = .returned v) ∧ u' = .returning ∧ w' = w := by
 refine callsD_of_wpS Tryd.func32 rfl fun c₀ cs hu => ?_
 apply wpS_seq
 apply wpS_region
 simp [wpOpsS, go_sem, recoverD, hu, Tryd.ntmps32, Exit.thenS]
 apply wpS_seq
 apply wpS_region
 simp [wpOpsS, go_sem, Exit.thenS]
 refine wpS_cond (t := false) (by simp [Act.eval, Array.replicate]) ?_
 simp only [Bool.false_eq_true, if_false]
 refine wpS_of_wp (wp_skip ?_)
 cases c₀
 simp_all [bodyPostS, results, Tryd.results32]
def qk6 : List AV := [.int .i64 0, .str ⟨#[]⟩, .sl 0 true [], .sl 0 true []]
def qiz (e : Int) : Objs := [(0, .var 26 qk6), (1, .var 27 [.int .i64 1]), (2, .var 3 [.int .i64 e])]
noncomputable def rec5 : Code := csnd (csnd (cthen (csnd (csnd (qbn Tryd.f32)))))
theorem qv8 (e c6 : Int) : Ok Tryd.prog G tt 19 3 (Q6 (fun _ H => H = ⟨3, qiz e⟩) (fun _ _ _ => False)) (.go [(0, .ptr 0 0 0), (1, .ptr 1 1 0), (2, .ptr 2 2 0), (4, .int .i64 e)] [.code rec5] [] .z 3 [(0, .var 26 qk6), (1, .var 27 [.int .i64 0]), (2, .var 3 [.int .i64 c6])]) := by
 refine kr [] ?_
 exact qid rfl
theorem qd0 {w : World} {S F : Nat → Prop} {β : Nat → Nat} (e c6 : Int) (hH : HR G w S F β ⟨3, [(0, .var 26 qk6), (1, .var 27 [.int .i64 0]), (2, .var 3 [.int .i64 c6])]⟩) :
 CallsD Tryd.prog 32 #[.pointer (some ⟨β 0, 0, none⟩), .pointer (some ⟨β 1, 0, none⟩), .pointer (some ⟨β 2, 0, none⟩)] (.panicking (flt e)) w fun r u' w' =>
  (∃ v, r = .returned v) ∧ settle u' = .returning ∧ ∃ S' β', Ext w S F β 3 w' S' β' 3 ∧ HR G w' S' F β' ⟨3, qiz e⟩ := by
 refine callsD_of_wpS Tryd.func32 rfl fun c₀ cs hu => ?_
 have hA := Je (N := 19) (by kernel_rfl) (qv8 e c6)
 apply wpS_seq
 apply wpS_region
 simp [wpOpsS, go_sem, recoverD, hu, Tryd.ntmps32, Exit.thenS, flt]
 apply wpS_seq
 apply wpS_region
 simp [wpOpsS, go_sem, Exit.thenS]
 refine wpS_cond (t := true) (by simp [Act.eval, Array.replicate]) ?_
 simp only [if_true]
 apply wpS_seq
 apply wpS_region
 simp [wpOpsS, go_sem, Exit.thenS, q0k]
 apply wpS_seq
 apply wpS_seq
 apply wpS_region
 simp [wpOpsS, go_sem, Exit.thenS]
 refine wpS_cond (t := false) (by simp [Act.eval, Array.replicate]) ?_
 simp only [Bool.false_eq_true, if_false]
 refine wpS_of_wp (wp_skip ?_)
 show rec5.wpS Tryd.prog _ _ _ _
 refine wpS_of_wp (wp_mono (hA [] w S F β _ (Nat.le_refl _) hH (FRx.of _ (by simp) rfl ?_)) ?_)
 ·intro q hq
  simp only [List.mem_cons, List.not_mem_nil, or_false] at hq
  rcases hq with rfl | rfl | rfl | rfl
  ·simpa using RV.ptr (w := w) (S := S) (β := β) 0 0 0 (by decide)
  ·simpa using RV.ptr (w := w) (S := S) (β := β) 1 1 0 (by decide)
  ·simpa using RV.ptr (w := w) (S := S) (β := β) 2 2 0 (by decide)
  simpa using RV.int .i64 e
 rintro x a' w' ⟨fr', H', S', β', q, hx, hp, hH', hf'⟩
 cases x with
 | normal =>
   cases (show H' = ⟨3, qiz e⟩ from q)
   exact ⟨hf'.defers, _, rfl, .tuple #[], by simp [results, Tryd.results32, go_sem], ⟨_, rfl⟩, rfl, S', β', hx, hH'⟩
 | _ => exact q.elim
abbrev rds : List ResultVar := [.cell 4 26, .cell 5 27, .cell 6 3]
noncomputable def rd0 : Code := cfst (qbn Tryd.f15)
noncomputable def rd1 : Code := cfst (csnd (qbn Tryd.f15))
noncomputable def rd2 : Code := cfst (csnd (csnd (qbn Tryd.f15)))
noncomputable def rd2a : Code := cfst rd2
noncomputable def rd2b : Code := csnd rd2
noncomputable def cops : Code → List Oper
 | .region _ l _ => l.toList
 | _ => []
noncomputable def rdL : List Oper := cops (cfst (cthen rd2b))
theorem qq1 : rd2 = .seq rd2a (.cond (.tmp 16) (.seq (.region 3 rdL.toArray true) .ret) .skip) := by kernel_rfl
noncomputable def rd3 : Code := cfst (csnd (csnd (csnd (qbn Tryd.f15))))
noncomputable def rd4 : Code := csnd (csnd (csnd (csnd (qbn Tryd.f15))))
theorem qmu : Tryd.f15.body = some (.seq rd0 (.seq rd1 (.seq rd2 (.seq rd3 rd4)))) := by kernel_rfl
def rdX (x : Node × Int × Int) : AV := .tup [.agg (zu x.1), .int .i64 x.2.1, .int .i64 x.2.2]
abbrev rdR (x : Node × Int × Int) : Exit → Fr → Hp → Prop := Ret Tryd.prog rds (fun z H => Told Tryd.prog G H z (rdX x))
def rdO (e at_ : Int) : Objs := [(0, .var 26 qk6), (1, .var 27 [.int .i64 e]), (2, .var 3 [.int .i64 at_])]
theorem qe1 {n : Nat} {objs : Objs} (a b : Int) : Told Tryd.prog G ⟨n, objs⟩ (.tup [.agg qk6, .int .i64 a, .int .i64 b]) (rdX (Node.mk 0 ⟨#[]⟩ [] [], a, b)) :=
 qc6 (qc5 (ue (qvn (qa5 (zt rfl) (qa5 (jl rfl) (qa5 (yl (.inr rfl)) (qa5 (yl (.inr rfl)) qt2))))) (ue (Zt (zt rfl) (by simp)) (ue (Zt (zt rfl) (by simp)) qa4))))
theorem qga (e : Int) : rdR (Node.mk 0 ⟨#[]⟩ [] [], 1, e) .normal (puts [(4, .ptr 0 0 0), (5, .ptr 1 1 0), (6, .ptr 2 2 0)] (frT .z)) ⟨3, qiz e⟩ := by
 have h : Ok Tryd.prog G tt 32 0 (rdR (Node.mk 0 ⟨#[]⟩ [] [], 1, e)) (.go [(4, .ptr 0 0 0), (5, .ptr 1 1 0), (6, .ptr 2 2 0)] [] [] .z 3 (qiz e)) := by
  refine kr [] ?_
  exact Kx env rfl (qe1 1 e)
 unfold Ok at h
 exact h rfl
theorem qi1 (e at_ : Int) : AWp Tryd.prog G 32 0 (.seq (.region 3 rdL.toArray true) .ret) (fun x fr H => x = .ret ∧ rdR (Node.mk 0 ⟨#[]⟩ [] [], e, at_) .ret fr H) (puts [(4, .ptr 0 0 0), (5, .ptr 1 1 0), (6, .ptr 2 2 0)] (frT .z)) ⟨3, rdO e at_⟩ := by
 have h : anyS tt G rdL.toArray (fun fr _ objs => qez tt fr objs rds qdn) [(4, .ptr 0 0 0), (5, .ptr 1 1 0), (6, .ptr 2 2 0)] .z 3 (rdO e at_) = some (List.replicate 15 (.tup [.agg qk6, .int .i64 e, .int .i64 at_])) := by kernel_rfl
 refine qf2 (qzz env (by kernel_rfl) h (fun z hz fr n objs hl => uv (qtw ⟨rfl, ?_⟩)))
 obtain rfl := List.eq_of_mem_replicate hz
 have h := j4 (P := Tryd.prog) (G := G) (N := 32) (p := 0) (n := n) (k := []) (K := fun z H => Told Tryd.prog G H z (rdX (Node.mk 0 ⟨#[]⟩ [] [], e, at_))) env rfl hl (qe1 _ _)
 unfold Ok at h
 exact h rfl
def qdl (w : World) (S F : Nat → Prop) (β : Nat → Nat) (x : Node × Int × Int) (e : Ending) (w' : World) : Prop :=
 ∃ v, e = .returned v ∧ ∃ S' β', Ext w S F β 0 w' S' β' 0 ∧ HR G w' S' F β' ⟨0, []⟩ ∧ RV w' S' β' 0 (rdX x) v
theorem qv9 (x : Node × Int × Int) : Pure (rdX x) := .tup _ (by
 intro y hy
 simp only [List.mem_cons, List.not_mem_nil, or_false] at hy
 rcases hy with rfl | rfl | rfl
 ·exact .agg _ (by
   intro z hz
   simp only [List.mem_cons, List.not_mem_nil, or_false] at hz
   rcases hz with rfl | rfl | rfl | rfl <;> constructor)
 ·constructor
 constructor)
theorem qbb {w w' : World} {S F S' : Nat → Prop} {β β' : Nat → Nat} {D : List Deferred} {fr : Fr} {H : Hp} {a : Act} {x : Node × Int × Int} (q : rdR x .normal fr H) (hx : Ext w S F β 0 w' S' β' 0) (hH : HR G w' S' F β' H) (hf : FRx D w' S' β' H.n 32 fr a) (hG : HR G w S F β ⟨0, []⟩) :
 Leaves Tryd.prog Tryd.f15 a.tmps (qdl w S F β x) [] .returning w' := by
 obtain ⟨z, hz, ht⟩ := q
 unfold Told at ht
 obtain ⟨v, hrun, hR⟩ := qdz (P := Tryd.prog) (fn := Tryd.f15) hH hf (show vp _ Tryd.f15.results.toList fr H = some z from hz)
 obtain ⟨S2, hx2, hl, hR2⟩ := ht w' S' F β' v hH hR
 exact ⟨v, hrun, v, rfl, S2, β', hx.trans hx2, ⟨hl, fun k hk => Nat.lt_of_lt_of_le (hG.ltf k hk) (hx.trans hx2).size, fun g => (hG.glob g).ext (hx.trans hx2), by simp, by simp, by simp⟩, hR2.pure (qv9 x)⟩
theorem Ka {w : World} {S : Nat → Prop} {β : Nat → Nat} {n i s : Nat} {v : Value} (h : RV w S β n (.ptr i s 0) v) : v = .pointer (some ⟨β s, 0, none⟩) := by
 cases h; rfl
def Yr (s : BA) : Option (Node × Int × Int) :=
 wb s >>= fun t =>
 if (!decide (t.2.1 = (0 : Int))) = true then some (Node.mk 0 ⟨#[]⟩ [] [], t.2.1, t.2.2)
 else Wh ⟨t.1, 0⟩ >>= fun x => match x with
  | .error e => some (Node.mk 0 ⟨#[]⟩ [] [], 1, e)
  | .ok x => kt x.1 >>= fun c => if (decide (c = (3 : Int))) = true then some (Node.mk 0 ⟨#[]⟩ [] [], 3, 0) else some (x.1, 0, 0)
def yq (t : List Token × Int × Int) (fr : Fr) (H : Hp) : Prop := (fr 1 = .fn 18 [(.rptr [.fn 10 []])] ∧ fr 4 = .ptr 0 0 0 ∧ fr 5 = .ptr 1 1 0 ∧ fr 6 = .ptr 2 2 0 ∧ fr 7 = .sl 4 false (t.1.map Token.cells)) ∧ H = ⟨3, rdO t.2.1 t.2.2⟩
theorem qg9 (s : BA) (t : List Token × Int × Int) (ht : wb s = some t) (x : Node × Int × Int) :
 Ok Tryd.prog G tt 32 0 (Q6 (fun fr H => fr 16 = .bool (!decide (t.2.1 = (0 : Int))) ∧ yq t fr H) (rdR x)) (.go (qbx 0 [.str s, .fn 18 [(.rptr [.fn 10 []])]]) [.code rd0, .code rd1, .code rd2a] [] .z 0 []) := by
 refine kr [] ?_
 refine qr (Y3 _ _ ht) ?_
 refine kr [] ?_
 exact qid ⟨rfl, ⟨rfl, rfl, rfl, rfl, rfl⟩, rfl⟩
theorem qg6 (t : List Token × Int × Int) (x : Node × Int × Int) (hx : (!decide (t.2.1 = (0 : Int))) = true → x = (Node.mk 0 ⟨#[]⟩ [] [], t.2.1, t.2.2)) (fr : Fr) (H : Hp)
 (h : AWp Tryd.prog G 32 0 rd2a (Q6 (fun fr H => fr 16 = .bool (!decide (t.2.1 = (0 : Int))) ∧ yq t fr H) (rdR x)) fr H) : AWp Tryd.prog G 32 0 rd2 (Q6 (fun fr H => (!decide (t.2.1 = (0 : Int))) = false ∧ yq t fr H) (rdR x)) fr H := by
 rw [qq1]
 refine qf2 (h.mono ?_)
 intro e fr H q
 cases e with
 | normal =>
   obtain ⟨hc, hk⟩ := (show _ ∧ _ from q)
   refine uv (qa3 hc (fun hb => ?_) (fun hb => qf1 (uv ⟨hb, hk⟩)))
   obtain ⟨⟨g1, g4, g5, g6, g7⟩, rfl⟩ := hk
   cases hx hb
   refine (Wi (qge [(4, .ptr 0 0 0), (5, .ptr 1 1 0), (6, .ptr 2 2 0)] (by simp [g4, g5, g6])) (qi1 t.2.1 t.2.2)).mono ?_
   rintro e fr H ⟨rfl, q⟩
   exact q
 | _ => exact q
theorem qgp (l : List Token) (e : Int) (h : Wh ⟨l, 0⟩ = some (.error e)) :
 Ok Tryd.prog G tt 32 3 (fun e' fr _ => e' = .panic (flt e) ∧ fr 4 = .ptr 0 0 0 ∧ fr 5 = .ptr 1 1 0 ∧ fr 6 = .ptr 2 2 0) (.go [(1, .fn 18 [(.rptr [.fn 10 []])]), (4, .ptr 0 0 0), (5, .ptr 1 1 0), (6, .ptr 2 2 0), (7, .sl 4 false (l.map Token.cells))] [.code rd4] [] .z 3 []) := by
 refine kr [] ?_
 exact qgs (FC.go (qkp _ _ h) [0] [3] rfl rfl rfl rfl rfl rfl) ⟨rfl, rfl, rfl, rfl⟩
theorem qgx (l : List Token) (e at_ : Int) (r : Node × Reader) (h : Wh ⟨l, 0⟩ = some (.ok r)) (c : Int) (hc : kt r.1 = some c) (x : Node × Int × Int) (hx : (if (decide (c = (3 : Int))) = true then some (Node.mk 0 ⟨#[]⟩ [] [], 3, 0) else some (r.1, 0, 0)) = some x) :
 Ok Tryd.prog G tt 32 0 (rdR x) (.go [(1, .fn 18 [(.rptr [.fn 10 []])]), (4, .ptr 0 0 0), (5, .ptr 1 1 0), (6, .ptr 2 2 0), (7, .sl 4 false (l.map Token.cells))] [.code rd4] [] .z 3 (rdO e at_)) := by
 refine kr [] ?_
 refine qb (AC.g9 (qkp _ _ h) [3] [3]) ?_
 refine kr [] ?_
 refine qr (Yn _ _ hc) ?_
 refine kr [] ?_
 refine qi (fun hb => ?_) (fun hb => ?_)
 ·rw [if_pos hb] at hx
  cases hx
  refine kr [] ?_
  exact j4 env rfl rfl (qe1 _ _)
 rw [if_neg (by rw [hb]; decide)] at hx
 cases hx
 refine kr [] ?_
 exact j4 env rfl rfl (za rfl)
theorem qg3 (s : BA) (x : Node × Int × Int) (h : Yr s = some x) : ACalls Tryd.prog G 15 [.str s, .fn 18 [(.rptr [.fn 10 []])]] ⟨0, []⟩ (rdX x) ⟨0, []⟩ := by
 obtain ⟨t, ht, h⟩ := bind_some h
 intro w S F β vs hH hv
 rw [show (callFunc 15 vs).run Tryd.prog w = .ok (.enter 15 vs) w by simp]
 show Calls Tryd.prog 15 vs w (qdl w S F β x)
 refine calls_of_wp_defers Tryd.func15 qmu ?_
 have hA := Je (N := 32) (by kernel_rfl) (qg9 s t ht x)
 rw [Jx] at hA
 have hf := qam (N := 32) hv (Nat.le_of_ble_eq_true rfl)
 have fin : ∀ (e : Exit) (fr' : Fr) (H' : Hp) (w' : World) (S' : Nat → Prop) (β' : Nat → Nat) (a' : Act), rdR x e fr' H' → Ext w S F β 0 w' S' β' 0 → HR G w' S' F β' H' → FRx [] w' S' β' H'.n 32 fr' a' → bodyPostD Tryd.prog Tryd.f15 (qdl w S F β x) e a' w' := by
  intro e fr' H' w' S' β' a' q hx hH' hf'
  have hl := fun q => qbb (x := x) q hx hH' hf' hH
  cases e <;> first
   | exact q.elim
   | (show Leaves _ _ _ _ a'.defers _ _; rw [hf'.defers]; exact hl q)
 refine J1 hA (Nat.zero_le _) hH hf (fun fr1 H1 w1 S1 β1 a1 q1 hx1 _ hH1 hf1 => ?_) (fun e fr' H' w' S' β' a' he q hx _ hH' hf' => fin e fr' H' w' S' β' a' (Y4 he (qrn he q)) hx hH' hf')
 refine J1 q1 (Nat.zero_le _) hH1 hf1 (fun fr2 H2 w2 S2 β2 a2 q2 hx2 _ hH2 hf2 => ?_) (fun e fr' H' w' S' β' a' he q hx _ hH' hf' => fin e fr' H' w' S' β' a' (Y4 he q) (hx1.trans hx) hH' hf')
 refine J1 (qg6 t x (fun hb => by rw [if_pos hb] at h; cases h; rfl) fr2 H2 q2) (Nat.zero_le _) hH2 hf2 (fun fr3 H3 w3 S3 β3 a3 q3 hx3 _ hH3 hf3 => ?_) (fun e fr' H' w' S' β' a' he q hx _ hH' hf' => fin e fr' H' w' S' β' a' q ((hx1.trans hx2).trans hx) hH' hf')
 obtain ⟨hb, ⟨g1, g4, g5, g6, g7⟩, rfl⟩ := (show _ ∧ _ ∧ _ from q3)
 have hx0 := (hx1.trans hx2).trans hx3
 rw [if_neg (by rw [hb]; decide)] at h
 obtain ⟨r, hr, h⟩ := bind_some h
 refine wp_seq ?_
 refine qba (u := 20) (f := 32) (cs := #[.tmp 4, .tmp 5, .tmp 6]) (by rw [hf3.size]; decide) ?_
 have e4 := Ka (g4 ▸ hf3.val 4)
 have e5 := Ka (g5 ▸ hf3.val 5)
 have e6 := Ka (g6 ▸ hf3.val 6)
 have hcs : (#[Operand.tmp 4, .tmp 5, .tmp 6] : Array Operand).map a3.eval = #[.pointer (some ⟨β3 0, 0, none⟩), .pointer (some ⟨β3 1, 0, none⟩), .pointer (some ⟨β3 2, 0, none⟩)] := by
  simp [Act.eval, e4, e5, e6]
 rw [hcs]
 have hf3' := hf3.put (d := some 20) rfl (RV.undef (w := w3) (S := S3) (β := β3) (n := 3) (.func (.func 32) #[] #[.pointer (some ⟨β3 0, 0, none⟩), .pointer (some ⟨β3 1, 0, none⟩), .pointer (some ⟨β3 2, 0, none⟩)]))
 have hq := hf3'.some [(1, .fn 18 [(.rptr [.fn 10 []])]), (4, .ptr 0 0 0), (5, .ptr 1 1 0), (6, .ptr 2 2 0), (7, .sl 4 false (t.1.map Token.cells))] (by simp [uw, g1, g4, g5, g6, g7])
 generalize hd : a3.defers = d3 at *
 have hd3 : d3 = [] := by rw [← hd]; exact hf3.defers
 subst hd3
 have hf4 := FRx.of (a := ⟨a3.tmps.setIfInBounds 20 (.func (.func 32) #[] #[.pointer (some ⟨β3 0, 0, none⟩), .pointer (some ⟨β3 1, 0, none⟩), .pointer (some ⟨β3 2, 0, none⟩)]), [{ target := .fn (.func 32) #[.pointer (some ⟨β3 0, 0, none⟩), .pointer (some ⟨β3 1, 0, none⟩), .pointer (some ⟨β3 2, 0, none⟩)], args := #[] }]⟩) _ hf3'.size rfl hq
 show rd4.wp _ _ _ _
 cases r with
 | error e =>
   cases h
   have hB := Je (N := 32) (by kernel_rfl) (qgp t.1 e hr)
   refine wp_mono (hB _ w3 S3 _ β3 _ (Nat.le_refl _) hH3.hide hf4) ?_
   rintro e' a' w' ⟨fr', H', S', β', ⟨rfl, k4, k5, k6⟩, hx, hp, hH', hf'⟩
   obtain ⟨hx', hH''⟩ := hH3.unhide hx hH'.lts
   show Leaves _ _ _ _ a'.defers _ _
   rw [hf'.defers]
   refine leaves_cons (f := 32) (args := #[.pointer (some ⟨β3 0, 0, none⟩), .pointer (some ⟨β3 1, 0, none⟩), .pointer (some ⟨β3 2, 0, none⟩)]) (by simp) (by simp [go_sem]) ?_
   have hc := qd0 e t.2.2 (show HR G w' S' F β' ⟨3, rdO 0 t.2.2⟩ by
    have h0 : t.2.1 = 0 := by simpa using hb
    rw [← h0]; exact hH'')
   rw [hx'.beta 0 (show 0 < 3 by decide), hx'.beta 1 (show 1 < 3 by decide), hx'.beta 2 (show 2 < 3 by decide)] at hc
   refine hc.mono ?_
   rintro r u' w'' ⟨⟨v, rfl⟩, hs, S'', β'', hx'', hH3''⟩
   show Leaves _ _ _ _ [] (settle u') w''
   rw [hs]
   refine qbb (D := a'.defers) (a := a') (qga e) (hx0.trans ((hx'.trans hx'').lower (Nat.zero_le _))) hH3'' (FRx.of _ hf'.size rfl ?_) hH
   intro q hm
   simp only [List.mem_cons, List.not_mem_nil, or_false] at hm
   have hv : ∀ (i s : Nat) (t : Nat), s < 3 → fr' t = .ptr i s 0 → RV w'' S'' β'' 3 (.ptr i s 0) (a'.tmps.getD t Go.undef) := fun i s t hs3 ht => by
    have h1 := hf'.val t
    rw [ht] at h1
    rw [Ka h1, ← hx''.beta s hs3]
    exact .ptr i s 0 hs3
   rcases hm with rfl | rfl | rfl
   ·exact hv _ _ _ (by decide) k4
   ·exact hv _ _ _ (by decide) k5
   exact hv _ _ _ (by decide) k6
 | ok r =>
   obtain ⟨c, hc, h⟩ := bind_some h
   have hB := Je (N := 32) (by kernel_rfl) (qgx t.1 t.2.1 t.2.2 r hr c hc x h)
   refine wp_mono (hB _ w3 S3 F β3 _ (Nat.zero_le _) hH3 hf4) ?_
   rintro e' a' w' ⟨fr', H', S', β', q, hx, hp, hH', hf'⟩
   have hl : rdR x .normal fr' H' → Leaves Tryd.prog Tryd.f15 a'.tmps (qdl w S F β x) a'.defers .returning w' := fun q => by
    rw [hf'.defers]
    refine leaves_cons (f := 32) (args := #[.pointer (some ⟨β3 0, 0, none⟩), .pointer (some ⟨β3 1, 0, none⟩), .pointer (some ⟨β3 2, 0, none⟩)]) (by simp) (by simp [go_sem]) ?_
    refine (qiy _ _ _ w').mono ?_
    rintro r u' w'' ⟨⟨v, rfl⟩, rfl, rfl⟩
    exact qbb q (hx0.trans hx) hH' hf' hH
   cases e' <;> first
    | exact q.elim
    | exact hl q
theorem qg0 : PC1 (fun (s : BA) (x : Node × Int × Int) => AC Tryd.prog G 15 [.str s, .fn 18 [(.rptr [.fn 10 []])]] 0 [] (.tup [.agg (zu x.1), .int .i64 x.2.1, .int .i64 x.2.2]) 0 []) Yr := fun s x h => AC.plain (qg3 s x h) rfl rfl
def ub (a0 : BA) : Option (Node × Int × Int) :=
 Yr a0 >>= fun x1 =>
 some (x1.1, x1.2.1, x1.2.2)
@[reducible] def Kf (a0 : BA) (r : Node × Int × Int) : Prop :=
  Fn Tryd.prog G 9 [(.str a0), (.fn 10 [])] (.tup [(.agg (zu r.1)), (.int .i64 r.2.1), (.int .i64 r.2.2)])
theorem Kj : PC1 Kf ub := fun a0 r h => by
 rw [ub.eq_def] at h
 refine jj (T := tt) (N := 13) (rs := [.cell 4 26, .tmp 5, .tmp 6]) (fun vs w => by simp) Tryd.func9 rfl rfl rfl rfl (by kernel_rfl) (wi rfl) (yb _ rfl) ?_
 refine kr [2000000] ?_
 refine qke [(3, (.rptr [(.fn 10 [])]))] [0] rfl (qlx rfl rfl rfl rfl qpl) rfl rfl ?_
 refine qdh ?_
 refine kr [2000000] ?_
 obtain ⟨x1, hx, h⟩ := bind_some h
 refine qb (AC.g9 (qg0 _ _ hx) [] []) ?_
 refine kr [2000000] ?_
 cases h
 exact kf
def Qn (a0 : BA) : Option (Node × Int × Int) :=
 ub a0 >>= fun x1 =>
 some (x1.1, x1.2.1, x1.2.2)
@[reducible] def qkh (a0 : BA) (r : Node × Int × Int) : Prop :=
  Fn Tryd.prog G 5 [(.str a0)] (.tup [(.agg (zu r.1)), (.int .i64 r.2.1), (.int .i64 r.2.2)])
theorem Ym : PC1 qkh Qn := fun a0 r h => by
 rw [Qn.eq_def] at h
 refine jj (T := tt) (N := 10) (rs := [.cell 2 26, .tmp 3, .tmp 4]) (fun vs w => by simp) Tryd.func5 rfl rfl rfl rfl (by kernel_rfl) (wi rfl) (yb _ rfl) ?_
 refine kr [] ?_
 obtain ⟨x1, hx, h⟩ := bind_some h
 refine qr (Kj _ _ hx) ?_
 refine kr [] ?_
 cases h
 exact kf
def kx (a0 : Reader) (a1 : Int) (a2 : BA) : Option (Except Int (Node × Reader)) :=
 qj a0 a1 (⟨#[]⟩) ([] : LB) ([] : LN) a2 >>= fun x1 =>
 match x1 with
 | .error ee => some (.error ee)
 | .ok x1 =>
 zv x1.1 a1 (⟨#[]⟩) x1.2 ([] : LN) >>= fun x2 =>
 match x2 with
 | .error ee => some (.error ee)
 | .ok x2 =>
 qj x2.1 a1 x2.2.1 x2.2.2 ([] : LN) (⟨#[61]⟩ : BA) >>= fun x3 =>
 match x3 with
 | .error ee => some (.error ee)
 | .ok x3 =>
 qw x3.1 (1 : Int) >>= fun x4 =>
 match x4 with
 | .error ee => some (.error ee)
 | .ok x4 =>
 zm a1 x2.2.1 x3.2 ([] : LN) x4.1 >>= fun x5 =>
 qj x4.2 a1 x2.2.1 x3.2 x5 (⟨#[59]⟩ : BA) >>= fun x6 =>
 match x6 with
 | .error ee => some (.error ee)
 | .ok x6 =>
 some (.ok ((Node.mk a1 x2.2.1 x6.2 x5), x6.1))
@[reducible] def W2 (a0 : Reader) (a1 : Int) (a2 : BA) (r : Except Int (Node × Reader)) : Prop :=
  exq (fun (r : Node × Reader) => AC Tryd.prog G 26 [(.ptr 0 0 0), (.int .i64 a1), (.str a2)] 1 [(0, .var 48 (Reader.cells a0))] (.agg (zu r.1)) 1 [(0, .var 48 (Reader.cells r.2))]) (fun e => FC Tryd.prog G 26 [(.ptr 0 0 0), (.int .i64 a1), (.str a2)] 1 [(0, .var 48 (Reader.cells a0))] (flt e)) r
theorem ut : PC3 W2 kx := fun a0 a1 a2 r h => by
 rw [kx.eq_def] at h
 refine Zc (T := tt) (N := 23) (rs := [.cell 6 26]) (fun vs w => by simp) Tryd.func26 rfl rfl rfl (by kernel_rfl) (by kernel_rfl) (yw rfl rfl y8) (zk zp) (fun r => (yv rfl y6)) (fun r => (zk zp)) (fun _ => rfl) (fun _ => rfl) rfl (fun _ => rfl) ?_
 refine kr [] ?_
 obtain ⟨x1, hx, h⟩ := bind_some h
 rcases x1 with ee | x1
 ·replace h : some (.error ee) = some r := h
  cases h
  exact qz (FCalls.ghost (e := 9) (FCalls.ghost (e := 26) (FCalls.wkg (FC.go (objs := [(0, .var 48 (Reader.cells a0)), (1, .var 26 [(.int .i64 0), (.str ⟨#[]⟩), (.sl 0 true []), (.sl 0 true [])]), (2, .var 26 [(.int .i64 a1), (.str ⟨#[]⟩), (.bs 1 3 3 0 ([] : LB).length), (.bs 4 4 4 0 ([] : LN).length)]), (3, .row 9 (([] : LB).map sc).flatten), (4, .row 26 (([] : LN).map Node.cells).flatten)]) (xs := [(.ptr 0 0 0), (.ptr 2 2 0), (.str a2)]) (qa _ _ _ _ _ _ _ hx) [0, 2, 3, 4] [0, 2, 3, 4] rfl rfl rfl rfl rfl rfl) (qh (qp _) (qh (qp _) (qh (qp _) jf))) (qd (qd (je (qc (qv _) (qc (qv _) (qc (ze rfl) (qc (ze rfl) ju)))) (zr _)))))))
 refine qb (ACalls.ghost (e := 9) (ACalls.ghost (e := 26) (ACalls.wkg (AC.go (objs := [(0, .var 48 (Reader.cells a0)), (1, .var 26 [(.int .i64 0), (.str ⟨#[]⟩), (.sl 0 true []), (.sl 0 true [])]), (2, .var 26 [(.int .i64 a1), (.str ⟨#[]⟩), (.bs 1 3 3 0 ([] : LB).length), (.bs 4 4 4 0 ([] : LN).length)]), (3, .row 9 (([] : LB).map sc).flatten), (4, .row 26 (([] : LN).map Node.cells).flatten)]) (xs := [(.ptr 0 0 0), (.ptr 2 2 0), (.str a2)]) (qa _ _ _ _ _ _ _ hx) [0, 2, 3, 4] [0, 2, 3, 4] rfl rfl rfl rfl rfl rfl rfl rfl rfl) (qh (qp _) (qh (qp _) (qh (qp _) jf))) (qd (qd (je (qc (qv _) (qc (qv _) (qc (ze rfl) (qc (ze rfl) ju)))) (zr _))))))) ?_
 refine kr [] ?_
 obtain ⟨x2, hx, h⟩ := bind_some h
 rcases x2 with ee | x2
 ·replace h : some (.error ee) = some r := h
  cases h
  exact qz (FC.go (zb _ _ _ _ _ _ hx) [0, 2, 3, 4] [0, 2, 5, 4] rfl rfl rfl rfl rfl rfl)
 refine qb (AC.g9 (zb _ _ _ _ _ _ hx) [0, 2, 3, 4] [0, 2, 5, 4]) ?_
 refine kr [] ?_
 obtain ⟨x3, hx, h⟩ := bind_some h
 rcases x3 with ee | x3
 ·replace h : some (.error ee) = some r := h
  cases h
  exact qz (FC.go (qa _ _ _ _ _ _ _ hx) [0, 2, 3, 4] [0, 2, 6, 4] rfl rfl rfl rfl rfl rfl)
 refine qb (AC.g9 (qa _ _ _ _ _ _ _ hx) [0, 2, 3, 4] [0, 2, 6, 4]) ?_
 refine kr [] ?_
 obtain ⟨x4, hx, h⟩ := bind_some h
 rcases x4 with ee | x4
 ·replace h : some (.error ee) = some r := h
  cases h
  exact qz (FC.go (qo _ _ _ hx) [0] [0] rfl rfl rfl rfl rfl rfl)
 refine qb (AC.g9 (qo _ _ _ hx) [0] [0]) ?_
 refine kr [] ?_
 obtain ⟨x5, hx, h⟩ := bind_some h
 refine qb (AC.g9 (zn _ _ _ _ _ _ hx) [2, 3, 4] [2, 7, 4]) ?_
 refine kr [] ?_
 obtain ⟨x6, hx, h⟩ := bind_some h
 rcases x6 with ee | x6
 ·replace h : some (.error ee) = some r := h
  cases h
  exact qz (FC.go (qa _ _ _ _ _ _ _ hx) [0, 2, 3, 4] [0, 2, 7, 8] rfl rfl rfl rfl rfl rfl)
 refine qb (AC.g9 (qa _ _ _ _ _ _ _ hx) [0, 2, 3, 4] [0, 2, 7, 8]) ?_
 refine kr [] ?_
 cases h
 exact j4 env rfl rfl (tS [some 0] (sV (lS (lS lN)) zx) (j5 (ya (qf (qe (zt rfl) rfl) (qf (qe (jl rfl) rfl) (qf (qe (jv kp rfl) rfl) (qf (qe (jv zl rfl) rfl) j9))))) (by simp)))
def j8 (o0 : Reader) (o2_0 : Int) (o2_1 : BA) (o2_2 : LB) (o2_3 : LN) (o5 : Node) : Option (Except Int (Node × Reader)) :=
 zm o2_0 o2_1 o2_2 o2_3 o5 >>= fun x33 =>
 some (.ok ((Node.mk o2_0 o2_1 o2_2 x33), o0))
@[reducible] def Yl (o0 : Reader) (o2_0 : Int) (o2_1 : BA) (o2_2 : LB) (o2_3 : LN) (o5 : Node) (r : Except Int (Node × Reader)) : Prop :=
  Ok Tryd.prog G tt 106 1 (exq (fun (r : Node × Reader) => Ret Tryd.prog [.cell 2 26] (fun y H => Qt Tryd.prog G 1 H y (.agg (zu r.1)) ⟨1, [(0, .var 48 (Reader.cells r.2))]⟩)) (fun e => Q5 (flt e)) r) (.go [] (Zu [41, 87] Tryd.f14 41) [] (.n .undef (.n .undef .z (.n (.ptr 5 8 0) .z .z)) (.n (.ptr 1 1 0) (.n (.ptr 2 2 0) .z .z) .z)) 13 [(0, .var 48 (Reader.cells o0)), (1, .var 26 [(.int .i64 0), (.str ⟨#[]⟩), (.sl 0 true []), (.sl 0 true [])]), (2, .var 26 [(.int .i64 o2_0), (.str o2_1), (.bs 1 3 5 0 o2_2.length), (.bs 4 4 7 0 o2_3.length)]), (5, .row 9 (o2_2.map sc).flatten), (7, .row 26 (o2_3.map Node.cells).flatten), (8, .var 26 (zu o5))])
theorem Qm : PC6 Yl j8 := fun o0 o2_0 o2_1 o2_2 o2_3 o5 r h => by
 rw [j8.eq_def] at h
 refine kr [41, 87] ?_
 obtain ⟨x33, hx, h⟩ := bind_some h
 refine qb (AC.g9 (zn _ _ _ _ _ _ hx) [2, 3, 4] [2, 5, 7]) ?_
 refine kr [41, 87] ?_
 cases h
 exact j4 env rfl rfl (tS [some 0] (sV (lS (lS lN)) zx) (j5 (ya (qf (qe (zt rfl) rfl) (qf (qe (jl rfl) rfl) (qf (qe (jv kp rfl) rfl) (qf (qe (jv zl rfl) rfl) j9))))) (by simp)))
def jq (o0 : Reader) : Option (Except Int (Node × Reader)) :=
 qw o0 (1 : Int) >>= fun x34 =>
 match x34 with
 | .error ee => some (.error ee)
 | .ok x34 =>
 zm (16 : Int) (⟨#[]⟩) ([] : LB) ([] : LN) x34.1 >>= fun x35 =>
 qj x34.2 (16 : Int) (⟨#[]⟩) ([] : LB) x35 (⟨#[59]⟩ : BA) >>= fun x36 =>
 match x36 with
 | .error ee => some (.error ee)
 | .ok x36 =>
 some (.ok ((Node.mk (16 : Int) (⟨#[]⟩) x36.2 x35), x36.1))
@[reducible] def Yk (o0 : Reader) (r : Except Int (Node × Reader)) : Prop :=
  Ok Tryd.prog G tt 106 1 (exq (fun (r : Node × Reader) => Ret Tryd.prog [.cell 2 26] (fun y H => Qt Tryd.prog G 1 H y (.agg (zu r.1)) ⟨1, [(0, .var 48 (Reader.cells r.2))]⟩)) (fun e => Q5 (flt e)) r) (.go [] (Zu [41, 87] Tryd.f14 87) [] (.n (.ptr 0 0 0) .z (.n (.ptr 1 1 0) .z .z)) 3 [(0, .var 48 (Reader.cells o0)), (1, .var 26 [(.int .i64 0), (.str ⟨#[]⟩), (.sl 0 true []), (.sl 0 true [])])])
theorem wz : PC1 Yk jq := fun o0 r h => by
 rw [jq.eq_def] at h
 refine kr [41, 87] ?_
 obtain ⟨x34, hx, h⟩ := bind_some h
 rcases x34 with ee | x34
 ·replace h : some (.error ee) = some r := h
  cases h
  exact qz (FC.go (qo _ _ _ hx) [0] [0] rfl rfl rfl rfl rfl rfl)
 refine qb (AC.g9 (qo _ _ _ hx) [0] [0]) ?_
 refine kr [41, 87] ?_
 obtain ⟨x35, hx, h⟩ := bind_some h
 refine qb (ACalls.ghost (e := 9) (ACalls.ghost (e := 26) (ACalls.wkg (AC.go (objs := [(0, .var 48 (Reader.cells x34.2)), (1, .var 26 [(.int .i64 0), (.str ⟨#[]⟩), (.sl 0 true []), (.sl 0 true [])]), (3, .var 26 [(.int .i64 (16 : Int)), (.str ⟨#[]⟩), (.bs 1 3 4 0 ([] : LB).length), (.bs 4 4 5 0 ([] : LN).length)]), (4, .row 9 (([] : LB).map sc).flatten), (5, .row 26 (([] : LN).map Node.cells).flatten)]) (xs := [(.ptr 2 3 0), (.agg (zu x34.1))]) (zn _ _ _ _ _ _ hx) [2, 3, 4] [3, 4, 5] rfl rfl rfl rfl rfl rfl rfl rfl rfl) (qh (qp _) (qh (qp _) jf)) (qd (qd (je (qc (qv _) (qc (qv _) (qc (ze rfl) (qc (ze rfl) ju)))) (zr _))))))) ?_
 refine kr [41, 87] ?_
 obtain ⟨x36, hx, h⟩ := bind_some h
 rcases x36 with ee | x36
 ·replace h : some (.error ee) = some r := h
  cases h
  exact qz (FC.go (qa _ _ _ _ _ _ _ hx) [0, 2, 3, 4] [0, 3, 4, 6] rfl rfl rfl rfl rfl rfl)
 refine qb (AC.g9 (qa _ _ _ _ _ _ _ hx) [0, 2, 3, 4] [0, 3, 4, 6]) ?_
 refine kr [41, 87] ?_
 cases h
 exact j4 env rfl rfl (tS [some 0] (sV (lS (lS lN)) zx) (j5 (ya (qf (qe (zt rfl) rfl) (qf (qe (jl rfl) rfl) (qf (qe (jv kp rfl) rfl) (qf (qe (jv zl rfl) rfl) j9))))) (by simp)))
mutual
def z7 (a0 : Reader) : Option (Except Int (Node × Reader)) :=
 q7 (qg a0) (⟨#[108, 101, 116]⟩ : BA) >>= fun x1 =>
 if x1 = true then
  kx (qg a0) (10 : Int) (⟨#[108, 101, 116]⟩ : BA) >>= fun x2 =>
  match x2 with
  | .error ee => some (.error ee)
  | .ok x2 =>
  some (.ok (x2.1, x2.2))
 else
  q7 (qg a0) (⟨#[114, 101, 116, 117, 114, 110]⟩ : BA) >>= fun x3 =>
  if x3 = true then
   qj (qg a0) (12 : Int) (⟨#[]⟩) ([] : LB) ([] : LN) (⟨#[114, 101, 116, 117, 114, 110]⟩ : BA) >>= fun x4 =>
   match x4 with
   | .error ee => some (.error ee)
   | .ok x4 =>
   qw x4.1 (1 : Int) >>= fun x5 =>
   match x5 with
   | .error ee => some (.error ee)
   | .ok x5 =>
   zm (12 : Int) (⟨#[]⟩) x4.2 ([] : LN) x5.1 >>= fun x6 =>
   qj x5.2 (12 : Int) (⟨#[]⟩) x4.2 (qg x6) (⟨#[59]⟩ : BA) >>= fun x7 =>
   match x7 with
   | .error ee => some (.error ee)
   | .ok x7 =>
   some (.ok ((Node.mk (12 : Int) (⟨#[]⟩) x7.2 x6), x7.1))
  else
   q7 (qg a0) (⟨#[105, 102]⟩ : BA) >>= fun x8 =>
   if x8 = true then
    qj (qg a0) (13 : Int) (⟨#[]⟩) ([] : LB) ([] : LN) (⟨#[105, 102]⟩ : BA) >>= fun x9 =>
    match x9 with
    | .error ee => some (.error ee)
    | .ok x9 =>
    qw x9.1 (1 : Int) >>= fun x10 =>
    match x10 with
    | .error ee => some (.error ee)
    | .ok x10 =>
    zm (13 : Int) (⟨#[]⟩) x9.2 ([] : LN) x10.1 >>= fun x11 =>
    ja x10.2 >>= fun x12 =>
    match x12 with
    | .error ee => some (.error ee)
    | .ok x12 =>
    zm (13 : Int) (⟨#[]⟩) x9.2 (qg x11) x12.1 >>= fun x13 =>
    q7 x12.2 (⟨#[101, 108, 115, 101]⟩ : BA) >>= fun x14 =>
    if x14 = true then
     qj x12.2 (14 : Int) (⟨#[]⟩) ([] : LB) ([] : LN) (⟨#[101, 108, 115, 101]⟩ : BA) >>= fun x15 =>
     match x15 with
     | .error ee => some (.error ee)
     | .ok x15 =>
     ja x15.1 >>= fun x16 =>
     match x16 with
     | .error ee => some (.error ee)
     | .ok x16 =>
     zm (14 : Int) (⟨#[]⟩) x15.2 ([] : LN) x16.1 >>= fun x17 =>
     j8 x16.2 (13 : Int) (⟨#[]⟩) x9.2 (qg x13) (Node.mk (14 : Int) (⟨#[]⟩) x15.2 x17)
    else
     j8 x12.2 (13 : Int) (⟨#[]⟩) x9.2 (qg x13) (Node.mk (14 : Int) (⟨#[]⟩) ([] : LB) ([] : LN))
   else
    q7 (qg a0) (⟨#[119, 104, 105, 108, 101]⟩ : BA) >>= fun x18 =>
    if x18 = true then
     qj (qg a0) (15 : Int) (⟨#[]⟩) ([] : LB) ([] : LN) (⟨#[119, 104, 105, 108, 101]⟩ : BA) >>= fun x19 =>
     match x19 with
     | .error ee => some (.error ee)
     | .ok x19 =>
     qw x19.1 (1 : Int) >>= fun x20 =>
     match x20 with
     | .error ee => some (.error ee)
     | .ok x20 =>
     zm (15 : Int) (⟨#[]⟩) x19.2 ([] : LN) x20.1 >>= fun x21 =>
     ja x20.2 >>= fun x22 =>
     match x22 with
     | .error ee => some (.error ee)
     | .ok x22 =>
     zm (15 : Int) (⟨#[]⟩) x19.2 (qg x21) x22.1 >>= fun x23 =>
     some (.ok ((Node.mk (15 : Int) (⟨#[]⟩) x19.2 x23), x22.2))
    else
     zd (qg a0) >>= fun x24 =>
     if (decide (x24.Kind = (1 : Int))) = true then
      Ys x24.Text >>= fun x25 =>
      if x25 = true then
       ix a0.l_ (IntKind.i64.wrap (a0.at_ + (1 : Int))) >>= fun x26 =>
       if (decide (x26.Text = (⟨#[61]⟩ : BA))) = true then
        zv (qg a0) (11 : Int) (⟨#[]⟩) ([] : LB) ([] : LN) >>= fun x27 =>
        match x27 with
        | .error ee => some (.error ee)
        | .ok x27 =>
        qj x27.1 (11 : Int) x27.2.1 x27.2.2 ([] : LN) (⟨#[61]⟩ : BA) >>= fun x28 =>
        match x28 with
        | .error ee => some (.error ee)
        | .ok x28 =>
        qw x28.1 (1 : Int) >>= fun x29 =>
        match x29 with
        | .error ee => some (.error ee)
        | .ok x29 =>
        zm (11 : Int) x27.2.1 x28.2 ([] : LN) x29.1 >>= fun x30 =>
        qj x29.2 (11 : Int) x27.2.1 x28.2 (qg x30) (⟨#[59]⟩ : BA) >>= fun x31 =>
        match x31 with
        | .error ee => some (.error ee)
        | .ok x31 =>
        some (.ok ((Node.mk (11 : Int) x27.2.1 x31.2 x30), x31.1))
       else
        jq (qg a0)
      else
       jq (qg a0)
     else
      jq (qg a0)
 partial_fixpoint
def ja (a0 : Reader) : Option (Except Int (Node × Reader)) :=
 qj (qg a0) (6 : Int) (⟨#[]⟩) ([] : LB) ([] : LN) (⟨#[123]⟩ : BA) >>= fun x32 =>
 match x32 with
 | .error ee => some (.error ee)
 | .ok x32 =>
 jn x32.1 (6 : Int) (⟨#[]⟩) x32.2 ([] : LN)
 partial_fixpoint
def jn (o0 : Reader) (o2_0 : Int) (o2_1 : BA) (o2_2 : LB) (o2_3 : LN) : Option (Except Int (Node × Reader)) :=
 q7 (qg o0) (⟨#[125]⟩ : BA) >>= fun x37 =>
 if (!x37) = true then
  z7 (qg o0) >>= fun x38 =>
  match x38 with
  | .error ee => some (.error ee)
  | .ok x38 =>
  zm (qg o2_0) (qg o2_1) (qg o2_2) (qg o2_3) x38.1 >>= fun x39 =>
  jn x38.2 (qg o2_0) (qg o2_1) (qg o2_2) (qg x39)
 else
  qj (qg o0) (qg o2_0) (qg o2_1) (qg o2_2) (qg o2_3) (⟨#[125]⟩ : BA) >>= fun x40 =>
  match x40 with
  | .error ee => some (.error ee)
  | .ok x40 =>
  some (.ok ((Node.mk o2_0 o2_1 x40.2 o2_3), x40.1))
 partial_fixpoint
end
@[reducible] def u7 (a0 : Reader) (r : Except Int (Node × Reader)) : Prop :=
  exq (fun (r : Node × Reader) => AC Tryd.prog G 14 [(.ptr 0 0 0)] 1 [(0, .var 48 (Reader.cells a0))] (.agg (zu r.1)) 1 [(0, .var 48 (Reader.cells r.2))]) (fun e => FC Tryd.prog G 14 [(.ptr 0 0 0)] 1 [(0, .var 48 (Reader.cells a0))] (flt e)) r
@[reducible] def Qq (a0 : Reader) (r : Except Int (Node × Reader)) : Prop :=
  exq (fun (r : Node × Reader) => AC Tryd.prog G 28 [(.ptr 0 0 0)] 1 [(0, .var 48 (Reader.cells a0))] (.agg (zu r.1)) 1 [(0, .var 48 (Reader.cells r.2))]) (fun e => FC Tryd.prog G 28 [(.ptr 0 0 0)] 1 [(0, .var 48 (Reader.cells a0))] (flt e)) r
@[reducible] def vj (o0 : Reader) (o2_0 : Int) (o2_1 : BA) (o2_2 : LB) (o2_3 : LN) (r : Except Int (Node × Reader)) : Prop :=
  Ok Tryd.prog G tt 16 1 (exq (fun (r : Node × Reader) => Ret Tryd.prog [.cell 2 26] (fun y H => Qt Tryd.prog G 1 H y (.agg (zu r.1)) ⟨1, [(0, .var 48 (Reader.cells r.2))]⟩)) (fun e => Q5 (flt e)) r) (.again (Qd [] Tryd.f28 0).1 (Qd [] Tryd.f28 0).2 (.n (.ptr 0 0 0) (.n .undef (.n (.ptr 2 2 0) .z .z) .z) (.n (.ptr 1 1 0) .z .z)) 6 [(0, .var 48 (Reader.cells o0)), (1, .var 26 [(.int .i64 0), (.str ⟨#[]⟩), (.sl 0 true []), (.sl 0 true [])]), (2, .var 26 [(.int .i64 o2_0), (.str o2_1), (.bs 1 3 5 0 o2_2.length), (.bs 4 4 4 0 o2_3.length)]), (5, .row 9 (o2_2.map sc).flatten), (4, .row 26 (o2_3.map Node.cells).flatten)])
theorem ur : PC1 u7 z7 ∧ PC1 Qq ja ∧ PC5 vj jn := by
 refine z7.mutual_partial_correctness u7 Qq vj (fun ja js a0 r h => ?_) (fun jn wo a0 r h => ?_) (fun z7 jn ke wo o0 o2_0 o2_1 o2_2 o2_3 r h => ?_)
 ·unfold qg at h
  refine Zc (T := tt) (N := 106) (rs := [.cell 2 26]) (fun vs w => by simp) Tryd.func14 rfl rfl rfl (by kernel_rfl) (by kernel_rfl) (yw rfl rfl y8) (zk zp) (fun r => (yv rfl y6)) (fun r => (zk zp)) (fun _ => rfl) (fun _ => rfl) rfl (fun _ => rfl) ?_
  refine kr [41, 87] ?_
  obtain ⟨x1, hx, h⟩ := bind_some h
  refine qb (AC.g9 (q9 _ _ _ hx) [0] [0]) ?_
  refine kr [41, 87] ?_
  refine qi (fun hb => ?_) (fun hb => ?_)
  ·replace h := zf hb h
   refine kr [41, 87] ?_
   obtain ⟨x2, hx, h⟩ := bind_some h
   rcases x2 with ee | x2
   ·replace h : some (.error ee) = some r := h
    cases h
    exact qz (FC.go (ut _ _ _ _ hx) [0] [0] rfl rfl rfl rfl rfl rfl)
   refine qb (AC.g9 (ut _ _ _ _ hx) [0] [0]) ?_
   refine kr [41, 87] ?_
   cases h
   exact j4 env rfl rfl (tS [some 0] (sV (lS (lS lN)) zx) (j5 (ya (qf (qe (zt rfl) rfl) (qf (qe (jl rfl) rfl) (qf (qe (yl (.inl rfl)) rfl) (qf (qe (yl (.inl rfl)) rfl) j9))))) (by simp)))
  replace h := zg hb h
  refine kr [41, 87] ?_
  obtain ⟨x3, hx, h⟩ := bind_some h
  refine qb (AC.g9 (q9 _ _ _ hx) [0] [0]) ?_
  refine kr [41, 87] ?_
  refine qi (fun hb => ?_) (fun hb => ?_)
  ·replace h := zf hb h
   refine kr [41, 87] ?_
   obtain ⟨x4, hx, h⟩ := bind_some h
   rcases x4 with ee | x4
   ·replace h : some (.error ee) = some r := h
    cases h
    exact qz (FCalls.ghost (e := 9) (FCalls.ghost (e := 26) (FCalls.wkg (FC.go (objs := [(0, .var 48 (Reader.cells a0)), (1, .var 26 [(.int .i64 0), (.str ⟨#[]⟩), (.sl 0 true []), (.sl 0 true [])]), (2, .var 26 [(.int .i64 (12 : Int)), (.str ⟨#[]⟩), (.bs 1 3 3 0 ([] : LB).length), (.bs 4 4 4 0 ([] : LN).length)]), (3, .row 9 (([] : LB).map sc).flatten), (4, .row 26 (([] : LN).map Node.cells).flatten)]) (xs := [(.ptr 0 0 0), (.ptr 2 2 0), (.str (⟨#[114, 101, 116, 117, 114, 110]⟩ : BA))]) (qa _ _ _ _ _ _ _ hx) [0, 2, 3, 4] [0, 2, 3, 4] rfl rfl rfl rfl rfl rfl) (qh (qp _) (qh (qp _) (qh (qp _) jf))) (qd (qd (je (qc (qv _) (qc (qv _) (qc (ze rfl) (qc (ze rfl) ju)))) (zr _)))))))
   refine qb (ACalls.ghost (e := 9) (ACalls.ghost (e := 26) (ACalls.wkg (AC.go (objs := [(0, .var 48 (Reader.cells a0)), (1, .var 26 [(.int .i64 0), (.str ⟨#[]⟩), (.sl 0 true []), (.sl 0 true [])]), (2, .var 26 [(.int .i64 (12 : Int)), (.str ⟨#[]⟩), (.bs 1 3 3 0 ([] : LB).length), (.bs 4 4 4 0 ([] : LN).length)]), (3, .row 9 (([] : LB).map sc).flatten), (4, .row 26 (([] : LN).map Node.cells).flatten)]) (xs := [(.ptr 0 0 0), (.ptr 2 2 0), (.str (⟨#[114, 101, 116, 117, 114, 110]⟩ : BA))]) (qa _ _ _ _ _ _ _ hx) [0, 2, 3, 4] [0, 2, 3, 4] rfl rfl rfl rfl rfl rfl rfl rfl rfl) (qh (qp _) (qh (qp _) (qh (qp _) jf))) (qd (qd (je (qc (qv _) (qc (qv _) (qc (ze rfl) (qc (ze rfl) ju)))) (zr _))))))) ?_
   refine kr [41, 87] ?_
   obtain ⟨x5, hx, h⟩ := bind_some h
   rcases x5 with ee | x5
   ·replace h : some (.error ee) = some r := h
    cases h
    exact qz (FC.go (qo _ _ _ hx) [0] [0] rfl rfl rfl rfl rfl rfl)
   refine qb (AC.g9 (qo _ _ _ hx) [0] [0]) ?_
   refine kr [41, 87] ?_
   obtain ⟨x6, hx, h⟩ := bind_some h
   refine qb (AC.g9 (zn _ _ _ _ _ _ hx) [2, 3, 4] [2, 5, 4]) ?_
   refine kr [41, 87] ?_
   obtain ⟨x7, hx, h⟩ := bind_some h
   rcases x7 with ee | x7
   ·replace h : some (.error ee) = some r := h
    cases h
    exact qz (FC.go (qa _ _ _ _ _ _ _ hx) [0, 2, 3, 4] [0, 2, 5, 6] rfl rfl rfl rfl rfl rfl)
   refine qb (AC.g9 (qa _ _ _ _ _ _ _ hx) [0, 2, 3, 4] [0, 2, 5, 6]) ?_
   refine kr [41, 87] ?_
   cases h
   exact j4 env rfl rfl (tS [some 0] (sV (lS (lS lN)) zx) (j5 (ya (qf (qe (zt rfl) rfl) (qf (qe (jl rfl) rfl) (qf (qe (jv kp rfl) rfl) (qf (qe (jv zl rfl) rfl) j9))))) (by simp)))
  replace h := zg hb h
  refine kr [41, 87] ?_
  obtain ⟨x8, hx, h⟩ := bind_some h
  refine qb (AC.g9 (q9 _ _ _ hx) [0] [0]) ?_
  refine kr [41, 87] ?_
  refine qi (fun hb => ?_) (fun hb => ?_)
  ·replace h := zf hb h
   refine kr [41, 87] ?_
   obtain ⟨x9, hx, h⟩ := bind_some h
   rcases x9 with ee | x9
   ·replace h : some (.error ee) = some r := h
    cases h
    exact qz (FCalls.ghost (e := 9) (FCalls.ghost (e := 26) (FCalls.wkg (FC.go (objs := [(0, .var 48 (Reader.cells a0)), (1, .var 26 [(.int .i64 0), (.str ⟨#[]⟩), (.sl 0 true []), (.sl 0 true [])]), (2, .var 26 [(.int .i64 (13 : Int)), (.str ⟨#[]⟩), (.bs 1 3 3 0 ([] : LB).length), (.bs 4 4 4 0 ([] : LN).length)]), (3, .row 9 (([] : LB).map sc).flatten), (4, .row 26 (([] : LN).map Node.cells).flatten)]) (xs := [(.ptr 0 0 0), (.ptr 2 2 0), (.str (⟨#[105, 102]⟩ : BA))]) (qa _ _ _ _ _ _ _ hx) [0, 2, 3, 4] [0, 2, 3, 4] rfl rfl rfl rfl rfl rfl) (qh (qp _) (qh (qp _) (qh (qp _) jf))) (qd (qd (je (qc (qv _) (qc (qv _) (qc (ze rfl) (qc (ze rfl) ju)))) (zr _)))))))
   refine qb (ACalls.ghost (e := 9) (ACalls.ghost (e := 26) (ACalls.wkg (AC.go (objs := [(0, .var 48 (Reader.cells a0)), (1, .var 26 [(.int .i64 0), (.str ⟨#[]⟩), (.sl 0 true []), (.sl 0 true [])]), (2, .var 26 [(.int .i64 (13 : Int)), (.str ⟨#[]⟩), (.bs 1 3 3 0 ([] : LB).length), (.bs 4 4 4 0 ([] : LN).length)]), (3, .row 9 (([] : LB).map sc).flatten), (4, .row 26 (([] : LN).map Node.cells).flatten)]) (xs := [(.ptr 0 0 0), (.ptr 2 2 0), (.str (⟨#[105, 102]⟩ : BA))]) (qa _ _ _ _ _ _ _ hx) [0, 2, 3, 4] [0, 2, 3, 4] rfl rfl rfl rfl rfl rfl rfl rfl rfl) (qh (qp _) (qh (qp _) (qh (qp _) jf))) (qd (qd (je (qc (qv _) (qc (qv _) (qc (ze rfl) (qc (ze rfl) ju)))) (zr _))))))) ?_
   refine kr [41, 87] ?_
   obtain ⟨x10, hx, h⟩ := bind_some h
   rcases x10 with ee | x10
   ·replace h : some (.error ee) = some r := h
    cases h
    exact qz (FC.go (qo _ _ _ hx) [0] [0] rfl rfl rfl rfl rfl rfl)
   refine qb (AC.g9 (qo _ _ _ hx) [0] [0]) ?_
   refine kr [41, 87] ?_
   obtain ⟨x11, hx, h⟩ := bind_some h
   refine qb (AC.g9 (zn _ _ _ _ _ _ hx) [2, 3, 4] [2, 5, 4]) ?_
   refine kr [41, 87] ?_
   obtain ⟨x12, hx, h⟩ := bind_some h
   rcases x12 with ee | x12
   ·replace h : some (.error ee) = some r := h
    cases h
    exact qz (FC.go (js _ _ hx) [0] [0] rfl rfl rfl rfl rfl rfl)
   refine qb (AC.g9 (js _ _ hx) [0] [0]) ?_
   refine kr [41, 87] ?_
   obtain ⟨x13, hx, h⟩ := bind_some h
   refine qb (AC.g9 (zn _ _ _ _ _ _ hx) [2, 3, 4] [2, 5, 6]) ?_
   refine kr [41, 87] ?_
   obtain ⟨x14, hx, h⟩ := bind_some h
   refine qb (AC.g9 (q9 _ _ _ hx) [0] [0]) ?_
   refine kr [41, 87] ?_
   refine qi (fun hb => ?_) (fun hb => ?_)
   ·replace h := zf hb h
    refine kr [41, 87] ?_
    obtain ⟨x15, hx, h⟩ := bind_some h
    rcases x15 with ee | x15
    ·replace h : some (.error ee) = some r := h
     cases h
     exact qz (FCalls.ghost (e := 9) (FCalls.ghost (e := 26) (FCalls.wkg (FC.go (objs := [(0, .var 48 (Reader.cells x12.2)), (1, .var 26 [(.int .i64 0), (.str ⟨#[]⟩), (.sl 0 true []), (.sl 0 true [])]), (2, .var 26 [(.int .i64 (13 : Int)), (.str ⟨#[]⟩), (.bs 1 3 5 0 x9.2.length), (.bs 4 4 7 0 x13.length)]), (5, .row 9 (x9.2.map sc).flatten), (7, .row 26 (x13.map Node.cells).flatten), (8, .var 26 [(.int .i64 (14 : Int)), (.str ⟨#[]⟩), (.bs 1 6 9 0 ([] : LB).length), (.bs 4 7 10 0 ([] : LN).length)]), (9, .row 9 (([] : LB).map sc).flatten), (10, .row 26 (([] : LN).map Node.cells).flatten)]) (xs := [(.ptr 0 0 0), (.ptr 5 8 0), (.str (⟨#[101, 108, 115, 101]⟩ : BA))]) (qa _ _ _ _ _ _ _ hx) [0, 5, 6, 7] [0, 8, 9, 10] rfl rfl rfl rfl rfl rfl) (qh (qp _) (qh (qp _) (qh (qp _) jf))) (qd (qd (qd (qd (qd (je (qc (qv _) (qc (qv _) (qc (ze rfl) (qc (ze rfl) ju)))) (zr _))))))))))
    refine qb (ACalls.ghost (e := 9) (ACalls.ghost (e := 26) (ACalls.wkg (AC.go (objs := [(0, .var 48 (Reader.cells x12.2)), (1, .var 26 [(.int .i64 0), (.str ⟨#[]⟩), (.sl 0 true []), (.sl 0 true [])]), (2, .var 26 [(.int .i64 (13 : Int)), (.str ⟨#[]⟩), (.bs 1 3 5 0 x9.2.length), (.bs 4 4 7 0 x13.length)]), (5, .row 9 (x9.2.map sc).flatten), (7, .row 26 (x13.map Node.cells).flatten), (8, .var 26 [(.int .i64 (14 : Int)), (.str ⟨#[]⟩), (.bs 1 6 9 0 ([] : LB).length), (.bs 4 7 10 0 ([] : LN).length)]), (9, .row 9 (([] : LB).map sc).flatten), (10, .row 26 (([] : LN).map Node.cells).flatten)]) (xs := [(.ptr 0 0 0), (.ptr 5 8 0), (.str (⟨#[101, 108, 115, 101]⟩ : BA))]) (qa _ _ _ _ _ _ _ hx) [0, 5, 6, 7] [0, 8, 9, 10] rfl rfl rfl rfl rfl rfl rfl rfl rfl) (qh (qp _) (qh (qp _) (qh (qp _) jf))) (qd (qd (qd (qd (qd (je (qc (qv _) (qc (qv _) (qc (ze rfl) (qc (ze rfl) ju)))) (zr _)))))))))) ?_
    refine kr [41, 87] ?_
    obtain ⟨x16, hx, h⟩ := bind_some h
    rcases x16 with ee | x16
    ·replace h : some (.error ee) = some r := h
     cases h
     exact qz (FC.go (js _ _ hx) [0] [0] rfl rfl rfl rfl rfl rfl)
    refine qb (AC.g9 (js _ _ hx) [0] [0]) ?_
    refine kr [41, 87] ?_
    obtain ⟨x17, hx, h⟩ := bind_some h
    refine qb (AC.g9 (zn _ _ _ _ _ _ hx) [5, 6, 7] [8, 11, 10]) ?_
    refine kr [41, 87] ?_
    refine Z1 5 2 6 kp rfl rfl rfl rfl rfl rfl ?_
    refine Z1 5 3 7 zl rfl rfl rfl rfl rfl rfl ?_
    exact zi (by kernel_rfl) rfl lQ (Qm _ _ _ _ _ _ _ h)
   replace h := zg hb h
   refine kr [41, 87] ?_
   exact zi (by kernel_rfl) rfl lQ (Qm _ _ _ _ _ _ _ h)
  replace h := zg hb h
  refine kr [41, 87] ?_
  obtain ⟨x18, hx, h⟩ := bind_some h
  refine qb (AC.g9 (q9 _ _ _ hx) [0] [0]) ?_
  refine kr [41, 87] ?_
  refine qi (fun hb => ?_) (fun hb => ?_)
  ·replace h := zf hb h
   refine kr [41, 87] ?_
   obtain ⟨x19, hx, h⟩ := bind_some h
   rcases x19 with ee | x19
   ·replace h : some (.error ee) = some r := h
    cases h
    exact qz (FCalls.ghost (e := 9) (FCalls.ghost (e := 26) (FCalls.wkg (FC.go (objs := [(0, .var 48 (Reader.cells a0)), (1, .var 26 [(.int .i64 0), (.str ⟨#[]⟩), (.sl 0 true []), (.sl 0 true [])]), (2, .var 26 [(.int .i64 (15 : Int)), (.str ⟨#[]⟩), (.bs 1 3 3 0 ([] : LB).length), (.bs 4 4 4 0 ([] : LN).length)]), (3, .row 9 (([] : LB).map sc).flatten), (4, .row 26 (([] : LN).map Node.cells).flatten)]) (xs := [(.ptr 0 0 0), (.ptr 2 2 0), (.str (⟨#[119, 104, 105, 108, 101]⟩ : BA))]) (qa _ _ _ _ _ _ _ hx) [0, 2, 3, 4] [0, 2, 3, 4] rfl rfl rfl rfl rfl rfl) (qh (qp _) (qh (qp _) (qh (qp _) jf))) (qd (qd (je (qc (qv _) (qc (qv _) (qc (ze rfl) (qc (ze rfl) ju)))) (zr _)))))))
   refine qb (ACalls.ghost (e := 9) (ACalls.ghost (e := 26) (ACalls.wkg (AC.go (objs := [(0, .var 48 (Reader.cells a0)), (1, .var 26 [(.int .i64 0), (.str ⟨#[]⟩), (.sl 0 true []), (.sl 0 true [])]), (2, .var 26 [(.int .i64 (15 : Int)), (.str ⟨#[]⟩), (.bs 1 3 3 0 ([] : LB).length), (.bs 4 4 4 0 ([] : LN).length)]), (3, .row 9 (([] : LB).map sc).flatten), (4, .row 26 (([] : LN).map Node.cells).flatten)]) (xs := [(.ptr 0 0 0), (.ptr 2 2 0), (.str (⟨#[119, 104, 105, 108, 101]⟩ : BA))]) (qa _ _ _ _ _ _ _ hx) [0, 2, 3, 4] [0, 2, 3, 4] rfl rfl rfl rfl rfl rfl rfl rfl rfl) (qh (qp _) (qh (qp _) (qh (qp _) jf))) (qd (qd (je (qc (qv _) (qc (qv _) (qc (ze rfl) (qc (ze rfl) ju)))) (zr _))))))) ?_
   refine kr [41, 87] ?_
   obtain ⟨x20, hx, h⟩ := bind_some h
   rcases x20 with ee | x20
   ·replace h : some (.error ee) = some r := h
    cases h
    exact qz (FC.go (qo _ _ _ hx) [0] [0] rfl rfl rfl rfl rfl rfl)
   refine qb (AC.g9 (qo _ _ _ hx) [0] [0]) ?_
   refine kr [41, 87] ?_
   obtain ⟨x21, hx, h⟩ := bind_some h
   refine qb (AC.g9 (zn _ _ _ _ _ _ hx) [2, 3, 4] [2, 5, 4]) ?_
   refine kr [41, 87] ?_
   obtain ⟨x22, hx, h⟩ := bind_some h
   rcases x22 with ee | x22
   ·replace h : some (.error ee) = some r := h
    cases h
    exact qz (FC.go (js _ _ hx) [0] [0] rfl rfl rfl rfl rfl rfl)
   refine qb (AC.g9 (js _ _ hx) [0] [0]) ?_
   refine kr [41, 87] ?_
   obtain ⟨x23, hx, h⟩ := bind_some h
   refine qb (AC.g9 (zn _ _ _ _ _ _ hx) [2, 3, 4] [2, 5, 6]) ?_
   refine kr [41, 87] ?_
   cases h
   exact j4 env rfl rfl (tS [some 0] (sV (lS (lS lN)) zx) (j5 (ya (qf (qe (zt rfl) rfl) (qf (qe (jl rfl) rfl) (qf (qe (jv kp rfl) rfl) (qf (qe (jv zl rfl) rfl) j9))))) (by simp)))
  replace h := zg hb h
  refine kr [41, 87] ?_
  obtain ⟨x24, hx, h⟩ := bind_some h
  refine qb (AC.g9 (zj _ _ hx) [0] [0]) ?_
  refine kr [41, 87] ?_
  refine qq (fun hb => ?_) (fun hb => ?_)
  ·replace h := zf hb h
   refine kr [41, 87] ?_
   obtain ⟨x25, hx, h⟩ := bind_some h
   refine qr (qcz _ _ hx) ?_
   refine kr [41, 87] ?_
   refine qq (fun hb => ?_) (fun hb => ?_)
   ·replace h := zf hb h
    refine kr [41, 87] ?_
    obtain ⟨x26, hx, h⟩ := bind_some h
    refine Y0 env hx rfl rfl rfl rfl rfl ?_
    refine kr [41, 87] ?_
    refine qi (fun hb => ?_) (fun hb => ?_)
    ·replace h := zf hb h
     refine kr [41, 87] ?_
     obtain ⟨x27, hx, h⟩ := bind_some h
     rcases x27 with ee | x27
     ·replace h : some (.error ee) = some r := h
      cases h
      exact qz (FCalls.ghost (e := 9) (FCalls.ghost (e := 26) (FCalls.wkg (FC.go (objs := [(0, .var 48 (Reader.cells a0)), (1, .var 26 [(.int .i64 0), (.str ⟨#[]⟩), (.sl 0 true []), (.sl 0 true [])]), (2, .var 39 (Token.cells x24)), (3, .var 26 [(.int .i64 (11 : Int)), (.str ⟨#[]⟩), (.bs 1 4 4 0 ([] : LB).length), (.bs 4 5 5 0 ([] : LN).length)]), (4, .row 9 (([] : LB).map sc).flatten), (5, .row 26 (([] : LN).map Node.cells).flatten)]) (xs := [(.ptr 0 0 0), (.ptr 3 3 0)]) (zb _ _ _ _ _ _ hx) [0, 3, 4, 5] [0, 3, 4, 5] rfl rfl rfl rfl rfl rfl) (qh (qp _) (qh (qp _) jf)) (qd (qd (qd (je (qc (qv _) (qc (qv _) (qc (ze rfl) (qc (ze rfl) ju)))) (zr _))))))))
     refine qb (ACalls.ghost (e := 9) (ACalls.ghost (e := 26) (ACalls.wkg (AC.go (objs := [(0, .var 48 (Reader.cells a0)), (1, .var 26 [(.int .i64 0), (.str ⟨#[]⟩), (.sl 0 true []), (.sl 0 true [])]), (2, .var 39 (Token.cells x24)), (3, .var 26 [(.int .i64 (11 : Int)), (.str ⟨#[]⟩), (.bs 1 4 4 0 ([] : LB).length), (.bs 4 5 5 0 ([] : LN).length)]), (4, .row 9 (([] : LB).map sc).flatten), (5, .row 26 (([] : LN).map Node.cells).flatten)]) (xs := [(.ptr 0 0 0), (.ptr 3 3 0)]) (zb _ _ _ _ _ _ hx) [0, 3, 4, 5] [0, 3, 4, 5] rfl rfl rfl rfl rfl rfl rfl rfl rfl) (qh (qp _) (qh (qp _) jf)) (qd (qd (qd (je (qc (qv _) (qc (qv _) (qc (ze rfl) (qc (ze rfl) ju)))) (zr _)))))))) ?_
     refine kr [41, 87] ?_
     obtain ⟨x28, hx, h⟩ := bind_some h
     rcases x28 with ee | x28
     ·replace h : some (.error ee) = some r := h
      cases h
      exact qz (FC.go (qa _ _ _ _ _ _ _ hx) [0, 3, 4, 5] [0, 3, 6, 5] rfl rfl rfl rfl rfl rfl)
     refine qb (AC.g9 (qa _ _ _ _ _ _ _ hx) [0, 3, 4, 5] [0, 3, 6, 5]) ?_
     refine kr [41, 87] ?_
     obtain ⟨x29, hx, h⟩ := bind_some h
     rcases x29 with ee | x29
     ·replace h : some (.error ee) = some r := h
      cases h
      exact qz (FC.go (qo _ _ _ hx) [0] [0] rfl rfl rfl rfl rfl rfl)
     refine qb (AC.g9 (qo _ _ _ hx) [0] [0]) ?_
     refine kr [41, 87] ?_
     obtain ⟨x30, hx, h⟩ := bind_some h
     refine qb (AC.g9 (zn _ _ _ _ _ _ hx) [3, 4, 5] [3, 7, 5]) ?_
     refine kr [41, 87] ?_
     obtain ⟨x31, hx, h⟩ := bind_some h
     rcases x31 with ee | x31
     ·replace h : some (.error ee) = some r := h
      cases h
      exact qz (FC.go (qa _ _ _ _ _ _ _ hx) [0, 3, 4, 5] [0, 3, 7, 8] rfl rfl rfl rfl rfl rfl)
     refine qb (AC.g9 (qa _ _ _ _ _ _ _ hx) [0, 3, 4, 5] [0, 3, 7, 8]) ?_
     refine kr [41, 87] ?_
     cases h
     exact j4 env rfl rfl (tS [some 0] (sV (lS (lS lN)) zx) (j5 (ya (qf (qe (zt rfl) rfl) (qf (qe (jl rfl) rfl) (qf (qe (jv kp rfl) rfl) (qf (qe (jv zl rfl) rfl) j9))))) (by simp)))
    replace h := zg hb h
    refine kr [41, 87] ?_
    exact zi (by kernel_rfl) rfl lQ (wz _ _ h)
   replace h := zg hb h
   refine kr [41, 87] ?_
   exact zi (by kernel_rfl) rfl lQ (wz _ _ h)
  replace h := zg hb h
  refine kr [41, 87] ?_
  exact zi (by kernel_rfl) rfl lQ (wz _ _ h)
 ·unfold qg at h
  refine Zc (T := tt) (N := 16) (rs := [.cell 2 26]) (fun vs w => by simp) Tryd.func28 rfl rfl rfl (by kernel_rfl) (by kernel_rfl) (yw rfl rfl y8) (zk zp) (fun r => (yv rfl y6)) (fun r => (zk zp)) (fun _ => rfl) (fun _ => rfl) rfl (fun _ => rfl) ?_
  refine kr [] ?_
  obtain ⟨x32, hx, h⟩ := bind_some h
  rcases x32 with ee | x32
  ·replace h : some (.error ee) = some r := h
   cases h
   exact qz (FCalls.ghost (e := 9) (FCalls.ghost (e := 26) (FCalls.wkg (FC.go (objs := [(0, .var 48 (Reader.cells a0)), (1, .var 26 [(.int .i64 0), (.str ⟨#[]⟩), (.sl 0 true []), (.sl 0 true [])]), (2, .var 26 [(.int .i64 (6 : Int)), (.str ⟨#[]⟩), (.bs 1 3 3 0 ([] : LB).length), (.bs 4 4 4 0 ([] : LN).length)]), (3, .row 9 (([] : LB).map sc).flatten), (4, .row 26 (([] : LN).map Node.cells).flatten)]) (xs := [(.ptr 0 0 0), (.ptr 2 2 0), (.str (⟨#[123]⟩ : BA))]) (qa _ _ _ _ _ _ _ hx) [0, 2, 3, 4] [0, 2, 3, 4] rfl rfl rfl rfl rfl rfl) (qh (qp _) (qh (qp _) (qh (qp _) jf))) (qd (qd (je (qc (qv _) (qc (qv _) (qc (ze rfl) (qc (ze rfl) ju)))) (zr _)))))))
  refine qb (ACalls.ghost (e := 9) (ACalls.ghost (e := 26) (ACalls.wkg (AC.go (objs := [(0, .var 48 (Reader.cells a0)), (1, .var 26 [(.int .i64 0), (.str ⟨#[]⟩), (.sl 0 true []), (.sl 0 true [])]), (2, .var 26 [(.int .i64 (6 : Int)), (.str ⟨#[]⟩), (.bs 1 3 3 0 ([] : LB).length), (.bs 4 4 4 0 ([] : LN).length)]), (3, .row 9 (([] : LB).map sc).flatten), (4, .row 26 (([] : LN).map Node.cells).flatten)]) (xs := [(.ptr 0 0 0), (.ptr 2 2 0), (.str (⟨#[123]⟩ : BA))]) (qa _ _ _ _ _ _ _ hx) [0, 2, 3, 4] [0, 2, 3, 4] rfl rfl rfl rfl rfl rfl rfl rfl rfl) (qh (qp _) (qh (qp _) (qh (qp _) jf))) (qd (qd (je (qc (qv _) (qc (qv _) (qc (ze rfl) (qc (ze rfl) ju)))) (zr _))))))) ?_
  refine kr [] ?_
  exact vv (by kernel_rfl) lQ (wo _ _ _ _ _ _ h)
 unfold qg at h
 refine Q3 ?_
 refine kr [] ?_
 obtain ⟨x37, hx, h⟩ := bind_some h
 refine qb (AC.g9 (q9 _ _ _ hx) [0] [0]) ?_
 refine kr [] ?_
 refine qi (fun hb => ?_) (fun hb => ?_)
 ·replace h := zf hb h
  refine kr [] ?_
  obtain ⟨x38, hx, h⟩ := bind_some h
  rcases x38 with ee | x38
  ·replace h : some (.error ee) = some r := h
   cases h
   exact qz (FC.go (ke _ _ hx) [0] [0] rfl rfl rfl rfl rfl rfl)
  refine qb (AC.g9 (ke _ _ hx) [0] [0]) ?_
  refine kr [] ?_
  obtain ⟨x39, hx, h⟩ := bind_some h
  refine qb (AC.g9 (zn _ _ _ _ _ _ hx) [2, 3, 4] [2, 5, 4]) ?_
  refine kr [] ?_
  exact ux (by kernel_rfl) lQ (wo _ _ _ _ _ _ h)
 replace h := zg hb h
 refine kr [] ?_
 obtain ⟨x40, hx, h⟩ := bind_some h
 rcases x40 with ee | x40
 ·replace h : some (.error ee) = some r := h
  cases h
  exact qz (FC.go (qa _ _ _ _ _ _ _ hx) [0, 2, 3, 4] [0, 2, 5, 4] rfl rfl rfl rfl rfl rfl)
 refine qb (AC.g9 (qa _ _ _ _ _ _ _ hx) [0, 2, 3, 4] [0, 2, 5, 4]) ?_
 refine kr [] ?_
 cases h
 exact j4 env rfl rfl (tS [some 0] (sV (lS (lS lN)) zx) (j5 (ya (qf (qe (zt rfl) rfl) (qf (qe (jl rfl) rfl) (qf (qe (jv kp rfl) rfl) (qf (qe (jv zl rfl) rfl) j9))))) (by simp)))
theorem ke : PC1 u7 z7 := ur.1
theorem js : PC1 Qq ja := ur.2.1
theorem wo : PC5 vj jn := ur.2.2
def Z3 (a0 : Reader) : Option (Except Int (Node × Reader)) :=
 z7 a0 >>= fun x1 =>
 match x1 with
 | .error ee => some (.error ee)
 | .ok x1 =>
 some (.ok (x1.1, x1.2))
@[reducible] def qel (a0 : Reader) (r : Except Int (Node × Reader)) : Prop :=
  exq (fun (r : Node × Reader) => AC Tryd.prog G 13 [(.ptr 0 0 0)] 1 [(0, .var 48 (Reader.cells a0))] (.agg (zu r.1)) 1 [(0, .var 48 (Reader.cells r.2))]) (fun e => FC Tryd.prog G 13 [(.ptr 0 0 0)] 1 [(0, .var 48 (Reader.cells a0))] (flt e)) r
theorem K9 : PC1 qel Z3 := fun a0 r h => by
 rw [Z3.eq_def] at h
 refine Zc (T := tt) (N := 5) (rs := [.cell 2 26]) (fun vs w => by simp) Tryd.func13 rfl rfl rfl (by kernel_rfl) (by kernel_rfl) (yw rfl rfl y8) (zk zp) (fun r => (yv rfl y6)) (fun r => (zk zp)) (fun _ => rfl) (fun _ => rfl) rfl (fun _ => rfl) ?_
 refine kr [] ?_
 obtain ⟨x1, hx, h⟩ := bind_some h
 rcases x1 with ee | x1
 ·replace h : some (.error ee) = some r := h
  cases h
  exact qz (FC.go (ke _ _ hx) [0] [0] rfl rfl rfl rfl rfl rfl)
 refine qb (AC.g9 (ke _ _ hx) [0] [0]) ?_
 refine kr [] ?_
 cases h
 exact j4 env rfl rfl (tS [some 0] (sV (lS (lS lN)) zx) (j5 (ya (qf (qe (zt rfl) rfl) (qf (qe (jl rfl) rfl) (qf (qe (yl (.inl rfl)) rfl) (qf (qe (yl (.inl rfl)) rfl) j9))))) (by simp)))
def Yt (o0 : Reader) (o2 : Node) : Option (Except Int (Node × Reader)) :=
 some (.ok (o2, o0))
@[reducible] def qki (o0 : Reader) (o2 : Node) (r : Except Int (Node × Reader)) : Prop :=
  Ok Tryd.prog G tt 21 1 (exq (fun (r : Node × Reader) => Ret Tryd.prog [.cell 3 26] (fun y H => Qt Tryd.prog G 1 H y (.agg (zu r.1)) ⟨1, [(0, .var 48 (Reader.cells r.2))]⟩)) (fun e => Q5 (flt e)) r) (.go [] (Zu [17] Tryd.f18 17) [] (.n .undef (.n .undef (.n (.ptr 1 1 0) .z .z) .z) (.n .undef (.n (.ptr 2 2 0) .z .z) .z)) 3 [(0, .var 48 (Reader.cells o0)), (1, .var 26 [(.int .i64 0), (.str ⟨#[]⟩), (.sl 0 true []), (.sl 0 true [])]), (2, .var 26 (zu o2))])
theorem Wc : PC2 qki Yt := fun o0 o2 r h => by
 rw [Yt.eq_def] at h
 refine kr [17] ?_
 cases h
 exact j4 env rfl rfl (tS [some 0] (sV (lS (lS lN)) zx) (j5 (ya (qf (qe (zt rfl) rfl) (qf (qe (jl rfl) rfl) (qf (qe (yl (.inl rfl)) rfl) (qf (qe (yl (.inl rfl)) rfl) j9))))) (by simp)))
def We (a0 : Reader) : Option (Except Int (Node × Reader)) :=
 Z3 a0 >>= fun x1 =>
 match x1 with
 | .error ee => some (.error ee)
 | .ok x1 =>
 zd x1.2 >>= fun x2 =>
 if (!decide (x2.Kind = (4 : Int))) = true then
  zw x1.2 >>= fun x5 =>
  match x5 with
  | .error ee => some (.error ee)
  | .ok x5 =>
  Yt x1.2 x1.1
 else
  zd x1.2 >>= fun x3 =>
  if (!decide (x3.Lead = (⟨#[]⟩ : BA))) = true then
   zw x1.2 >>= fun x4 =>
   match x4 with
   | .error ee => some (.error ee)
   | .ok x4 =>
   Yt x1.2 x1.1
  else
   Yt x1.2 x1.1
@[reducible] def qrr (a0 : Reader) (r : Except Int (Node × Reader)) : Prop :=
  exq (fun (r : Node × Reader) => AC Tryd.prog G 18 [(.ptr 0 0 0), (.rptr [(.fn 13 [])])] 1 [(0, .var 48 (Reader.cells a0))] (.agg (zu r.1)) 1 [(0, .var 48 (Reader.cells r.2))]) (fun e => FC Tryd.prog G 18 [(.ptr 0 0 0), (.rptr [(.fn 13 [])])] 1 [(0, .var 48 (Reader.cells a0))] (flt e)) r
theorem qkn : PC1 qrr We := fun a0 r h => by
 rw [We.eq_def] at h
 refine Zc (T := tt) (N := 21) (rs := [.cell 3 26]) (fun vs w => by simp) Tryd.func18 rfl rfl rfl (by kernel_rfl) (by kernel_rfl) (yw rfl rfl y8) (zk zp) (fun r => (yv rfl y6)) (fun r => (zk zp)) (fun _ => rfl) (fun _ => rfl) rfl (fun _ => rfl) ?_
 refine kr [17] ?_
 obtain ⟨x1, hx, h⟩ := bind_some h
 rcases x1 with ee | x1
 ·replace h : some (.error ee) = some r := h
  cases h
  exact qz (FC.go (K9 _ _ hx) [0] [0] rfl rfl rfl rfl rfl rfl)
 refine qb (AC.g9 (K9 _ _ hx) [0] [0]) ?_
 refine kr [17] ?_
 obtain ⟨x2, hx, h⟩ := bind_some h
 refine qb (AC.g9 (zj _ _ hx) [0] [0]) ?_
 refine kr [17] ?_
 refine qu (fun hb => ?_) (fun hb => ?_)
 ·replace h := zg hb h
  refine kr [17] ?_
  obtain ⟨x3, hx, h⟩ := bind_some h
  refine qb (AC.g9 (zj _ _ hx) [0] [0]) ?_
  refine kr [17] ?_
  refine qi (fun hb => ?_) (fun hb => ?_)
  ·replace h := zf hb h
   refine kr [17] ?_
   obtain ⟨x4, hx, h⟩ := bind_some h
   rcases x4 with ee | x4
   ·replace h : some (.error ee) = some r := h
    cases h
    exact qz (FC.go (zh _ _ hx) [0] [0] rfl rfl rfl rfl rfl rfl)
   refine qb (AC.g9 (zh _ _ hx) [0] [0]) ?_
   refine kr [17] ?_
   exact zi (by kernel_rfl) rfl lQ (Wc _ _ _ h)
  replace h := zg hb h
  refine kr [17] ?_
  exact zi (by kernel_rfl) rfl lQ (Wc _ _ _ h)
 replace h := zf hb h
 refine kr [17] ?_
 obtain ⟨x5, hx, h⟩ := bind_some h
 rcases x5 with ee | x5
 ·replace h : some (.error ee) = some r := h
  cases h
  exact qz (FC.go (zh _ _ hx) [0] [0] rfl rfl rfl rfl rfl rfl)
 refine qb (AC.g9 (zh _ _ hx) [0] [0]) ?_
 refine kr [17] ?_
 exact zi (by kernel_rfl) rfl lQ (Wc _ _ _ h)
def Yp (s : BA) : Option (Node × Int × Int) :=
 wb s >>= fun t =>
 if (!decide (t.2.1 = (0 : Int))) = true then some (Node.mk 0 ⟨#[]⟩ [] [], t.2.1, t.2.2)
 else We ⟨t.1, 0⟩ >>= fun x => match x with
  | .error e => some (Node.mk 0 ⟨#[]⟩ [] [], 1, e)
  | .ok x => kt x.1 >>= fun c => if (decide (c = (3 : Int))) = true then some (Node.mk 0 ⟨#[]⟩ [] [], 3, 0) else some (x.1, 0, 0)
def yp (t : List Token × Int × Int) (fr : Fr) (H : Hp) : Prop := (fr 1 = .fn 18 [(.rptr [.fn 13 []])] ∧ fr 4 = .ptr 0 0 0 ∧ fr 5 = .ptr 1 1 0 ∧ fr 6 = .ptr 2 2 0 ∧ fr 7 = .sl 4 false (t.1.map Token.cells)) ∧ H = ⟨3, rdO t.2.1 t.2.2⟩
theorem qg7 (s : BA) (t : List Token × Int × Int) (ht : wb s = some t) (x : Node × Int × Int) :
 Ok Tryd.prog G tt 32 0 (Q6 (fun fr H => fr 16 = .bool (!decide (t.2.1 = (0 : Int))) ∧ yp t fr H) (rdR x)) (.go (qbx 0 [.str s, .fn 18 [(.rptr [.fn 13 []])]]) [.code rd0, .code rd1, .code rd2a] [] .z 0 []) := by
 refine kr [] ?_
 refine qr (Y3 _ _ ht) ?_
 refine kr [] ?_
 exact qid ⟨rfl, ⟨rfl, rfl, rfl, rfl, rfl⟩, rfl⟩
theorem qg4 (t : List Token × Int × Int) (x : Node × Int × Int) (hx : (!decide (t.2.1 = (0 : Int))) = true → x = (Node.mk 0 ⟨#[]⟩ [] [], t.2.1, t.2.2)) (fr : Fr) (H : Hp)
 (h : AWp Tryd.prog G 32 0 rd2a (Q6 (fun fr H => fr 16 = .bool (!decide (t.2.1 = (0 : Int))) ∧ yp t fr H) (rdR x)) fr H) : AWp Tryd.prog G 32 0 rd2 (Q6 (fun fr H => (!decide (t.2.1 = (0 : Int))) = false ∧ yp t fr H) (rdR x)) fr H := by
 rw [qq1]
 refine qf2 (h.mono ?_)
 intro e fr H q
 cases e with
 | normal =>
   obtain ⟨hc, hk⟩ := (show _ ∧ _ from q)
   refine uv (qa3 hc (fun hb => ?_) (fun hb => qf1 (uv ⟨hb, hk⟩)))
   obtain ⟨⟨g1, g4, g5, g6, g7⟩, rfl⟩ := hk
   cases hx hb
   refine (Wi (qge [(4, .ptr 0 0 0), (5, .ptr 1 1 0), (6, .ptr 2 2 0)] (by simp [g4, g5, g6])) (qi1 t.2.1 t.2.2)).mono ?_
   rintro e fr H ⟨rfl, q⟩
   exact q
 | _ => exact q
theorem qgn (l : List Token) (e : Int) (h : We ⟨l, 0⟩ = some (.error e)) :
 Ok Tryd.prog G tt 32 3 (fun e' fr _ => e' = .panic (flt e) ∧ fr 4 = .ptr 0 0 0 ∧ fr 5 = .ptr 1 1 0 ∧ fr 6 = .ptr 2 2 0) (.go [(1, .fn 18 [(.rptr [.fn 13 []])]), (4, .ptr 0 0 0), (5, .ptr 1 1 0), (6, .ptr 2 2 0), (7, .sl 4 false (l.map Token.cells))] [.code rd4] [] .z 3 []) := by
 refine kr [] ?_
 exact qgs (FC.go (qkn _ _ h) [0] [3] rfl rfl rfl rfl rfl rfl) ⟨rfl, rfl, rfl, rfl⟩
theorem qgv (l : List Token) (e at_ : Int) (r : Node × Reader) (h : We ⟨l, 0⟩ = some (.ok r)) (c : Int) (hc : kt r.1 = some c) (x : Node × Int × Int) (hx : (if (decide (c = (3 : Int))) = true then some (Node.mk 0 ⟨#[]⟩ [] [], 3, 0) else some (r.1, 0, 0)) = some x) :
 Ok Tryd.prog G tt 32 0 (rdR x) (.go [(1, .fn 18 [(.rptr [.fn 13 []])]), (4, .ptr 0 0 0), (5, .ptr 1 1 0), (6, .ptr 2 2 0), (7, .sl 4 false (l.map Token.cells))] [.code rd4] [] .z 3 (rdO e at_)) := by
 refine kr [] ?_
 refine qb (AC.g9 (qkn _ _ h) [3] [3]) ?_
 refine kr [] ?_
 refine qr (Yn _ _ hc) ?_
 refine kr [] ?_
 refine qi (fun hb => ?_) (fun hb => ?_)
 ·rw [if_pos hb] at hx
  cases hx
  refine kr [] ?_
  exact j4 env rfl rfl (qe1 _ _)
 rw [if_neg (by rw [hb]; decide)] at hx
 cases hx
 refine kr [] ?_
 exact j4 env rfl rfl (za rfl)
theorem qg1 (s : BA) (x : Node × Int × Int) (h : Yp s = some x) : ACalls Tryd.prog G 15 [.str s, .fn 18 [(.rptr [.fn 13 []])]] ⟨0, []⟩ (rdX x) ⟨0, []⟩ := by
 obtain ⟨t, ht, h⟩ := bind_some h
 intro w S F β vs hH hv
 rw [show (callFunc 15 vs).run Tryd.prog w = .ok (.enter 15 vs) w by simp]
 show Calls Tryd.prog 15 vs w (qdl w S F β x)
 refine calls_of_wp_defers Tryd.func15 qmu ?_
 have hA := Je (N := 32) (by kernel_rfl) (qg7 s t ht x)
 rw [Jx] at hA
 have hf := qam (N := 32) hv (Nat.le_of_ble_eq_true rfl)
 have fin : ∀ (e : Exit) (fr' : Fr) (H' : Hp) (w' : World) (S' : Nat → Prop) (β' : Nat → Nat) (a' : Act), rdR x e fr' H' → Ext w S F β 0 w' S' β' 0 → HR G w' S' F β' H' → FRx [] w' S' β' H'.n 32 fr' a' → bodyPostD Tryd.prog Tryd.f15 (qdl w S F β x) e a' w' := by
  intro e fr' H' w' S' β' a' q hx hH' hf'
  have hl := fun q => qbb (x := x) q hx hH' hf' hH
  cases e <;> first
   | exact q.elim
   | (show Leaves _ _ _ _ a'.defers _ _; rw [hf'.defers]; exact hl q)
 refine J1 hA (Nat.zero_le _) hH hf (fun fr1 H1 w1 S1 β1 a1 q1 hx1 _ hH1 hf1 => ?_) (fun e fr' H' w' S' β' a' he q hx _ hH' hf' => fin e fr' H' w' S' β' a' (Y4 he (qrn he q)) hx hH' hf')
 refine J1 q1 (Nat.zero_le _) hH1 hf1 (fun fr2 H2 w2 S2 β2 a2 q2 hx2 _ hH2 hf2 => ?_) (fun e fr' H' w' S' β' a' he q hx _ hH' hf' => fin e fr' H' w' S' β' a' (Y4 he q) (hx1.trans hx) hH' hf')
 refine J1 (qg4 t x (fun hb => by rw [if_pos hb] at h; cases h; rfl) fr2 H2 q2) (Nat.zero_le _) hH2 hf2 (fun fr3 H3 w3 S3 β3 a3 q3 hx3 _ hH3 hf3 => ?_) (fun e fr' H' w' S' β' a' he q hx _ hH' hf' => fin e fr' H' w' S' β' a' q ((hx1.trans hx2).trans hx) hH' hf')
 obtain ⟨hb, ⟨g1, g4, g5, g6, g7⟩, rfl⟩ := (show _ ∧ _ ∧ _ from q3)
 have hx0 := (hx1.trans hx2).trans hx3
 rw [if_neg (by rw [hb]; decide)] at h
 obtain ⟨r, hr, h⟩ := bind_some h
 refine wp_seq ?_
 refine qba (u := 20) (f := 32) (cs := #[.tmp 4, .tmp 5, .tmp 6]) (by rw [hf3.size]; decide) ?_
 have e4 := Ka (g4 ▸ hf3.val 4)
 have e5 := Ka (g5 ▸ hf3.val 5)
 have e6 := Ka (g6 ▸ hf3.val 6)
 have hcs : (#[Operand.tmp 4, .tmp 5, .tmp 6] : Array Operand).map a3.eval = #[.pointer (some ⟨β3 0, 0, none⟩), .pointer (some ⟨β3 1, 0, none⟩), .pointer (some ⟨β3 2, 0, none⟩)] := by
  simp [Act.eval, e4, e5, e6]
 rw [hcs]
 have hf3' := hf3.put (d := some 20) rfl (RV.undef (w := w3) (S := S3) (β := β3) (n := 3) (.func (.func 32) #[] #[.pointer (some ⟨β3 0, 0, none⟩), .pointer (some ⟨β3 1, 0, none⟩), .pointer (some ⟨β3 2, 0, none⟩)]))
 have hq := hf3'.some [(1, .fn 18 [(.rptr [.fn 13 []])]), (4, .ptr 0 0 0), (5, .ptr 1 1 0), (6, .ptr 2 2 0), (7, .sl 4 false (t.1.map Token.cells))] (by simp [uw, g1, g4, g5, g6, g7])
 generalize hd : a3.defers = d3 at *
 have hd3 : d3 = [] := by rw [← hd]; exact hf3.defers
 subst hd3
 have hf4 := FRx.of (a := ⟨a3.tmps.setIfInBounds 20 (.func (.func 32) #[] #[.pointer (some ⟨β3 0, 0, none⟩), .pointer (some ⟨β3 1, 0, none⟩), .pointer (some ⟨β3 2, 0, none⟩)]), [{ target := .fn (.func 32) #[.pointer (some ⟨β3 0, 0, none⟩), .pointer (some ⟨β3 1, 0, none⟩), .pointer (some ⟨β3 2, 0, none⟩)], args := #[] }]⟩) _ hf3'.size rfl hq
 show rd4.wp _ _ _ _
 cases r with
 | error e =>
   cases h
   have hB := Je (N := 32) (by kernel_rfl) (qgn t.1 e hr)
   refine wp_mono (hB _ w3 S3 _ β3 _ (Nat.le_refl _) hH3.hide hf4) ?_
   rintro e' a' w' ⟨fr', H', S', β', ⟨rfl, k4, k5, k6⟩, hx, hp, hH', hf'⟩
   obtain ⟨hx', hH''⟩ := hH3.unhide hx hH'.lts
   show Leaves _ _ _ _ a'.defers _ _
   rw [hf'.defers]
   refine leaves_cons (f := 32) (args := #[.pointer (some ⟨β3 0, 0, none⟩), .pointer (some ⟨β3 1, 0, none⟩), .pointer (some ⟨β3 2, 0, none⟩)]) (by simp) (by simp [go_sem]) ?_
   have hc := qd0 e t.2.2 (show HR G w' S' F β' ⟨3, rdO 0 t.2.2⟩ by
    have h0 : t.2.1 = 0 := by simpa using hb
    rw [← h0]; exact hH'')
   rw [hx'.beta 0 (show 0 < 3 by decide), hx'.beta 1 (show 1 < 3 by decide), hx'.beta 2 (show 2 < 3 by decide)] at hc
   refine hc.mono ?_
   rintro r u' w'' ⟨⟨v, rfl⟩, hs, S'', β'', hx'', hH3''⟩
   show Leaves _ _ _ _ [] (settle u') w''
   rw [hs]
   refine qbb (D := a'.defers) (a := a') (qga e) (hx0.trans ((hx'.trans hx'').lower (Nat.zero_le _))) hH3'' (FRx.of _ hf'.size rfl ?_) hH
   intro q hm
   simp only [List.mem_cons, List.not_mem_nil, or_false] at hm
   have hv : ∀ (i s : Nat) (t : Nat), s < 3 → fr' t = .ptr i s 0 → RV w'' S'' β'' 3 (.ptr i s 0) (a'.tmps.getD t Go.undef) := fun i s t hs3 ht => by
    have h1 := hf'.val t
    rw [ht] at h1
    rw [Ka h1, ← hx''.beta s hs3]
    exact .ptr i s 0 hs3
   rcases hm with rfl | rfl | rfl
   ·exact hv _ _ _ (by decide) k4
   ·exact hv _ _ _ (by decide) k5
   exact hv _ _ _ (by decide) k6
 | ok r =>
   obtain ⟨c, hc, h⟩ := bind_some h
   have hB := Je (N := 32) (by kernel_rfl) (qgv t.1 t.2.1 t.2.2 r hr c hc x h)
   refine wp_mono (hB _ w3 S3 F β3 _ (Nat.zero_le _) hH3 hf4) ?_
   rintro e' a' w' ⟨fr', H', S', β', q, hx, hp, hH', hf'⟩
   have hl : rdR x .normal fr' H' → Leaves Tryd.prog Tryd.f15 a'.tmps (qdl w S F β x) a'.defers .returning w' := fun q => by
    rw [hf'.defers]
    refine leaves_cons (f := 32) (args := #[.pointer (some ⟨β3 0, 0, none⟩), .pointer (some ⟨β3 1, 0, none⟩), .pointer (some ⟨β3 2, 0, none⟩)]) (by simp) (by simp [go_sem]) ?_
    refine (qiy _ _ _ w').mono ?_
    rintro r u' w'' ⟨⟨v, rfl⟩, rfl, rfl⟩
    exact qbb q (hx0.trans hx) hH' hf' hH
   cases e' <;> first
    | exact q.elim
    | exact hl q
theorem qgy : PC1 (fun (s : BA) (x : Node × Int × Int) => AC Tryd.prog G 15 [.str s, .fn 18 [(.rptr [.fn 13 []])]] 0 [] (.tup [.agg (zu x.1), .int .i64 x.2.1, .int .i64 x.2.2]) 0 []) Yp := fun s x h => AC.plain (qg1 s x h) rfl rfl
def ua (a0 : BA) : Option (Node × Int × Int) :=
 Yp a0 >>= fun x1 =>
 some (x1.1, x1.2.1, x1.2.2)
@[reducible] def Ke (a0 : BA) (r : Node × Int × Int) : Prop :=
  Fn Tryd.prog G 9 [(.str a0), (.fn 13 [])] (.tup [(.agg (zu r.1)), (.int .i64 r.2.1), (.int .i64 r.2.2)])
theorem Ki : PC1 Ke ua := fun a0 r h => by
 rw [ua.eq_def] at h
 refine jj (T := tt) (N := 13) (rs := [.cell 4 26, .tmp 5, .tmp 6]) (fun vs w => by simp) Tryd.func9 rfl rfl rfl rfl (by kernel_rfl) (wi rfl) (yb _ rfl) ?_
 refine kr [2000000] ?_
 refine qke [(3, (.rptr [(.fn 13 [])]))] [0] rfl (qlx rfl rfl rfl rfl qpl) rfl rfl ?_
 refine qdh ?_
 refine kr [2000000] ?_
 obtain ⟨x1, hx, h⟩ := bind_some h
 refine qb (AC.g9 (qgy _ _ hx) [] []) ?_
 refine kr [2000000] ?_
 cases h
 exact kf
def Zb (a0 : BA) : Option (Node × Int × Int) :=
 ua a0 >>= fun x1 =>
 some (x1.1, x1.2.1, x1.2.2)
@[reducible] def qkf (a0 : BA) (r : Node × Int × Int) : Prop :=
  Fn Tryd.prog G 7 [(.str a0)] (.tup [(.agg (zu r.1)), (.int .i64 r.2.1), (.int .i64 r.2.2)])
theorem Wa : PC1 qkf Zb := fun a0 r h => by
 rw [Zb.eq_def] at h
 refine jj (T := tt) (N := 10) (rs := [.cell 2 26, .tmp 3, .tmp 4]) (fun vs w => by simp) Tryd.func7 rfl rfl rfl rfl (by kernel_rfl) (wi rfl) (yb _ rfl) ?_
 refine kr [] ?_
 obtain ⟨x1, hx, h⟩ := bind_some h
 refine qr (Ki _ _ hx) ?_
 refine kr [] ?_
 cases h
 exact kf
def k7 (a0 : Reader) : Option (Except Int (Node × Reader)) :=
 zv a0 (5 : Int) (⟨#[]⟩) ([] : LB) ([] : LN) >>= fun x1 =>
 match x1 with
 | .error ee => some (.error ee)
 | .ok x1 =>
 some (.ok ((Node.mk (5 : Int) x1.2.1 x1.2.2 ([] : LN)), x1.1))
@[reducible] def qax (a0 : Reader) (r : Except Int (Node × Reader)) : Prop :=
  exq (fun (r : Node × Reader) => AC Tryd.prog G 45 [(.ptr 0 0 0)] 1 [(0, .var 48 (Reader.cells a0))] (.agg (zu r.1)) 1 [(0, .var 48 (Reader.cells r.2))]) (fun e => FC Tryd.prog G 45 [(.ptr 0 0 0)] 1 [(0, .var 48 (Reader.cells a0))] (flt e)) r
theorem u4 : PC1 qax k7 := fun a0 r h => by
 rw [k7.eq_def] at h
 refine Zc (T := tt) (N := 8) (rs := [.cell 2 26]) (fun vs w => by simp) Tryd.func45 rfl rfl rfl (by kernel_rfl) (by kernel_rfl) (yw rfl rfl y8) (zk zp) (fun r => (yv rfl y6)) (fun r => (zk zp)) (fun _ => rfl) (fun _ => rfl) rfl (fun _ => rfl) ?_
 refine kr [] ?_
 obtain ⟨x1, hx, h⟩ := bind_some h
 rcases x1 with ee | x1
 ·replace h : some (.error ee) = some r := h
  cases h
  exact qz (FCalls.ghost (e := 9) (FCalls.ghost (e := 26) (FCalls.wkg (FC.go (objs := [(0, .var 48 (Reader.cells a0)), (1, .var 26 [(.int .i64 0), (.str ⟨#[]⟩), (.sl 0 true []), (.sl 0 true [])]), (2, .var 26 [(.int .i64 (5 : Int)), (.str ⟨#[]⟩), (.bs 1 3 3 0 ([] : LB).length), (.bs 4 4 4 0 ([] : LN).length)]), (3, .row 9 (([] : LB).map sc).flatten), (4, .row 26 (([] : LN).map Node.cells).flatten)]) (xs := [(.ptr 0 0 0), (.ptr 2 2 0)]) (zb _ _ _ _ _ _ hx) [0, 2, 3, 4] [0, 2, 3, 4] rfl rfl rfl rfl rfl rfl) (qh (qp _) (qh (qp _) jf)) (qd (qd (je (qc (qv _) (qc (qv _) (qc (ze rfl) (qc (ze rfl) ju)))) (zr _)))))))
 refine qb (ACalls.ghost (e := 9) (ACalls.ghost (e := 26) (ACalls.wkg (AC.go (objs := [(0, .var 48 (Reader.cells a0)), (1, .var 26 [(.int .i64 0), (.str ⟨#[]⟩), (.sl 0 true []), (.sl 0 true [])]), (2, .var 26 [(.int .i64 (5 : Int)), (.str ⟨#[]⟩), (.bs 1 3 3 0 ([] : LB).length), (.bs 4 4 4 0 ([] : LN).length)]), (3, .row 9 (([] : LB).map sc).flatten), (4, .row 26 (([] : LN).map Node.cells).flatten)]) (xs := [(.ptr 0 0 0), (.ptr 2 2 0)]) (zb _ _ _ _ _ _ hx) [0, 2, 3, 4] [0, 2, 3, 4] rfl rfl rfl rfl rfl rfl rfl rfl rfl) (qh (qp _) (qh (qp _) jf)) (qd (qd (je (qc (qv _) (qc (qv _) (qc (ze rfl) (qc (ze rfl) ju)))) (zr _))))))) ?_
 refine kr [] ?_
 cases h
 exact j4 env rfl rfl (tS [some 0] (sV (lS (lS lN)) zx) (j5 (ya (qf (qe (zt rfl) rfl) (qf (qe (jl rfl) rfl) (qf (qe (jv kp rfl) rfl) (qf (qe (jv zl rfl) rfl) j9))))) (by simp)))
mutual
def jm (o0 : Reader) (o2_0 : Int) (o2_1 : BA) (o2_2 : LB) (o2_3 : LN) (o5_0 : Int) (o5_1 : BA) (o5_2 : LB) (o5_3 : LN) : Option (Except Int (Node × Reader)) :=
 q7 (qg o0) (⟨#[41]⟩ : BA) >>= fun x4 =>
 if (!x4) = true then
  if (decide ((0 : Int) < (o5_3.length : Int))) = true then
   qj (qg o0) (qg o5_0) (qg o5_1) (qg o5_2) (qg o5_3) (⟨#[44]⟩ : BA) >>= fun x5 =>
   match x5 with
   | .error ee => some (.error ee)
   | .ok x5 =>
   jw x5.1 (qg o2_0) (qg o2_1) (qg o2_2) (qg o2_3) (qg o5_0) (qg o5_1) x5.2 (qg o5_3)
  else
   jw (qg o0) (qg o2_0) (qg o2_1) (qg o2_2) (qg o2_3) (qg o5_0) (qg o5_1) (qg o5_2) (qg o5_3)
 else
  qj (qg o0) (qg o5_0) (qg o5_1) (qg o5_2) (qg o5_3) (⟨#[41]⟩ : BA) >>= fun x6 =>
  match x6 with
  | .error ee => some (.error ee)
  | .ok x6 =>
  zm (qg o2_0) (qg o2_1) (qg o2_2) (qg o2_3) (Node.mk o5_0 o5_1 x6.2 o5_3) >>= fun x7 =>
  k7 x6.1 >>= fun x8 =>
  match x8 with
  | .error ee => some (.error ee)
  | .ok x8 =>
  zm (qg o2_0) (qg o2_1) (qg o2_2) (qg x7) x8.1 >>= fun x9 =>
  ja x8.2 >>= fun x10 =>
  match x10 with
  | .error ee => some (.error ee)
  | .ok x10 =>
  zm (qg o2_0) (qg o2_1) (qg o2_2) (qg x9) x10.1 >>= fun x11 =>
  some (.ok ((Node.mk o2_0 o2_1 o2_2 x11), x10.2))
 partial_fixpoint
def jw (o0 : Reader) (o2_0 : Int) (o2_1 : BA) (o2_2 : LB) (o2_3 : LN) (o5_0 : Int) (o5_1 : BA) (o5_2 : LB) (o5_3 : LN) : Option (Except Int (Node × Reader)) :=
 zv (qg o0) (4 : Int) (⟨#[]⟩) ([] : LB) ([] : LN) >>= fun x12 =>
 match x12 with
 | .error ee => some (.error ee)
 | .ok x12 =>
 k7 x12.1 >>= fun x13 =>
 match x13 with
 | .error ee => some (.error ee)
 | .ok x13 =>
 zm (4 : Int) x12.2.1 x12.2.2 ([] : LN) x13.1 >>= fun x14 =>
 zm (qg o5_0) (qg o5_1) (qg o5_2) (qg o5_3) (Node.mk (4 : Int) x12.2.1 x12.2.2 x14) >>= fun x15 =>
 jm x13.2 (qg o2_0) (qg o2_1) (qg o2_2) (qg o2_3) (qg o5_0) (qg o5_1) (qg o5_2) (qg x15)
 partial_fixpoint
end
@[reducible] def uo (o0 : Reader) (o2_0 : Int) (o2_1 : BA) (o2_2 : LB) (o2_3 : LN) (o5_0 : Int) (o5_1 : BA) (o5_2 : LB) (o5_3 : LN) (r : Except Int (Node × Reader)) : Prop :=
  Ok Tryd.prog G tt 42 1 (exq (fun (r : Node × Reader) => Ret Tryd.prog [.cell 2 26] (fun y H => Qt Tryd.prog G 1 H y (.agg (zu r.1)) ⟨1, [(0, .var 48 (Reader.cells r.2))]⟩)) (fun e => Q5 (flt e)) r) (.again (Qd [20, 2000011, 2000013] Tryd.f34 0).1 (Qd [20, 2000011, 2000013] Tryd.f34 0).2 (.n (.ptr 0 0 0) (.n .undef (.n (.ptr 2 2 0) .z .z) .z) (.n (.ptr 1 1 0) (.n (.ptr 5 7 0) .z .z) .z)) 11 [(0, .var 48 (Reader.cells o0)), (1, .var 26 [(.int .i64 0), (.str ⟨#[]⟩), (.sl 0 true []), (.sl 0 true [])]), (2, .var 26 [(.int .i64 o2_0), (.str o2_1), (.bs 1 3 6 0 o2_2.length), (.bs 4 4 4 0 o2_3.length)]), (6, .row 9 (o2_2.map sc).flatten), (4, .row 26 (o2_3.map Node.cells).flatten), (7, .var 26 [(.int .i64 o5_0), (.str o5_1), (.bs 1 6 10 0 o5_2.length), (.bs 4 7 9 0 o5_3.length)]), (10, .row 9 (o5_2.map sc).flatten), (9, .row 26 (o5_3.map Node.cells).flatten)])
@[reducible] def uh (o0 : Reader) (o2_0 : Int) (o2_1 : BA) (o2_2 : LB) (o2_3 : LN) (o5_0 : Int) (o5_1 : BA) (o5_2 : LB) (o5_3 : LN) (r : Except Int (Node × Reader)) : Prop :=
  Ok Tryd.prog G tt 42 1 (exq (fun (r : Node × Reader) => Ret Tryd.prog [.cell 2 26] (fun y H => Qt Tryd.prog G 1 H y (.agg (zu r.1)) ⟨1, [(0, .var 48 (Reader.cells r.2))]⟩)) (fun e => Q5 (flt e)) r) (.go [] (Zu [20, 2000011, 2000013] Tryd.f34 20) [] (.n (.ptr 0 0 0) (.n .undef (.n (.ptr 2 2 0) .z .z) .z) (.n (.ptr 1 1 0) (.n (.ptr 5 7 0) .z .z) .z)) 12 [(0, .var 48 (Reader.cells o0)), (1, .var 26 [(.int .i64 0), (.str ⟨#[]⟩), (.sl 0 true []), (.sl 0 true [])]), (2, .var 26 [(.int .i64 o2_0), (.str o2_1), (.bs 1 3 6 0 o2_2.length), (.bs 4 4 4 0 o2_3.length)]), (6, .row 9 (o2_2.map sc).flatten), (4, .row 26 (o2_3.map Node.cells).flatten), (7, .var 26 [(.int .i64 o5_0), (.str o5_1), (.bs 1 6 11 0 o5_2.length), (.bs 4 7 9 0 o5_3.length)]), (11, .row 9 (o5_2.map sc).flatten), (9, .row 26 (o5_3.map Node.cells).flatten)])
theorem Qo : PC9 uo jm ∧ PC9 uh jw := by
 refine jm.mutual_partial_correctness uo uh (fun jw uk o0 o2_0 o2_1 o2_2 o2_3 o5_0 o5_1 o5_2 o5_3 r h => ?_) (fun jm uq o0 o2_0 o2_1 o2_2 o2_3 o5_0 o5_1 o5_2 o5_3 r h => ?_)
 ·unfold qg at h
  refine Q3 ?_
  refine kr [20, 2000011, 2000013] ?_
  obtain ⟨x4, hx, h⟩ := bind_some h
  refine qb (AC.g9 (q9 _ _ _ hx) [0] [0]) ?_
  refine kr [20, 2000011, 2000013] ?_
  refine qi (fun hb => ?_) (fun hb => ?_)
  ·replace h := zf hb h
   refine kr [20, 2000011, 2000013] ?_
   refine qi (fun hb => ?_) (fun hb => ?_)
   ·replace h := zf hb h
    refine kr [20, 2000011, 2000013] ?_
    obtain ⟨x5, hx, h⟩ := bind_some h
    rcases x5 with ee | x5
    ·replace h : some (.error ee) = some r := h
     cases h
     exact qz (FC.go (qa _ _ _ _ _ _ _ hx) [0, 5, 6, 7] [0, 7, 10, 9] rfl rfl rfl rfl rfl rfl)
    refine qb (AC.g9 (qa _ _ _ _ _ _ _ hx) [0, 5, 6, 7] [0, 7, 10, 9]) ?_
    refine kr [20, 2000011, 2000013] ?_
    exact zi (by kernel_rfl) rfl lQ (uk _ _ _ _ _ _ _ _ _ _ h)
   replace h := zg hb h
   refine kr [20, 2000011, 2000013] ?_
   exact zi (by kernel_rfl) rfl lQ (uk _ _ _ _ _ _ _ _ _ _ h)
  replace h := zg hb h
  refine kr [20, 2000011, 2000013] ?_
  obtain ⟨x6, hx, h⟩ := bind_some h
  rcases x6 with ee | x6
  ·replace h : some (.error ee) = some r := h
   cases h
   exact qz (FC.go (qa _ _ _ _ _ _ _ hx) [0, 5, 6, 7] [0, 7, 10, 9] rfl rfl rfl rfl rfl rfl)
  refine qb (AC.g9 (qa _ _ _ _ _ _ _ hx) [0, 5, 6, 7] [0, 7, 10, 9]) ?_
  refine kr [20, 2000011, 2000013] ?_
  refine Z1 5 2 6 kp rfl rfl rfl rfl rfl rfl ?_
  refine Z1 5 3 7 zl rfl rfl rfl rfl rfl rfl ?_
  refine qdh ?_
  refine kr [20, 2000011, 2000013] ?_
  obtain ⟨x7, hx, h⟩ := bind_some h
  refine qb (AC.g9 (zn _ _ _ _ _ _ hx) [2, 3, 4] [2, 6, 4]) ?_
  refine kr [20, 2000011, 2000013] ?_
  obtain ⟨x8, hx, h⟩ := bind_some h
  rcases x8 with ee | x8
  ·replace h : some (.error ee) = some r := h
   cases h
   exact qz (FC.go (u4 _ _ hx) [0] [0] rfl rfl rfl rfl rfl rfl)
  refine qb (AC.g9 (u4 _ _ hx) [0] [0]) ?_
  refine kr [20, 2000011, 2000013] ?_
  obtain ⟨x9, hx, h⟩ := bind_some h
  refine qb (AC.g9 (zn _ _ _ _ _ _ hx) [2, 3, 4] [2, 6, 12]) ?_
  refine kr [20, 2000011, 2000013] ?_
  obtain ⟨x10, hx, h⟩ := bind_some h
  rcases x10 with ee | x10
  ·replace h : some (.error ee) = some r := h
   cases h
   exact qz (FC.go (js _ _ hx) [0] [0] rfl rfl rfl rfl rfl rfl)
  refine qb (AC.g9 (js _ _ hx) [0] [0]) ?_
  refine kr [20, 2000011, 2000013] ?_
  obtain ⟨x11, hx, h⟩ := bind_some h
  refine qb (AC.g9 (zn _ _ _ _ _ _ hx) [2, 3, 4] [2, 6, 13]) ?_
  refine kr [20, 2000011, 2000013] ?_
  cases h
  exact j4 env rfl rfl (tS [some 0] (sV (lS (lS lN)) zx) (j5 (ya (qf (qe (zt rfl) rfl) (qf (qe (jl rfl) rfl) (qf (qe (jv kp rfl) rfl) (qf (qe (jv zl rfl) rfl) j9))))) (by simp)))
 unfold qg at h
 refine kr [20, 2000011, 2000013] ?_
 obtain ⟨x12, hx, h⟩ := bind_some h
 rcases x12 with ee | x12
 ·replace h : some (.error ee) = some r := h
  cases h
  exact qz (FCalls.ghost (e := 9) (FCalls.ghost (e := 26) (FCalls.wkg (FC.go (objs := [(0, .var 48 (Reader.cells o0)), (1, .var 26 [(.int .i64 0), (.str ⟨#[]⟩), (.sl 0 true []), (.sl 0 true [])]), (2, .var 26 [(.int .i64 o2_0), (.str o2_1), (.bs 1 3 6 0 o2_2.length), (.bs 4 4 4 0 o2_3.length)]), (6, .row 9 (o2_2.map sc).flatten), (4, .row 26 (o2_3.map Node.cells).flatten), (7, .var 26 [(.int .i64 o5_0), (.str o5_1), (.bs 1 6 11 0 o5_2.length), (.bs 4 7 9 0 o5_3.length)]), (11, .row 9 (o5_2.map sc).flatten), (9, .row 26 (o5_3.map Node.cells).flatten), (12, .var 26 [(.int .i64 (4 : Int)), (.str ⟨#[]⟩), (.bs 1 9 13 0 ([] : LB).length), (.bs 4 10 14 0 ([] : LN).length)]), (13, .row 9 (([] : LB).map sc).flatten), (14, .row 26 (([] : LN).map Node.cells).flatten)]) (xs := [(.ptr 0 0 0), (.ptr 8 12 0)]) (zb _ _ _ _ _ _ hx) [0, 8, 9, 10] [0, 12, 13, 14] rfl rfl rfl rfl rfl rfl) (qh (qp _) (qh (qp _) jf)) (qd (qd (qd (qd (qd (qd (qd (qd (je (qc (qv _) (qc (qv _) (qc (ze rfl) (qc (ze rfl) ju)))) (zr _)))))))))))))
 refine qb (ACalls.ghost (e := 9) (ACalls.ghost (e := 26) (ACalls.wkg (AC.go (objs := [(0, .var 48 (Reader.cells o0)), (1, .var 26 [(.int .i64 0), (.str ⟨#[]⟩), (.sl 0 true []), (.sl 0 true [])]), (2, .var 26 [(.int .i64 o2_0), (.str o2_1), (.bs 1 3 6 0 o2_2.length), (.bs 4 4 4 0 o2_3.length)]), (6, .row 9 (o2_2.map sc).flatten), (4, .row 26 (o2_3.map Node.cells).flatten), (7, .var 26 [(.int .i64 o5_0), (.str o5_1), (.bs 1 6 11 0 o5_2.length), (.bs 4 7 9 0 o5_3.length)]), (11, .row 9 (o5_2.map sc).flatten), (9, .row 26 (o5_3.map Node.cells).flatten), (12, .var 26 [(.int .i64 (4 : Int)), (.str ⟨#[]⟩), (.bs 1 9 13 0 ([] : LB).length), (.bs 4 10 14 0 ([] : LN).length)]), (13, .row 9 (([] : LB).map sc).flatten), (14, .row 26 (([] : LN).map Node.cells).flatten)]) (xs := [(.ptr 0 0 0), (.ptr 8 12 0)]) (zb _ _ _ _ _ _ hx) [0, 8, 9, 10] [0, 12, 13, 14] rfl rfl rfl rfl rfl rfl rfl rfl rfl) (qh (qp _) (qh (qp _) jf)) (qd (qd (qd (qd (qd (qd (qd (qd (je (qc (qv _) (qc (qv _) (qc (ze rfl) (qc (ze rfl) ju)))) (zr _))))))))))))) ?_
 refine kr [20, 2000011, 2000013] ?_
 obtain ⟨x13, hx, h⟩ := bind_some h
 rcases x13 with ee | x13
 ·replace h : some (.error ee) = some r := h
  cases h
  exact qz (FC.go (u4 _ _ hx) [0] [0] rfl rfl rfl rfl rfl rfl)
 refine qb (AC.g9 (u4 _ _ hx) [0] [0]) ?_
 refine kr [20, 2000011, 2000013] ?_
 obtain ⟨x14, hx, h⟩ := bind_some h
 refine qb (AC.g9 (zn _ _ _ _ _ _ hx) [8, 9, 10] [12, 15, 14]) ?_
 refine kr [20, 2000011, 2000013] ?_
 refine Z1 8 2 9 kp rfl rfl rfl rfl rfl rfl ?_
 refine Z1 8 3 10 zl rfl rfl rfl rfl rfl rfl ?_
 refine qdh ?_
 refine kr [20, 2000011, 2000013] ?_
 obtain ⟨x15, hx, h⟩ := bind_some h
 refine qb (AC.g9 (zn _ _ _ _ _ _ hx) [5, 6, 7] [7, 11, 9]) ?_
 refine kr [20, 2000011, 2000013] ?_
 exact ux (by kernel_rfl) lQ (uq _ _ _ _ _ _ _ _ _ _ h)
theorem uq : PC9 uo jm := Qo.1
theorem uk : PC9 uh jw := Qo.2
def yf (a0 : Reader) : Option (Except Int (Node × Reader)) :=
 qj a0 (2 : Int) (⟨#[]⟩) ([] : LB) ([] : LN) (⟨#[102, 110]⟩ : BA) >>= fun x1 =>
 match x1 with
 | .error ee => some (.error ee)
 | .ok x1 =>
 zv x1.1 (2 : Int) (⟨#[]⟩) x1.2 ([] : LN) >>= fun x2 =>
 match x2 with
 | .error ee => some (.error ee)
 | .ok x2 =>
 qj x2.1 (3 : Int) (⟨#[]⟩) ([] : LB) ([] : LN) (⟨#[40]⟩ : BA) >>= fun x3 =>
 match x3 with
 | .error ee => some (.error ee)
 | .ok x3 =>
 jm x3.1 (2 : Int) x2.2.1 x2.2.2 ([] : LN) (3 : Int) (⟨#[]⟩) x3.2 ([] : LN)
@[reducible] def Kr (a0 : Reader) (r : Except Int (Node × Reader)) : Prop :=
  exq (fun (r : Node × Reader) => AC Tryd.prog G 34 [(.ptr 0 0 0)] 1 [(0, .var 48 (Reader.cells a0))] (.agg (zu r.1)) 1 [(0, .var 48 (Reader.cells r.2))]) (fun e => FC Tryd.prog G 34 [(.ptr 0 0 0)] 1 [(0, .var 48 (Reader.cells a0))] (flt e)) r
theorem wk : PC1 Kr yf := fun a0 r h => by
 rw [yf.eq_def] at h
 refine Zc (T := tt) (N := 42) (rs := [.cell 2 26]) (fun vs w => by simp) Tryd.func34 rfl rfl rfl (by kernel_rfl) (by kernel_rfl) (yw rfl rfl y8) (zk zp) (fun r => (yv rfl y6)) (fun r => (zk zp)) (fun _ => rfl) (fun _ => rfl) rfl (fun _ => rfl) ?_
 refine kr [20, 2000011, 2000013] ?_
 obtain ⟨x1, hx, h⟩ := bind_some h
 rcases x1 with ee | x1
 ·replace h : some (.error ee) = some r := h
  cases h
  exact qz (FCalls.ghost (e := 9) (FCalls.ghost (e := 26) (FCalls.wkg (FC.go (objs := [(0, .var 48 (Reader.cells a0)), (1, .var 26 [(.int .i64 0), (.str ⟨#[]⟩), (.sl 0 true []), (.sl 0 true [])]), (2, .var 26 [(.int .i64 (2 : Int)), (.str ⟨#[]⟩), (.bs 1 3 3 0 ([] : LB).length), (.bs 4 4 4 0 ([] : LN).length)]), (3, .row 9 (([] : LB).map sc).flatten), (4, .row 26 (([] : LN).map Node.cells).flatten)]) (xs := [(.ptr 0 0 0), (.ptr 2 2 0), (.str (⟨#[102, 110]⟩ : BA))]) (qa _ _ _ _ _ _ _ hx) [0, 2, 3, 4] [0, 2, 3, 4] rfl rfl rfl rfl rfl rfl) (qh (qp _) (qh (qp _) (qh (qp _) jf))) (qd (qd (je (qc (qv _) (qc (qv _) (qc (ze rfl) (qc (ze rfl) ju)))) (zr _)))))))
 refine qb (ACalls.ghost (e := 9) (ACalls.ghost (e := 26) (ACalls.wkg (AC.go (objs := [(0, .var 48 (Reader.cells a0)), (1, .var 26 [(.int .i64 0), (.str ⟨#[]⟩), (.sl 0 true []), (.sl 0 true [])]), (2, .var 26 [(.int .i64 (2 : Int)), (.str ⟨#[]⟩), (.bs 1 3 3 0 ([] : LB).length), (.bs 4 4 4 0 ([] : LN).length)]), (3, .row 9 (([] : LB).map sc).flatten), (4, .row 26 (([] : LN).map Node.cells).flatten)]) (xs := [(.ptr 0 0 0), (.ptr 2 2 0), (.str (⟨#[102, 110]⟩ : BA))]) (qa _ _ _ _ _ _ _ hx) [0, 2, 3, 4] [0, 2, 3, 4] rfl rfl rfl rfl rfl rfl rfl rfl rfl) (qh (qp _) (qh (qp _) (qh (qp _) jf))) (qd (qd (je (qc (qv _) (qc (qv _) (qc (ze rfl) (qc (ze rfl) ju)))) (zr _))))))) ?_
 refine kr [20, 2000011, 2000013] ?_
 obtain ⟨x2, hx, h⟩ := bind_some h
 rcases x2 with ee | x2
 ·replace h : some (.error ee) = some r := h
  cases h
  exact qz (FC.go (zb _ _ _ _ _ _ hx) [0, 2, 3, 4] [0, 2, 5, 4] rfl rfl rfl rfl rfl rfl)
 refine qb (AC.g9 (zb _ _ _ _ _ _ hx) [0, 2, 3, 4] [0, 2, 5, 4]) ?_
 refine kr [20, 2000011, 2000013] ?_
 obtain ⟨x3, hx, h⟩ := bind_some h
 rcases x3 with ee | x3
 ·replace h : some (.error ee) = some r := h
  cases h
  exact qz (FCalls.ghost (e := 9) (FCalls.ghost (e := 26) (FCalls.wkg (FC.go (objs := [(0, .var 48 (Reader.cells x2.1)), (1, .var 26 [(.int .i64 0), (.str ⟨#[]⟩), (.sl 0 true []), (.sl 0 true [])]), (2, .var 26 [(.int .i64 (2 : Int)), (.str x2.2.1), (.bs 1 3 6 0 x2.2.2.length), (.bs 4 4 4 0 ([] : LN).length)]), (6, .row 9 (x2.2.2.map sc).flatten), (4, .row 26 (([] : LN).map Node.cells).flatten), (7, .var 26 [(.int .i64 (3 : Int)), (.str ⟨#[]⟩), (.bs 1 6 8 0 ([] : LB).length), (.bs 4 7 9 0 ([] : LN).length)]), (8, .row 9 (([] : LB).map sc).flatten), (9, .row 26 (([] : LN).map Node.cells).flatten)]) (xs := [(.ptr 0 0 0), (.ptr 5 7 0), (.str (⟨#[40]⟩ : BA))]) (qa _ _ _ _ _ _ _ hx) [0, 5, 6, 7] [0, 7, 8, 9] rfl rfl rfl rfl rfl rfl) (qh (qp _) (qh (qp _) (qh (qp _) jf))) (qd (qd (qd (qd (qd (je (qc (qv _) (qc (qv _) (qc (ze rfl) (qc (ze rfl) ju)))) (zr _))))))))))
 refine qb (ACalls.ghost (e := 9) (ACalls.ghost (e := 26) (ACalls.wkg (AC.go (objs := [(0, .var 48 (Reader.cells x2.1)), (1, .var 26 [(.int .i64 0), (.str ⟨#[]⟩), (.sl 0 true []), (.sl 0 true [])]), (2, .var 26 [(.int .i64 (2 : Int)), (.str x2.2.1), (.bs 1 3 6 0 x2.2.2.length), (.bs 4 4 4 0 ([] : LN).length)]), (6, .row 9 (x2.2.2.map sc).flatten), (4, .row 26 (([] : LN).map Node.cells).flatten), (7, .var 26 [(.int .i64 (3 : Int)), (.str ⟨#[]⟩), (.bs 1 6 8 0 ([] : LB).length), (.bs 4 7 9 0 ([] : LN).length)]), (8, .row 9 (([] : LB).map sc).flatten), (9, .row 26 (([] : LN).map Node.cells).flatten)]) (xs := [(.ptr 0 0 0), (.ptr 5 7 0), (.str (⟨#[40]⟩ : BA))]) (qa _ _ _ _ _ _ _ hx) [0, 5, 6, 7] [0, 7, 8, 9] rfl rfl rfl rfl rfl rfl rfl rfl rfl) (qh (qp _) (qh (qp _) (qh (qp _) jf))) (qd (qd (qd (qd (qd (je (qc (qv _) (qc (qv _) (qc (ze rfl) (qc (ze rfl) ju)))) (zr _)))))))))) ?_
 refine kr [20, 2000011, 2000013] ?_
 exact vv (by kernel_rfl) lQ (uq _ _ _ _ _ _ _ _ _ _ h)
def j3 (o0 : Reader) (o2_0 : Int) (o2_1 : BA) (o2_2 : LB) (o2_3 : LN) : Option (Except Int (Node × Reader)) :=
 q7 (qg o0) (⟨#[102, 110]⟩ : BA) >>= fun x8 =>
 if x8 = true then
  yf (qg o0) >>= fun x9 =>
  match x9 with
  | .error ee => some (.error ee)
  | .ok x9 =>
  zm (qg o2_0) (qg o2_1) (qg o2_2) (qg o2_3) x9.1 >>= fun x10 =>
  j3 x9.2 (qg o2_0) (qg o2_1) (qg o2_2) (qg x10)
 else
  qj (qg o0) (qg o2_0) (qg o2_1) (qg o2_2) (qg o2_3) (⟨#[125]⟩ : BA) >>= fun x11 =>
  match x11 with
  | .error ee => some (.error ee)
  | .ok x11 =>
  some (.ok ((Node.mk o2_0 o2_1 x11.2 o2_3), x11.1))
 partial_fixpoint
@[reducible] def Zs (o0 : Reader) (o2_0 : Int) (o2_1 : BA) (o2_2 : LB) (o2_3 : LN) (r : Except Int (Node × Reader)) : Prop :=
  Ok Tryd.prog G tt 29 1 (exq (fun (r : Node × Reader) => Ret Tryd.prog [.cell 2 26] (fun y H => Qt Tryd.prog G 1 H y (.agg (zu r.1)) ⟨1, [(0, .var 48 (Reader.cells r.2))]⟩)) (fun e => Q5 (flt e)) r) (.again (Qd [12] Tryd.f35 0).1 (Qd [12] Tryd.f35 0).2 (.n (.ptr 0 0 0) (.n .undef (.n (.ptr 2 2 0) .z .z) .z) (.n (.ptr 1 1 0) .z .z)) 14 [(0, .var 48 (Reader.cells o0)), (1, .var 26 [(.int .i64 0), (.str ⟨#[]⟩), (.sl 0 true []), (.sl 0 true [])]), (2, .var 26 [(.int .i64 o2_0), (.str o2_1), (.bs 1 3 13 0 o2_2.length), (.bs 4 4 12 0 o2_3.length)]), (13, .row 9 (o2_2.map sc).flatten), (12, .row 26 (o2_3.map Node.cells).flatten)])
theorem vm : PC5 Zs j3 := by
 refine j3.partial_correctness Zs (fun j3 vm o0 o2_0 o2_1 o2_2 o2_3 r h => ?_)
 unfold qg at h
 refine Q3 ?_
 refine kr [12] ?_
 obtain ⟨x8, hx, h⟩ := bind_some h
 refine qb (AC.g9 (q9 _ _ _ hx) [0] [0]) ?_
 refine kr [12] ?_
 refine qi (fun hb => ?_) (fun hb => ?_)
 ·replace h := zf hb h
  refine kr [12] ?_
  obtain ⟨x9, hx, h⟩ := bind_some h
  rcases x9 with ee | x9
  ·replace h : some (.error ee) = some r := h
   cases h
   exact qz (FC.go (wk _ _ hx) [0] [0] rfl rfl rfl rfl rfl rfl)
  refine qb (AC.g9 (wk _ _ hx) [0] [0]) ?_
  refine kr [12] ?_
  obtain ⟨x10, hx, h⟩ := bind_some h
  refine qb (AC.g9 (zn _ _ _ _ _ _ hx) [2, 3, 4] [2, 13, 12]) ?_
  refine kr [12] ?_
  exact ux (by kernel_rfl) lQ (vm _ _ _ _ _ _ h)
 replace h := zg hb h
 refine kr [12] ?_
 obtain ⟨x11, hx, h⟩ := bind_some h
 rcases x11 with ee | x11
 ·replace h : some (.error ee) = some r := h
  cases h
  exact qz (FC.go (qa _ _ _ _ _ _ _ hx) [0, 2, 3, 4] [0, 2, 13, 12] rfl rfl rfl rfl rfl rfl)
 refine qb (AC.g9 (qa _ _ _ _ _ _ _ hx) [0, 2, 3, 4] [0, 2, 13, 12]) ?_
 refine kr [12] ?_
 cases h
 exact j4 env rfl rfl (tS [some 0] (sV (lS (lS lN)) zx) (j5 (ya (qf (qe (zt rfl) rfl) (qf (qe (jl rfl) rfl) (qf (qe (jv kp rfl) rfl) (qf (qe (jv zl rfl) rfl) j9))))) (by simp)))
def yy (o0 : Reader) (o2_0 : Int) (o2_1 : BA) (o2_2 : LB) (o2_3 : LN) (o5 : Node) : Option (Except Int (Node × Reader)) :=
 zm o2_0 o2_1 o2_2 o2_3 o5 >>= fun x6 =>
 qj o0 o2_0 o2_1 o2_2 x6 (⟨#[123]⟩ : BA) >>= fun x7 =>
 match x7 with
 | .error ee => some (.error ee)
 | .ok x7 =>
 j3 x7.1 o2_0 o2_1 x7.2 x6
@[reducible] def Kc (o0 : Reader) (o2_0 : Int) (o2_1 : BA) (o2_2 : LB) (o2_3 : LN) (o5 : Node) (r : Except Int (Node × Reader)) : Prop :=
  Ok Tryd.prog G tt 29 1 (exq (fun (r : Node × Reader) => Ret Tryd.prog [.cell 2 26] (fun y H => Qt Tryd.prog G 1 H y (.agg (zu r.1)) ⟨1, [(0, .var 48 (Reader.cells r.2))]⟩)) (fun e => Q5 (flt e)) r) (.go [] (Zu [12] Tryd.f35 12) [] (.n (.ptr 0 0 0) (.n .undef (.n (.ptr 2 2 0) .z .z) .z) (.n (.ptr 1 1 0) (.n (.ptr 5 7 0) .z .z) .z)) 12 [(0, .var 48 (Reader.cells o0)), (1, .var 26 [(.int .i64 0), (.str ⟨#[]⟩), (.sl 0 true []), (.sl 0 true [])]), (2, .var 26 [(.int .i64 o2_0), (.str o2_1), (.bs 1 3 6 0 o2_2.length), (.bs 4 4 4 0 o2_3.length)]), (6, .row 9 (o2_2.map sc).flatten), (4, .row 26 (o2_3.map Node.cells).flatten), (7, .var 26 (zu o5))])
theorem Zf : PC6 Kc yy := fun o0 o2_0 o2_1 o2_2 o2_3 o5 r h => by
 rw [yy.eq_def] at h
 refine kr [12] ?_
 obtain ⟨x6, hx, h⟩ := bind_some h
 refine qb (AC.g9 (zn _ _ _ _ _ _ hx) [2, 3, 4] [2, 6, 4]) ?_
 refine kr [12] ?_
 obtain ⟨x7, hx, h⟩ := bind_some h
 rcases x7 with ee | x7
 ·replace h : some (.error ee) = some r := h
  cases h
  exact qz (FC.go (qa _ _ _ _ _ _ _ hx) [0, 2, 3, 4] [0, 2, 6, 12] rfl rfl rfl rfl rfl rfl)
 refine qb (AC.g9 (qa _ _ _ _ _ _ _ hx) [0, 2, 3, 4] [0, 2, 6, 12]) ?_
 refine kr [12] ?_
 exact vv (by kernel_rfl) lQ (vm _ _ _ _ _ _ h)
def ky (a0 : Reader) : Option (Except Int (Node × Reader)) :=
 qj a0 (7 : Int) (⟨#[]⟩) ([] : LB) ([] : LN) (⟨#[99, 108, 97, 115, 115]⟩ : BA) >>= fun x1 =>
 match x1 with
 | .error ee => some (.error ee)
 | .ok x1 =>
 zv x1.1 (7 : Int) (⟨#[]⟩) x1.2 ([] : LN) >>= fun x2 =>
 match x2 with
 | .error ee => some (.error ee)
 | .ok x2 =>
 q7 x2.1 (⟨#[58]⟩ : BA) >>= fun x3 =>
 if x3 = true then
  qj x2.1 (8 : Int) (⟨#[]⟩) ([] : LB) ([] : LN) (⟨#[58]⟩ : BA) >>= fun x4 =>
  match x4 with
  | .error ee => some (.error ee)
  | .ok x4 =>
  zv x4.1 (8 : Int) (⟨#[]⟩) x4.2 ([] : LN) >>= fun x5 =>
  match x5 with
  | .error ee => some (.error ee)
  | .ok x5 =>
  yy x5.1 (7 : Int) x2.2.1 x2.2.2 ([] : LN) (Node.mk (8 : Int) x5.2.1 x5.2.2 ([] : LN))
 else
  yy x2.1 (7 : Int) x2.2.1 x2.2.2 ([] : LN) (Node.mk (8 : Int) (⟨#[]⟩) ([] : LB) ([] : LN))
@[reducible] def W3 (a0 : Reader) (r : Except Int (Node × Reader)) : Prop :=
  exq (fun (r : Node × Reader) => AC Tryd.prog G 35 [(.ptr 0 0 0)] 1 [(0, .var 48 (Reader.cells a0))] (.agg (zu r.1)) 1 [(0, .var 48 (Reader.cells r.2))]) (fun e => FC Tryd.prog G 35 [(.ptr 0 0 0)] 1 [(0, .var 48 (Reader.cells a0))] (flt e)) r
end Go.Proofs.YtigmilhpeodhbaaDoorW.Ex.Gr
