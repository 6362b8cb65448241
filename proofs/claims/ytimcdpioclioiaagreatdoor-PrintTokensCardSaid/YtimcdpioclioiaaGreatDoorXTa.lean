/- The functions of the program's layer 8 and of its references, printed as functions on numbers, strings, lists and trees, with the proofs that they are what the code computes. Conditions: those in each theorem. -/
import Derived.Test.YtimcdpioclioiaaGreatDoorGh
import Derived.Test.YtimcdpioclioiaaGreatDoorYa
import Derived.Test.YtimcdpioclioiaaGreatDoorExR
import Derived.Test.YtimcdpioclioiaaGreatDoorExF
import Derived.Test.YtimcdpioclioiaaGreatDoorT8
import Derived.Test.YtimcdpioclioiaaGreatDoorT0
namespace Go.Proofs.YtimcdpioclioiaaGreatDoorW.Ex.Gr
open Go Go.Proofs.YtimcdpioclioiaaGreatDoorW.Ex
set_option linter.all false
set_option maxRecDepth 100000
set_option synthInstance.maxSize 4000
set_option maxHeartbeats 4000000
structure Token where
 Kind : Int
 Lead : ByteArray
 Text : ByteArray
 At : Int
def Token.cells (x : Token) : List AV := [(.int .i64 x.Kind), (.str x.Lead), (.str x.Text), (.int .i64 x.At)]
theorem Yb : CellsOk Token.cells 4 := ⟨fun _ => rfl, by decide, fun a z hz => by
 simp only [Token.cells, List.mem_cons, List.not_mem_nil, or_false] at hz
 rcases hz with rfl | rfl | rfl | rfl <;> exact ⟨rfl, rfl⟩⟩
@[reducible] def PC0 {R : Type} (M : R → Prop) (F : Option R) : Prop := ∀ r, F = some r → M r
@[reducible] def PC1 {A0 R : Type} (M : A0 → R → Prop) (F : A0 → Option R) : Prop := ∀ a0 r, F a0 = some r → M a0 r
@[reducible] def PC2 {A0 A1 R : Type} (M : A0 → A1 → R → Prop) (F : A0 → A1 → Option R) : Prop := ∀ a0 a1 r, F a0 a1 = some r → M a0 a1 r
@[reducible] def PC3 {A0 A1 A2 R : Type} (M : A0 → A1 → A2 → R → Prop) (F : A0 → A1 → A2 → Option R) : Prop := ∀ a0 a1 a2 r, F a0 a1 a2 = some r → M a0 a1 a2 r
@[reducible] def PC4 {A0 A1 A2 A3 R : Type} (M : A0 → A1 → A2 → A3 → R → Prop) (F : A0 → A1 → A2 → A3 → Option R) : Prop := ∀ a0 a1 a2 a3 r, F a0 a1 a2 a3 = some r → M a0 a1 a2 a3 r
@[reducible] def PC5 {A0 A1 A2 A3 A4 R : Type} (M : A0 → A1 → A2 → A3 → A4 → R → Prop) (F : A0 → A1 → A2 → A3 → A4 → Option R) : Prop := ∀ a0 a1 a2 a3 a4 r, F a0 a1 a2 a3 a4 = some r → M a0 a1 a2 a3 a4 r
@[reducible] def PC6 {A0 A1 A2 A3 A4 A5 R : Type} (M : A0 → A1 → A2 → A3 → A4 → A5 → R → Prop) (F : A0 → A1 → A2 → A3 → A4 → A5 → Option R) : Prop := ∀ a0 a1 a2 a3 a4 a5 r, F a0 a1 a2 a3 a4 a5 = some r → M a0 a1 a2 a3 a4 a5 r
@[reducible] def PC7 {A0 A1 A2 A3 A4 A5 A6 R : Type} (M : A0 → A1 → A2 → A3 → A4 → A5 → A6 → R → Prop) (F : A0 → A1 → A2 → A3 → A4 → A5 → A6 → Option R) : Prop := ∀ a0 a1 a2 a3 a4 a5 a6 r, F a0 a1 a2 a3 a4 a5 a6 = some r → M a0 a1 a2 a3 a4 a5 a6 r
@[reducible] def PC8 {A0 A1 A2 A3 A4 A5 A6 A7 R : Type} (M : A0 → A1 → A2 → A3 → A4 → A5 → A6 → A7 → R → Prop) (F : A0 → A1 → A2 → A3 → A4 → A5 → A6 → A7 → Option R) : Prop := ∀ a0 a1 a2 a3 a4 a5 a6 a7 r, F a0 a1 a2 a3 a4 a5 a6 a7 = some r → M a0 a1 a2 a3 a4 a5 a6 a7 r
@[reducible] def PC9 {A0 A1 A2 A3 A4 A5 A6 A7 A8 R : Type} (M : A0 → A1 → A2 → A3 → A4 → A5 → A6 → A7 → A8 → R → Prop) (F : A0 → A1 → A2 → A3 → A4 → A5 → A6 → A7 → A8 → Option R) : Prop := ∀ a0 a1 a2 a3 a4 a5 a6 a7 a8 r, F a0 a1 a2 a3 a4 a5 a6 a7 a8 = some r → M a0 a1 a2 a3 a4 a5 a6 a7 a8 r
@[reducible] def PC10 {A0 A1 A2 A3 A4 A5 A6 A7 A8 A9 R : Type} (M : A0 → A1 → A2 → A3 → A4 → A5 → A6 → A7 → A8 → A9 → R → Prop) (F : A0 → A1 → A2 → A3 → A4 → A5 → A6 → A7 → A8 → A9 → Option R) : Prop := ∀ a0 a1 a2 a3 a4 a5 a6 a7 a8 a9 r, F a0 a1 a2 a3 a4 a5 a6 a7 a8 a9 = some r → M a0 a1 a2 a3 a4 a5 a6 a7 a8 a9 r
@[reducible] def PC11 {A0 A1 A2 A3 A4 A5 A6 A7 A8 A9 A10 R : Type} (M : A0 → A1 → A2 → A3 → A4 → A5 → A6 → A7 → A8 → A9 → A10 → R → Prop) (F : A0 → A1 → A2 → A3 → A4 → A5 → A6 → A7 → A8 → A9 → A10 → Option R) : Prop := ∀ a0 a1 a2 a3 a4 a5 a6 a7 a8 a9 a10 r, F a0 a1 a2 a3 a4 a5 a6 a7 a8 a9 a10 = some r → M a0 a1 a2 a3 a4 a5 a6 a7 a8 a9 a10 r
theorem Node.cells_eq (n : Node) : n.cells = zo n := Go.Proofs.YtimcdpioclioiaaGreatDoorW.Ex.Gr.cells_eq n
theorem Node.cells_len (n : Node) : n.cells.length = 4 := by rw [Node.cells_eq]; rfl
theorem qj : CellsOk Node.cells 4 := ⟨Node.cells_len, by decide, fun n z hz => by
 rw [Node.cells_eq] at hz
 simp only [List.mem_cons, List.not_mem_nil, or_false] at hz
 rcases hz with rfl | rfl | rfl | rfl <;> exact ⟨rfl, rfl⟩⟩
mutual
def wfB : Node → Bool
 | .mk _ t g l => decide (l.length ≤ 9223372036854775807) && decide (g.length ≤ 9223372036854775807) && decide (t.size ≤ 9223372036854775807) && g.all (fun s => decide (s.size ≤ 9223372036854775807)) && wfBL l
def wfBL : List Node → Bool
 | [] => true
 | n :: l => wfB n && wfBL l
end
mutual
theorem wfB_ok : ∀ n : Node, wfB n = true → Wf n
 | .mk k t g l, h => by
   simp only [wfB, Bool.and_eq_true, decide_eq_true_eq, List.all_eq_true] at h
   exact .mk _ h.1.1.1.1 h.1.1.1.2 h.1.1.2 h.1.2 (wfBL_ok l h.2)
theorem wfBL_ok : ∀ l : List Node, wfBL l = true → ∀ m ∈ l, Wf m
 | [], _, m, hm => by cases hm
 | n :: l, h, m, hm => by
   simp only [wfBL, Bool.and_eq_true] at h
   rcases List.mem_cons.1 hm with e | hm
   ·rw [e]; exact wfB_ok n h.1
   ·exact wfBL_ok l h.2 m hm
end
def F_grammar_Check (n : Node) : Option Int := if wfB n = true then some (checkErr n) else none
theorem H_F_grammar_Check (n : Node) (r : Int) (h : F_grammar_Check n = some r) : Fn Tryz.prog G 14 [.agg (zo n)] (.int .i64 r) := by
 unfold F_grammar_Check at h
 split at h
 ·rename_i hc; cases h; exact grammar_Check n (wfB_ok n hc)
 ·cases h
def F_R7_Check (n : Node) : Option Int := if wfB n = true then some (checkErr n) else none
theorem H_F_R7_Check (n : Node) (r : Int) (h : F_R7_Check n = some r) : Fn Tryz.prog G 9 [.agg (zo n)] (.int .i64 r) := by
 unfold F_R7_Check at h
 split at h
 ·rename_i hc; cases h; exact R7_Check n (wfB_ok n hc)
 ·cases h
def F_strings_IndexByte (s : ByteArray) (c : Int) : Option Int := some (Lib.indexByte s.data.toList c.toNat.toUInt8)
theorem H_F_strings_IndexByte (s : ByteArray) (c : Int) (r : Int) (h : F_strings_IndexByte s c = some r) : Fn Tryz.prog G 77 [.str s, .int .u8 c] (.int .i64 r) := by
 cases h; exact Qg s c
def F_strings_Repeat (s : ByteArray) (i : Int) : Option ByteArray := if 0 ≤ i ∧ i ≤ 9223372036854775807 ∧ s.size * i.toNat ≤ 140737488355328 then some (⟨(Lib.repeatL s.data.toList i.toNat).toArray⟩ : ByteArray) else none
theorem H_F_strings_Repeat (s : ByteArray) (i : Int) (r : ByteArray) (h : F_strings_Repeat s i = some r) : Fn Tryz.prog G 92 [.str s, .int .i64 i] (.str r) := by
 unfold F_strings_Repeat at h
 split at h
 ·rename_i hc; cases h; exact strings_Repeat s i hc.1 hc.2.1 hc.2.2
 ·cases h
def F_trivia_End (s : ByteArray) (a : Int) : Option Int := if s.size ≤ 9223372036854775807 then some (Y2 s a) else none
theorem H_F_trivia_End (s : ByteArray) (a : Int) (r : Int) (h : F_trivia_End s a = some r) : Fn Tryz.prog G 42 [.str s, .int .i64 a] (.int .i64 r) := by
 unfold F_trivia_End at h
 split at h
 ·rename_i hc; cases h; exact trivia_End s a hc
 ·cases h
def F_token_integer (s : ByteArray) : Option Bool := if s.size ≤ 281474976710656 then some (ug s.data.toList) else none
theorem H_F_token_integer (s : ByteArray) (r : Bool) (h : F_token_integer s = some r) : Fn Tryz.prog G 68 [.str s] (.bool r) := by
 unfold F_token_integer at h
 split at h
 ·rename_i hc; cases h; exact token_integer s hc
 ·cases h
theorem alloc2_size (w : World) (o1 o2 : Go.Obj) : ((w.alloc o1).alloc o2).heap.size = w.heap.size + 2 := by rw [World.size_alloc, World.size_alloc]
theorem alloc2_old (w : World) (o1 o2 : Go.Obj) (k : Nat) (h : k < w.heap.size) : ((w.alloc o1).alloc o2).heap[k]? = w.heap[k]? :=
 (Lib.alloc_old _ _ k (by rw [World.size_alloc]; omega)).trans (Lib.alloc_old _ _ k h)
theorem alloc2_new (w : World) (o1 o2 : Go.Obj) : ((w.alloc o1).alloc o2).heap[w.heap.size + 1]? = some o2 := by
 have := heap_alloc_new (w.alloc o1) o2
 rwa [show (w.alloc o1).heap.size = w.heap.size + 1 from World.size_alloc _ _] at this
theorem sum_walk (w : World) (s : ByteArray) : Calls Tryz.prog 12 #[.string s] w fun e w' => e = .returned (.agg #[.int .i64 24, .string s, .slice none 0 0, .slice (some ⟨w.heap.size + 1, 0, none⟩) 2 2]) ∧
 w'.os = w.os ∧ w'.tape = w.tape ∧ w'.output = w.output ∧ w'.heap.size = w.heap.size + 2 ∧ (∀ k, k < w.heap.size → w'.heap[k]? = w.heap[k]?) ∧ w'.heap[w.heap.size + 1]? = some (.cells #[.int .i64 17, .string ⟨#[49]⟩, .slice none 0 0, .slice none 0 0, .int .i64 17, .string ⟨#[50]⟩, .slice none 0 0, .slice none 0 0] 25 (0, 0)) := by
 go_enter Tryz.func12, Tryz.ntmps12
 go_wp2
 refine bodyPost_ret (by simp [results, Tryz.results12, go_sem]; try rfl) rfl ?_
 exact ⟨rfl, rfl, rfl, rfl, alloc2_size _ _ _, alloc2_old _ _ _, alloc2_new _ _ _⟩
def K4 : List Node := [Node.mk 17 ⟨#[49]⟩ [] [], Node.mk 17 ⟨#[50]⟩ [] []]
def sumN (s : ByteArray) : Node := Node.mk 24 s [] K4
theorem sumKids_cells : (K4.map Node.cells).flatten = [.int .i64 17, .str ⟨#[49]⟩, .sl 1 false [], .sl 4 false [], .int .i64 17, .str ⟨#[50]⟩, .sl 1 false [], .sl 4 false []] := by
 simp only [K4, List.map_cons, List.map_nil, Go.Proofs.YtimcdpioclioiaaGreatDoorW.Ex.Gr.cells_eq]
 rfl
theorem sum_call (s : ByteArray) : ACalls Tryz.prog G 12 [.str s] ⟨1, [(0, .row 25 [])]⟩ (.agg [.int .i64 24, .str s, .sl 1 false [], .bs 4 0 1 0 2]) ⟨2, [(1, .row 25 (K4.map Node.cells).flatten)]⟩ := by
 intro w S F β vs hH hv
 have e : vs = #[.string s] := by
  obtain ⟨h1, h2⟩ := hv
  have a := h2 0 _ rfl
  have e : vs = #[vs.getD 0 Go.undef] := by
   apply Array.ext
   ·simpa using h1
   ·intro i h3 h4
    obtain rfl : i = 0 := by simp at h4; omega
    simp [Array.getD_eq_getD_getElem?, h3]
  generalize vs.getD 0 Go.undef = v at a e
  cases a
  exact e
 rw [e, show (callFunc 12 #[.string s]).run Tryz.prog w = .ok (.enter 12 #[.string s]) w by simp]
 show Calls Tryz.prog 12 _ w _
 refine (sum_walk w s).mono ?_
 rintro e w' ⟨rfl, h1, h2, h3, h4, h5, h6⟩
 have hS : ∀ k, S k → k < w.heap.size := hH.lts
 have hF : ∀ k, F k → k < w.heap.size := hH.ltf
 have hx : Ext w S F β 1 w' S (fun s => if s = 1 then w.heap.size + 1 else β s) 2 := ⟨h1, h2, h3, by omega, by omega, fun s hs => if_neg (by omega), fun _ h => h, fun _ h => .inl h, fun k hk => h5 k (hS k hk), fun k hk => h5 k (hF k hk), fun k x hk => by
  have hkl : k < w.heap.size := by
   unfold World.shape? at hk
   split at hk
   ·rename_i hh; exact (Array.getElem?_eq_some_iff.1 hh).1
   ·cases hk
  unfold World.shape? at *; rw [h5 k hkl]; exact hk⟩
 refine ⟨_, rfl, S, _, hx, ⟨fun k hk => by have := hS k hk; omega, fun k hk => by have := hF k hk; omega, fun g => (hH.glob g).ext hx, fun i s o hi => ?_, fun i j si sj oi oj hi hj hne _ _ => ?_, fun i s o hi => ?_⟩, ?_⟩
 ·match i, hi with
  | 0, hi => simp at hi; rw [← hi.1]; show 1 < 2; omega
  | i + 1, hi => simp at hi
 ·match i, j, hi, hj with
  | 0, 0, _, _ => exact absurd rfl hne
  | 0, j + 1, _, hj => simp at hj
  | i + 1, _, hi, _ => simp at hi
 ·match i, hi with
  | 0, hi =>
    simp at hi
    rw [← hi.1, ← hi.2, sumKids_cells]
    have h6' := h6
    rw [show w.heap.size + 1 = if 1 = 1 then w.heap.size + 1 else β 1 from (if_pos rfl).symm] at h6'
    refine fun _ => ⟨_, h6', Nat.le_refl 8, fun h => by have := hS _ h; simp at this; omega, fun h => by have := hF _ h; simp at this; omega, fun q x hq => ?_⟩
    match q, hq with
    | 0, hq => simp at hq; subst hq; exact ⟨rfl, .int _ _⟩
    | 1, hq => simp at hq; subst hq; exact ⟨rfl, .str _⟩
    | 2, hq => simp at hq; subst hq; exact ⟨rfl, RV.nilSl 1 false⟩
    | 3, hq => simp at hq; subst hq; exact ⟨rfl, RV.nilSl 4 false⟩
    | 4, hq => simp at hq; subst hq; exact ⟨rfl, .int _ _⟩
    | 5, hq => simp at hq; subst hq; exact ⟨rfl, .str _⟩
    | 6, hq => simp at hq; subst hq; exact ⟨rfl, RV.nilSl 1 false⟩
    | 7, hq => simp at hq; subst hq; exact ⟨rfl, RV.nilSl 4 false⟩
    | q + 8, hq => simp at hq
  | i + 1, hi => simp at hi
 ·refine .agg _ _ rfl (fun x hx => by simp only [List.mem_cons, List.not_mem_nil, or_false] at hx; rcases hx with rfl | rfl | rfl | rfl <;> rfl) fun i x hi => ?_
  match i, hi with
  | 0, hi => simp at hi; subst hi; exact .int _ _
  | 1, hi => simp at hi; subst hi; exact .str _
  | 2, hi => simp at hi; subst hi; exact RV.nilSl 1 false
  | 3, hi =>
    simp at hi; subst hi
    have hsh : w'.shape? (w.heap.size + 1) = some (25, 8) := by simp only [World.shape?, h6]; rfl
    have := RV.bs (w := w') (S := S) (β := fun s => if s = 1 then w.heap.size + 1 else β s) (n := 2) 4 0 1 0 2 2 8 25 (by decide) (by rw [if_pos rfl]; exact hsh) rfl (Nat.le_refl 2) (by decide) (by decide)
    exact this
  | i + 4, hi => simp at hi
theorem AC_sum (s : ByteArray) : AC Tryz.prog G 12 [.str s] 1 [(0, .row 25 [])] (.agg [.int .i64 24, .str s, .sl 1 false [], .bs 4 0 1 0 2]) 2 [(1, .row 25 (K4.map Node.cells).flatten)] :=
 ⟨sum_call s, (frOs_gh rfl zv), (clOs_gh zh), (ze qj zx), (qn qj zh), rfl, rfl, rfl, rfl⟩
abbrev LB := List ByteArray
abbrev LN := List Node
abbrev LU := List UInt8
section
variable {ps : List (Nat × AV)} {k : List Item} {kn : List Nat} {fr fr' : FT} {n n' N p m m' r n2 : Nat} {objs objs' objs2 O O' : Objs} {Q : Exit → Fr → Hp → Prop} {ρ : Nat → Nat}
theorem kr (bars : List Nat) {c : Cfg} (hc : Ok Tryz.prog G tt N p Q c) (h : runK tt G bars 2000 ps k kn fr n objs = some c := by exact rfl) : Ok Tryz.prog G tt N p Q (.go ps k kn fr n objs) := vm env bars h hc
theorem kf {rs : List ResultVar} {y : AV} (hk : noOps k = true := by exact rfl) (h : ressK tt fr objs rs oneOf = some y := by exact rfl) : Ok Tryz.prog G tt N p (Ret Tryz.prog rs (fun z H => Told Tryz.prog G H z y)) (.fin .ret k fr n objs) := zi env hk h (qq rfl)
theorem lN : leC ρ m [] [] := leC_nil
theorem lS {v u : AV} {vs us : List AV} (hs : leC ρ m vs us) (h : v = u.ren1 ρ := by exact rfl) (hu : u.un1 m = true := by exact rfl) : leC ρ m (v :: vs) (u :: us) := uj h hu hs
theorem sV {i s' : Nat} {e : TypeId} {cs cs' : List AV} {l : List (Option Nat)} (hc : leC ρ m cs cs') (h : vh ρ m objs l O') (ho : objs[i]? = some (ρ s', .var e cs) := by exact rfl) (hb : Nat.blt s' m = true := by exact rfl) : vh ρ m objs (some i :: l) ((s', .var e cs') :: O') := Qx ho hb hc h
theorem sR {α : Type} {C : α → List AV} {sz i s' : Nat} {e : TypeId} {x : List α} {l : List (Option Nat)} (hC : CellsOk C sz) (h : vh ρ m objs l O') (ho : objs[i]? = some (ρ s', .row e (x.map C).flatten) := by exact rfl) (hb : Nat.blt s' m = true := by exact rfl) : vh ρ m objs (some i :: l) ((s', .row e (x.map C).flatten) :: O') := Qy hC ho hb h
theorem tS {x y : AV} (sel : List (Option Nat)) (ho : vh (rhoS objs sel O') m' objs sel O') (hx : resT objs' (rhoS objs sel O') m' y x) (hd : killK (sel.filterMap id) 0 objs some = some objs' := by exact rfl) (hn : injSel sel = true := by exact rfl) (hid : (List.range m).all (fun s => Nat.beq (rhoS objs sel O' s) s) = true := by exact rfl) (hle : Nat.ble m m' = true := by exact rfl) : yb Tryz.prog G m ⟨n, objs⟩ y x ⟨m', O'⟩ := vw sel hd hn hid hle ho hx
theorem lA (hf : leFT (rho objs' objs) n' fr fr' := by simp <;> (repeat' apply And.intro) <;> first | rfl | exact fun x a _ h => (qj.all a x h).2 | exact fun x a _ h => (zn.all a x h).2 | exact fun x a _ h => (qp.all a x h).2 | exact fun x a _ h => (ic_ok.all a x h).2 | exact fun x a _ h => (Yb.all a x h).2) (ho : leOs (rho objs' objs) n' objs objs' := by simp <;> (repeat' apply And.intro) <;> first | rfl | exact fun x a _ h => (qj.all a x h).2 | exact fun x a _ h => (zn.all a x h).2 | exact fun x a _ h => (qp.all a x h).2 | exact fun x a _ h => (ic_ok.all a x h).2 | exact fun x a _ h => (Yb.all a x h).2) : Less G N 0 (frT fr) ⟨n, objs⟩ (frT fr') ⟨n', objs'⟩ := less_at hf ho
theorem lQ (hf : leFT (rho objs' objs) n' fr fr' := by simp <;> (repeat' apply And.intro) <;> first | rfl | exact fun x a _ h => (qj.all a x h).2 | exact fun x a _ h => (zn.all a x h).2 | exact fun x a _ h => (qp.all a x h).2 | exact fun x a _ h => (ic_ok.all a x h).2 | exact fun x a _ h => (Yb.all a x h).2) (ho : leOs (rho objs' objs) n' objs objs' := by simp <;> (repeat' apply And.intro) <;> first | rfl | exact fun x a _ h => (qj.all a x h).2 | exact fun x a _ h => (zn.all a x h).2 | exact fun x a _ h => (qp.all a x h).2 | exact fun x a _ h => (ic_ok.all a x h).2 | exact fun x a _ h => (Yb.all a x h).2) (hid : ∀ s, s < p → rho objs' objs s = s := by exact J1 rfl) (hp : p ≤ n' := by exact Nat.le_of_ble_eq_true rfl) : Less G N p (frT fr) ⟨n, objs⟩ (frT fr') ⟨n', objs'⟩ := Qb hid hp hf ho
theorem AC.g9 {f : FuncId} {xs xs0 : List AV} {x y : AV} (h : AC Tryz.prog G f xs0 r O x m' O') (ids st : List Nat) (hnd : decide ids.Nodup = true := by exact rfl) (hids : ids.length = O.length := by exact rfl) (hst : st.length = r := by exact rfl) (hstn : st.all (fun s => Nat.blt s n) = true := by exact rfl)
 (hxs : xs0.map (AV.mv (fun j => ids.getD j 0) (fun s => st.getD s 0)) = xs := by exact rfl) (hg : Ki ids objs = some (O.map fun q => (st.getD q.1 0, q.2.mvR (fun j => ids.getD j 0) (fun s => st.getD s 0))) := by exact rfl)
 (hy : Kj (x.mv (fun j => ids.getD j 0) (Qh (fun s => st.getD s 0) r n)) some = some y := by exact rfl) (hs : K7 ids (O'.map fun q => (Qh (fun s => st.getD s 0) r n q.1, q.2.mvR (fun j => ids.getD j 0) (Qh (fun s => st.getD s 0) r n))) objs some = some objs2 := by exact rfl) (hn : wx (n + (m' - r)) some = some n2 := by exact rfl) : ACalls Tryz.prog G f xs ⟨n, objs⟩ y ⟨n2, objs2⟩ := AC.go h ids st hnd hids hst hstn hxs hg hy hs hn
end
mutual
def F_R6_left (a0 : Node) (a1 : Int) (a2 : Int) : Option Int :=
 if (decide (a1 < (1 : Int))) = true then
  some (-1 : Int)
 else
  if (decide (a2 < (1 : Int))) = true then
   some (-1 : Int)
  else
   if (decide (a1 < ((a0.kids.map Node.cells).length : Int))) = true then
    some (-1 : Int)
   else
    F_R6_left_l0 (qa a2) (IntKind.i64.wrap (a1 - (1 : Int))) (0 : Int) (qa a0)
 partial_fixpoint
def F_R6_left_l0 (t2 : Int) (t7 : Int) (t8 : Int) (o0 : Node) : Option Int :=
 if (decide (t8 < ((o0.kids.map Node.cells).length : Int))) = true then
  ix o0.kids t8 >>= fun x1 =>
  F_R6_left (qa x1) (qa t7) (IntKind.i64.wrap (t2 - (1 : Int))) >>= fun x2 =>
  if (decide (x2 < (0 : Int))) = true then
   some (-1 : Int)
  else
   F_R6_left_l0 (qa t2) (qa x2) (IntKind.i64.wrap (t8 + (1 : Int))) (qa o0)
 else
  some t7
 partial_fixpoint
end
@[reducible] def M_F_R6_left (a0 : Node) (a1 : Int) (a2 : Int) (r : Int) : Prop :=
  Fn Tryz.prog G 44 [(.agg (zo a0)), (.int .i64 a1), (.int .i64 a2)] (.int .i64 r)
@[reducible] def M_F_R6_left_l0 (t2 : Int) (t7 : Int) (t8 : Int) (o0 : Node) (r : Int) : Prop :=
  Ok Tryz.prog G tt 43 0 (Ret Tryz.prog [.tmp 6] (fun y H => Told Tryz.prog G H y (.int .i64 r))) (.again (jq [] Tryz.f44 0).1 (jq [] Tryz.f44 0).2 (.n .undef (.n .undef (.n (.ptr 0 0 0) (.n (.int .i64 t7) .z .z) .z) .z) (.n (.int .i64 t2) (.n .undef (.n (.int .i64 t8) .z .z) .z) .z)) 1 [(0, .var 25 (zo o0))])
theorem ALL_F_R6_left : PC3 M_F_R6_left F_R6_left ∧ PC4 M_F_R6_left_l0 F_R6_left_l0 := by
 refine F_R6_left.mutual_partial_correctness M_F_R6_left M_F_R6_left_l0 (fun F_R6_left_l0 H_F_R6_left_l0 a0 a1 a2 r h => ?_) (fun F_R6_left F_R6_left_l0 H_F_R6_left H_F_R6_left_l0 t2 t7 t8 o0 r h => ?_)
 ·unfold qa at h
  refine zg (T := tt) (N := 43) (rs := [.tmp 6]) (fun vs w => by simp) Tryz.func44 rfl rfl rfl rfl (by kernel_rfl) (jb rfl) (zp _ rfl) ?_
  refine kr [] ?_
  refine qr (fun hb => ?_) (fun hb => ?_)
  ·replace h := qy hb h
   refine kr [] ?_
   refine qr (fun hb => ?_) (fun hb => ?_)
   ·replace h := qy hb h
    refine kr [] ?_
    refine qg (fun hb => ?_) (fun hb => ?_)
    ·replace h := qx hb h
     refine kr [] ?_
     cases h
     exact kf
    ·replace h := qy hb h
     refine kr [] ?_
     exact jp (by kernel_rfl) lA (H_F_R6_left_l0 _ _ _ _ _ h)
   ·replace h := qx hb h
    refine kr [] ?_
    cases h
    exact kf
  ·replace h := qx hb h
   refine kr [] ?_
   cases h
   exact kf
 ·unfold qa at h
  refine jz ?_
  refine kr [] ?_
  refine qg (fun hb => ?_) (fun hb => ?_)
  ·replace h := qx hb h
   refine kr [] ?_
   obtain ⟨x1, hx, h⟩ := bind_some h
   refine w9 env hx rfl rfl rfl rfl (Node.cells_eq x1) ?_
   refine kr [] ?_
   obtain ⟨x2, hx, h⟩ := bind_some h
   refine ql (H_F_R6_left _ _ _ _ hx) ?_
   refine kr [] ?_
   refine qg (fun hb => ?_) (fun hb => ?_)
   ·replace h := qx hb h
    refine kr [] ?_
    cases h
    exact kf
   ·replace h := qy hb h
    refine kr [] ?_
    exact je (by kernel_rfl) lA (H_F_R6_left_l0 _ _ _ _ _ h)
  ·replace h := qy hb h
   refine kr [] ?_
   cases h
   exact kf
theorem H_F_R6_left : PC3 M_F_R6_left F_R6_left := ALL_F_R6_left.1
theorem H_F_R6_left_l0 : PC4 M_F_R6_left_l0 F_R6_left_l0 := ALL_F_R6_left.2
def F_R6_Fits (a0 : Node) (a1 : Int) (a2 : Int) : Option Bool :=
 F_R6_left a0 a1 a2 >>= fun x1 =>
 some (decide ((0 : Int) ≤ x1))
@[reducible] def M_F_R6_Fits (a0 : Node) (a1 : Int) (a2 : Int) (r : Bool) : Prop :=
  Fn Tryz.prog G 28 [(.agg (zo a0)), (.int .i64 a1), (.int .i64 a2)] (.bool r)
theorem H_F_R6_Fits : PC3 M_F_R6_Fits F_R6_Fits := fun a0 a1 a2 r h => by
 rw [F_R6_Fits.eq_def] at h
 refine zg (T := tt) (N := 12) (rs := [.tmp 6]) (fun vs w => by simp) Tryz.func28 rfl rfl rfl rfl (by kernel_rfl) (jb rfl) (zp _ rfl) ?_
 refine kr [] ?_
 obtain ⟨x1, hx, h⟩ := bind_some h
 refine ql (H_F_R6_left _ _ _ _ hx) ?_
 refine kr [] ?_
 cases h
 exact kf
mutual
def F_R6_weigh (a0 : Node) (a1 : Int) : Option Int :=
 if (decide (a1 < (a0.text.size : Int))) = true then
  some (-1 : Int)
 else
  if (decide (a1 < ((a0.gaps.map sc).length : Int))) = true then
   some (-1 : Int)
  else
   F_R6_weigh_l0 (IntKind.i64.wrap (a1 - (a0.text.size : Int))) (0 : Int) (qa a0)
 partial_fixpoint
def F_R6_weigh_l0 (t5 : Int) (t6 : Int) (o0 : Node) : Option Int :=
 if (decide (t6 < ((o0.gaps.map sc).length : Int))) = true then
  ix o0.gaps t6 >>= fun x1 =>
  if (decide (t5 ≤ (x1.size : Int))) = true then
   some (-1 : Int)
  else
   ix o0.gaps t6 >>= fun x2 =>
   F_R6_weigh_l0 (IntKind.i64.wrap ((IntKind.i64.wrap (t5 - (x2.size : Int))) - (1 : Int))) (IntKind.i64.wrap (t6 + (1 : Int))) (qa o0)
 else
  F_R6_weigh_l1 (qa t5) (0 : Int) (qa o0)
 partial_fixpoint
def F_R6_weigh_l1 (t5 : Int) (t7 : Int) (o0 : Node) : Option Int :=
 if (decide (t7 < ((o0.kids.map Node.cells).length : Int))) = true then
  ix o0.kids t7 >>= fun x3 =>
  F_R6_weigh (qa x3) (qa t5) >>= fun x4 =>
  if (decide (x4 < (0 : Int))) = true then
   some (-1 : Int)
  else
   F_R6_weigh_l1 (qa x4) (IntKind.i64.wrap (t7 + (1 : Int))) (qa o0)
 else
  some t5
 partial_fixpoint
end
@[reducible] def M_F_R6_weigh (a0 : Node) (a1 : Int) (r : Int) : Prop :=
  Fn Tryz.prog G 29 [(.agg (zo a0)), (.int .i64 a1)] (.int .i64 r)
@[reducible] def M_F_R6_weigh_l0 (t5 : Int) (t6 : Int) (o0 : Node) (r : Int) : Prop :=
  Ok Tryz.prog G tt 66 0 (Ret Tryz.prog [.tmp 4] (fun y H => Told Tryz.prog G H y (.int .i64 r))) (.again (jq [] Tryz.f29 0).1 (jq [] Tryz.f29 0).2 (.n .undef (.n .undef .z (.n (.int .i64 t5) .z .z)) (.n (.ptr 0 0 0) .z (.n (.int .i64 t6) .z .z))) 1 [(0, .var 25 (zo o0))])
@[reducible] def M_F_R6_weigh_l1 (t5 : Int) (t7 : Int) (o0 : Node) (r : Int) : Prop :=
  Ok Tryz.prog G tt 66 0 (Ret Tryz.prog [.tmp 4] (fun y H => Told Tryz.prog G H y (.int .i64 r))) (.again (jq [] Tryz.f29 1).1 (jq [] Tryz.f29 1).2 (.n .undef (.n .undef (.n .undef (.n (.int .i64 t7) .z .z) .z) (.n (.int .i64 t5) .z .z)) (.n (.ptr 0 0 0) .z .z)) 1 [(0, .var 25 (zo o0))])
theorem ALL_F_R6_weigh : PC2 M_F_R6_weigh F_R6_weigh ∧ PC3 M_F_R6_weigh_l0 F_R6_weigh_l0 ∧ PC3 M_F_R6_weigh_l1 F_R6_weigh_l1 := by
 refine F_R6_weigh.mutual_partial_correctness M_F_R6_weigh M_F_R6_weigh_l0 M_F_R6_weigh_l1 (fun F_R6_weigh_l0 H_F_R6_weigh_l0 a0 a1 r h => ?_) (fun F_R6_weigh_l0 F_R6_weigh_l1 H_F_R6_weigh_l0 H_F_R6_weigh_l1 t5 t6 o0 r h => ?_) (fun F_R6_weigh F_R6_weigh_l1 H_F_R6_weigh H_F_R6_weigh_l1 t5 t7 o0 r h => ?_)
 ·unfold qa at h
  refine zg (T := tt) (N := 66) (rs := [.tmp 4]) (fun vs w => by simp) Tryz.func29 rfl rfl rfl rfl (by kernel_rfl) (jb rfl) (zp _ rfl) ?_
  refine kr [] ?_
  refine qr (fun hb => ?_) (fun hb => ?_)
  ·replace h := qy hb h
   refine kr [] ?_
   refine qg (fun hb => ?_) (fun hb => ?_)
   ·replace h := qx hb h
    refine kr [] ?_
    cases h
    exact kf
   ·replace h := qy hb h
    refine kr [] ?_
    exact jp (by kernel_rfl) lA (H_F_R6_weigh_l0 _ _ _ _ h)
  ·replace h := qx hb h
   refine kr [] ?_
   cases h
   exact kf
 ·unfold qa at h
  refine jz ?_
  refine kr [] ?_
  refine qg (fun hb => ?_) (fun hb => ?_)
  ·replace h := qx hb h
   refine kr [] ?_
   obtain ⟨x1, hx, h⟩ := bind_some h
   refine w9 env hx rfl rfl rfl rfl rfl ?_
   refine kr [] ?_
   refine qg (fun hb => ?_) (fun hb => ?_)
   ·replace h := qx hb h
    refine kr [] ?_
    cases h
    exact kf
   ·replace h := qy hb h
    refine kr [] ?_
    obtain ⟨x2, hx, h⟩ := bind_some h
    refine w9 env hx rfl rfl rfl rfl rfl ?_
    refine kr [] ?_
    exact je (by kernel_rfl) lA (H_F_R6_weigh_l0 _ _ _ _ h)
  ·replace h := qy hb h
   refine kr [] ?_
   exact jp (by kernel_rfl) lA (H_F_R6_weigh_l1 _ _ _ _ h)
 ·unfold qa at h
  refine jz ?_
  refine kr [] ?_
  refine qg (fun hb => ?_) (fun hb => ?_)
  ·replace h := qx hb h
   refine kr [] ?_
   obtain ⟨x3, hx, h⟩ := bind_some h
   refine w9 env hx rfl rfl rfl rfl (Node.cells_eq x3) ?_
   refine kr [] ?_
   obtain ⟨x4, hx, h⟩ := bind_some h
   refine ql (H_F_R6_weigh _ _ _ hx) ?_
   refine kr [] ?_
   refine qg (fun hb => ?_) (fun hb => ?_)
   ·replace h := qx hb h
    refine kr [] ?_
    cases h
    exact kf
   ·replace h := qy hb h
    refine kr [] ?_
    exact je (by kernel_rfl) lA (H_F_R6_weigh_l1 _ _ _ _ h)
  ·replace h := qy hb h
   refine kr [] ?_
   cases h
   exact kf
theorem H_F_R6_weigh : PC2 M_F_R6_weigh F_R6_weigh := ALL_F_R6_weigh.1
theorem H_F_R6_weigh_l0 : PC3 M_F_R6_weigh_l0 F_R6_weigh_l0 := ALL_F_R6_weigh.2.1
theorem H_F_R6_weigh_l1 : PC3 M_F_R6_weigh_l1 F_R6_weigh_l1 := ALL_F_R6_weigh.2.2
def F_R6_Light (a0 : Node) (a1 : Int) (a2 : Int) (a3 : Int) : Option Bool :=
 F_R6_Fits a0 a1 a2 >>= fun x1 =>
 if x1 = true then
  F_R6_weigh a0 a3 >>= fun x2 =>
  some (decide ((0 : Int) ≤ x2))
 else
  some false
@[reducible] def M_F_R6_Light (a0 : Node) (a1 : Int) (a2 : Int) (a3 : Int) (r : Bool) : Prop :=
  Fn Tryz.prog G 11 [(.agg (zo a0)), (.int .i64 a1), (.int .i64 a2), (.int .i64 a3)] (.bool r)
theorem H_F_R6_Light : PC4 M_F_R6_Light F_R6_Light := fun a0 a1 a2 a3 r h => by
 rw [F_R6_Light.eq_def] at h
 refine zg (T := tt) (N := 19) (rs := [.tmp 8]) (fun vs w => by simp) Tryz.func11 rfl rfl rfl rfl (by kernel_rfl) (jb rfl) (zp _ rfl) ?_
 refine kr [] ?_
 obtain ⟨x1, hx, h⟩ := bind_some h
 refine ql (H_F_R6_Fits _ _ _ _ hx) ?_
 refine kr [] ?_
 refine qm (fun hb => ?_) (fun hb => ?_)
 ·replace h := qx hb h
  refine kr [] ?_
  obtain ⟨x2, hx, h⟩ := bind_some h
  refine ql (H_F_R6_weigh _ _ _ hx) ?_
  refine kr [] ?_
  cases h
  exact kf
 ·replace h := qy hb h
  refine kr [] ?_
  cases h
  exact kf
def F_L8_small (a0 : Node) : Option Bool :=
 F_R6_Light a0 (250 : Int) (70 : Int) (3000 : Int) >>= fun x1 =>
 some x1
@[reducible] def M_F_L8_small (a0 : Node) (r : Bool) : Prop :=
  Fn Tryz.prog G 4 [(.agg (zo a0))] (.bool r)
theorem H_F_L8_small : PC1 M_F_L8_small F_L8_small := fun a0 r h => by
 rw [F_L8_small.eq_def] at h
 refine zg (T := tt) (N := 5) (rs := [.tmp 2]) (fun vs w => by simp) Tryz.func4 rfl rfl rfl rfl (by kernel_rfl) (jb rfl) (zp _ rfl) ?_
 refine kr [] ?_
 obtain ⟨x1, hx, h⟩ := bind_some h
 refine ql (H_F_R6_Light _ _ _ _ _ hx) ?_
 refine kr [] ?_
 cases h
 exact kf
def F_grammar_Group_t20  : Option Int :=
 some (0 : Int)
@[reducible] def M_F_grammar_Group_t20  (r : Int) : Prop :=
  Ok Tryz.prog G tt 21 0 (Ret Tryz.prog [.tmp 2] (fun y H => Told Tryz.prog G H y (.int .i64 r))) (.go [] (yo [20] Tryz.f33 20) [] .z 0 [])
theorem H_F_grammar_Group_t20 : PC0 M_F_grammar_Group_t20 F_grammar_Group_t20 := fun  r h => by
 rw [F_grammar_Group_t20.eq_def] at h
 refine kr [20] ?_
 cases h
 exact kf
def F_grammar_Group (a0 : Int) : Option Int :=
 if (decide (a0 = (2 : Int))) = true then
  some (1 : Int)
 else
  if (decide (a0 = (7 : Int))) = true then
   some (1 : Int)
  else
   if (decide (a0 = (9 : Int))) = true then
    some (1 : Int)
   else
    if (decide (a0 = (10 : Int))) = true then
     some (2 : Int)
    else
     if (decide (a0 = (11 : Int))) = true then
      some (2 : Int)
     else
      if (decide (a0 = (12 : Int))) = true then
       some (2 : Int)
      else
       if (decide (a0 = (13 : Int))) = true then
        some (2 : Int)
       else
        if (decide (a0 = (15 : Int))) = true then
         some (2 : Int)
        else
         if (decide (a0 = (16 : Int))) = true then
          some (2 : Int)
         else
          if (decide ((17 : Int) ≤ a0)) = true then
           if (decide (a0 ≤ (26 : Int))) = true then
            some (3 : Int)
           else
            F_grammar_Group_t20 
          else
           F_grammar_Group_t20 
@[reducible] def M_F_grammar_Group (a0 : Int) (r : Int) : Prop :=
  Fn Tryz.prog G 33 [(.int .i64 a0)] (.int .i64 r)
theorem H_F_grammar_Group : PC1 M_F_grammar_Group F_grammar_Group := fun a0 r h => by
 rw [F_grammar_Group.eq_def] at h
 refine zg (T := tt) (N := 21) (rs := [.tmp 2]) (fun vs w => by simp) Tryz.func33 rfl rfl rfl rfl (by kernel_rfl) (jb rfl) (zp _ rfl) ?_
 refine kr [20] ?_
 refine qg (fun hb => ?_) (fun hb => ?_)
 ·replace h := qx hb h
  refine kr [20] ?_
  cases h
  exact kf
 ·replace h := qy hb h
  refine kr [20] ?_
  refine qg (fun hb => ?_) (fun hb => ?_)
  ·replace h := qx hb h
   refine kr [20] ?_
   cases h
   exact kf
  ·replace h := qy hb h
   refine kr [20] ?_
   refine qg (fun hb => ?_) (fun hb => ?_)
   ·replace h := qx hb h
    refine kr [20] ?_
    cases h
    exact kf
   ·replace h := qy hb h
    refine kr [20] ?_
    refine qg (fun hb => ?_) (fun hb => ?_)
    ·replace h := qx hb h
     refine kr [20] ?_
     cases h
     exact kf
    ·replace h := qy hb h
     refine kr [20] ?_
     refine qg (fun hb => ?_) (fun hb => ?_)
     ·replace h := qx hb h
      refine kr [20] ?_
      cases h
      exact kf
     ·replace h := qy hb h
      refine kr [20] ?_
      refine qg (fun hb => ?_) (fun hb => ?_)
      ·replace h := qx hb h
       refine kr [20] ?_
       cases h
       exact kf
      ·replace h := qy hb h
       refine kr [20] ?_
       refine qg (fun hb => ?_) (fun hb => ?_)
       ·replace h := qx hb h
        refine kr [20] ?_
        cases h
        exact kf
       ·replace h := qy hb h
        refine kr [20] ?_
        refine qg (fun hb => ?_) (fun hb => ?_)
        ·replace h := qx hb h
         refine kr [20] ?_
         cases h
         exact kf
        ·replace h := qy hb h
         refine kr [20] ?_
         refine qg (fun hb => ?_) (fun hb => ?_)
         ·replace h := qx hb h
          refine kr [20] ?_
          cases h
          exact kf
         ·replace h := qy hb h
          refine kr [20] ?_
          refine qm (fun hb => ?_) (fun hb => ?_)
          ·replace h := qx hb h
           refine kr [20] ?_
           refine qg (fun hb => ?_) (fun hb => ?_)
           ·replace h := qx hb h
            refine kr [20] ?_
            cases h
            exact kf
           ·replace h := qy hb h
            refine kr [20] ?_
            exact q7 (by kernel_rfl) rfl lA (H_F_grammar_Group_t20 _ h)
          ·replace h := qy hb h
           refine kr [20] ?_
           exact q7 (by kernel_rfl) rfl lA (H_F_grammar_Group_t20 _ h)
def F_print_line (a0 : Int) : Option BA :=
 F_strings_Repeat (⟨#[9]⟩ : BA) a0 >>= fun x1 =>
 cat (⟨#[10]⟩ : BA) x1 >>= fun x2 =>
 some x2
@[reducible] def M_F_print_line (a0 : Int) (r : BA) : Prop :=
  Fn Tryz.prog G 76 [(.int .i64 a0)] (.str r)
theorem H_F_print_line : PC1 M_F_print_line F_print_line := fun a0 r h => by
 rw [F_print_line.eq_def] at h
 refine zg (T := tt) (N := 6) (rs := [.tmp 2]) (fun vs w => by simp) Tryz.func76 rfl rfl rfl rfl (by kernel_rfl) (jb rfl) (zp _ rfl) ?_
 refine kr [] ?_
 obtain ⟨x1, hx, h⟩ := bind_some h
 refine ql (H_F_strings_Repeat _ _ _ hx) ?_
 refine kr [] ?_
 obtain ⟨x2, hx, h⟩ := bind_some h
 refine Ok_catT env hx rfl rfl ?_
 refine kr [] ?_
 cases h
 exact kf
def F_emitW (a0 : BA) (a1 : BA) (a2 : LB) : Option LB :=
 app 16 a2 ([a1]) >>= fun x1 =>
 some x1
@[reducible] def M_F_emitW (a0 : BA) (a1 : BA) (a2 : LB) (r : LB) : Prop :=
  AC Tryz.prog G 15 [(.str a0), (.str a1), (.ptr 0 0 0)] 2 [(0, .var 22 [(.bs 1 1 1 0 a2.length)]), (1, .row 9 (a2.map sc).flatten)] (.tup []) 3 [(0, .var 22 [(.bs 1 1 2 0 r.length)]), (2, .row 9 (r.map sc).flatten)]
theorem H_F_emitW : PC3 M_F_emitW F_emitW := fun a0 a1 a2 r h => by
 rw [F_emitW.eq_def] at h
 refine ⟨?_, (q9 rfl rfl (zf qp rfl zv)), (qk (qn qp zh)), (za rfl (ze qp zx)), (qk (qn qp zh)), rfl, rfl, rfl, rfl⟩
 refine zq (T := tt) (N := 9) (rs := []) (fun vs w => by simp) Tryz.func15 rfl rfl rfl (by kernel_rfl) (by kernel_rfl) ?_
 refine kr [] ?_
 obtain ⟨x1, hx, h⟩ := bind_some h
 have hp_x1 := Zt hx (by simp)
 refine Qk (C := sc) env hx rfl rfl (by simp) (fun _ => rfl) rfl rfl rfl rfl rfl (by decide) rfl rfl rfl ?_
 refine kr [] ?_
 cases h
 exact qv env rfl (tS [some 0, some 1] (sV (lS lN) (sR qp qt)) (qz qu))
def F_ownW_t22 (t1 : BA) (t2 : BA) (t6 : BA) (o0_1 : Node) (a0 : Int) (a1 : BA) (a2 : LB) (a3 : LN) (o0_3 : Int) (o2 : LB) : Option (LB × LB) :=
 app 16 a2 ([t1]) >>= fun x2 =>
 F_emitW t6 t2 o2 >>= fun x3 =>
 some (x3, x2)
@[reducible] def M_F_ownW_t22 (t1 : BA) (t2 : BA) (t6 : BA) (o0_1 : Node) (a0 : Int) (a1 : BA) (a2 : LB) (a3 : LN) (o0_3 : Int) (o2 : LB) (r : LB × LB) : Prop :=
  Ok Tryz.prog G tt 53 6 (Ret Tryz.prog [] (fun y H => yb Tryz.prog G 6 H y (.tup []) ⟨8, [(0, .var 67 [(.ptr 1 1 0), (.int .i64 o0_1.kind), (.str o0_1.text), (.sl 1 false (o0_1.gaps.map sc)), (.sl 4 false (o0_1.kids.map Node.cells)), (.int .i64 a0), (.str a1), (.bs 1 4 7 0 r.2.length), (.bs 4 5 5 0 a3.length), (.int .i64 o0_3)]), (1, .var 42 [(.fn 15 [(.ptr 2 2 0)])]), (2, .var 22 [(.bs 1 3 6 0 r.1.length)]), (6, .row 9 (r.1.map sc).flatten), (7, .row 9 (r.2.map sc).flatten), (5, .row 25 (a3.map Node.cells).flatten)]⟩)) (.go [] (yo [22] Tryz.f52 22) [] (.n (.ptr 0 0 0) (.n (.str t1) .z .z) (.n (.str t2) .z (.n (.str t6) .z .z))) 8 [(0, .var 67 [(.ptr 1 1 0), (.int .i64 o0_1.kind), (.str o0_1.text), (.sl 1 false (o0_1.gaps.map sc)), (.sl 4 false (o0_1.kids.map Node.cells)), (.int .i64 a0), (.str a1), (.bs 1 4 7 0 a2.length), (.bs 4 5 5 0 a3.length), (.int .i64 o0_3)]), (1, .var 42 [(.fn 15 [(.ptr 2 2 0)])]), (2, .var 22 [(.bs 1 3 6 0 o2.length)]), (6, .row 9 (o2.map sc).flatten), (7, .row 9 (a2.map sc).flatten), (5, .row 25 (a3.map Node.cells).flatten)])
theorem H_F_ownW_t22 : PC10 M_F_ownW_t22 F_ownW_t22 := fun t1 t2 t6 o0_1 a0 a1 a2 a3 o0_3 o2 r h => by
 rw [F_ownW_t22.eq_def] at h
 refine kr [22] ?_
 obtain ⟨x2, hx, h⟩ := bind_some h
 have hp_x2 := Zt hx (by simp)
 refine Qk (C := sc) env hx rfl rfl (by simp) (fun _ => rfl) rfl rfl rfl rfl rfl (by decide) rfl rfl rfl ?_
 refine kr [22] ?_
 obtain ⟨x3, hx, h⟩ := bind_some h
 refine qb (AC.g9 (H_F_emitW _ _ _ _ hx) [2, 3] [2, 6]) ?_
 refine kr [22] ?_
 cases h
 exact qv env rfl (tS [some 0, some 1, some 2, some 3, some 4, some 5] (sV (lS (lS (lS (lS (lS (lS (lS (lS (lS (lS lN)))))))))) (sV (lS lN) (sV (lS lN) (sR qp (sR qp (sR qj qt)))))) (qz qu))
def F_ownW (a0 : LB) (a0_n : Node) (a3 : Int) (a4 : BA) (a5 : LB) (a6 : LN) (a7 : Int) (a1 : BA) (a2 : BA) : Option (LB × LB) :=
 if (decide ((a5.length : Int) < ((a0_n.gaps.map sc).length : Int))) = true then
  ix a0_n.gaps (a5.length : Int) >>= fun x1 =>
  F_ownW_t22 a1 a2 x1 a0_n a3 a4 a5 a6 a7 a0
 else
  F_ownW_t22 a1 a2 a1 a0_n a3 a4 a5 a6 a7 a0
@[reducible] def M_F_ownW (a0 : LB) (a0_n : Node) (a3 : Int) (a4 : BA) (a5 : LB) (a6 : LN) (a7 : Int) (a1 : BA) (a2 : BA) (r : LB × LB) : Prop :=
  AC Tryz.prog G 52 [(.ptr 0 0 0), (.str a1), (.str a2)] 6 [(0, .var 67 [(.ptr 1 1 0), (.int .i64 a0_n.kind), (.str a0_n.text), (.sl 1 false (a0_n.gaps.map sc)), (.sl 4 false (a0_n.kids.map Node.cells)), (.int .i64 a3), (.str a4), (.bs 1 4 4 0 a5.length), (.bs 4 5 5 0 a6.length), (.int .i64 a7)]), (1, .var 42 [(.fn 15 [(.ptr 2 2 0)])]), (2, .var 22 [(.bs 1 3 3 0 a0.length)]), (3, .row 9 (a0.map sc).flatten), (4, .row 9 (a5.map sc).flatten), (5, .row 25 (a6.map Node.cells).flatten)] (.tup []) 8 [(0, .var 67 [(.ptr 1 1 0), (.int .i64 a0_n.kind), (.str a0_n.text), (.sl 1 false (a0_n.gaps.map sc)), (.sl 4 false (a0_n.kids.map Node.cells)), (.int .i64 a3), (.str a4), (.bs 1 4 7 0 r.2.length), (.bs 4 5 5 0 a6.length), (.int .i64 a7)]), (1, .var 42 [(.fn 15 [(.ptr 2 2 0)])]), (2, .var 22 [(.bs 1 3 6 0 r.1.length)]), (6, .row 9 (r.1.map sc).flatten), (7, .row 9 (r.2.map sc).flatten), (5, .row 25 (a6.map Node.cells).flatten)]
theorem H_F_ownW : PC9 M_F_ownW F_ownW := fun a0 a0_n a3 a4 a5 a6 a7 a1 a2 r h => by
 rw [F_ownW.eq_def] at h
 refine ⟨?_, (q9 rfl rfl (q9 rfl rfl (q9 rfl rfl (zf qp rfl (zf qp rfl (zf qj rfl zv)))))), (qk (qk (qk (qn qp (qn qp (qn qj zh)))))), (za rfl (za rfl (za rfl (ze qp (ze qp (ze qj zx)))))), (qk (qk (qk (qn qp (qn qp (qn qj zh)))))), rfl, rfl, rfl, rfl⟩
 refine zq (T := tt) (N := 53) (rs := []) (fun vs w => by simp) Tryz.func52 rfl rfl rfl (by kernel_rfl) (by kernel_rfl) ?_
 refine kr [22] ?_
 refine qg (fun hb => ?_) (fun hb => ?_)
 ·replace h := qx hb h
  refine kr [22] ?_
  obtain ⟨x1, hx, h⟩ := bind_some h
  refine w9 env hx rfl rfl rfl rfl rfl ?_
  refine kr [22] ?_
  exact q7 (by kernel_rfl) rfl lQ (H_F_ownW_t22 _ _ _ _ _ _ _ _ _ _ _ h)
 ·replace h := qy hb h
  refine kr [22] ?_
  exact q7 (by kernel_rfl) rfl lQ (H_F_ownW_t22 _ _ _ _ _ _ _ _ _ _ _ h)
def F_otherW_t33 (t1 : BA) (o0_1 : Node) (a0 : Int) (a1 : BA) (a2 : LB) (a3 : LN) (o0_3 : Int) (o2 : LB) : Option (LB × LB × LN × Int) :=
 F_ownW o2 o0_1 a0 a1 a2 a3 o0_3 t1 (⟨#[]⟩ : BA) >>= fun x78 =>
 some (x78.1, x78.2, a3, o0_3)
@[reducible] def M_F_otherW_t33 (t1 : BA) (o0_1 : Node) (a0 : Int) (a1 : BA) (a2 : LB) (a3 : LN) (o0_3 : Int) (o2 : LB) (r : LB × LB × LN × Int) : Prop :=
  Ok Tryz.prog G tt 146 6 (Ret Tryz.prog [] (fun y H => yb Tryz.prog G 6 H y (.tup []) ⟨9, [(0, .var 67 [(.ptr 1 1 0), (.int .i64 o0_1.kind), (.str o0_1.text), (.sl 1 false (o0_1.gaps.map sc)), (.sl 4 false (o0_1.kids.map Node.cells)), (.int .i64 a0), (.str a1), (.bs 1 4 7 0 r.2.1.length), (.bs 4 5 8 0 r.2.2.1.length), (.int .i64 r.2.2.2)]), (1, .var 42 [(.fn 15 [(.ptr 2 2 0)])]), (2, .var 22 [(.bs 1 3 6 0 r.1.length)]), (6, .row 9 (r.1.map sc).flatten), (7, .row 9 (r.2.1.map sc).flatten), (8, .row 25 (r.2.2.1.map Node.cells).flatten)]⟩)) (.go [] (yo [22, 33] Tryz.f36 33) [] (.n (.ptr 0 0 0) (.n (.str t1) .z .z) .z) 12 [(0, .var 67 [(.ptr 1 1 0), (.int .i64 o0_1.kind), (.str o0_1.text), (.sl 1 false (o0_1.gaps.map sc)), (.sl 4 false (o0_1.kids.map Node.cells)), (.int .i64 a0), (.str a1), (.bs 1 4 10 0 a2.length), (.bs 4 5 11 0 a3.length), (.int .i64 o0_3)]), (1, .var 42 [(.fn 15 [(.ptr 2 2 0)])]), (2, .var 22 [(.bs 1 3 9 0 o2.length)]), (9, .row 9 (o2.map sc).flatten), (10, .row 9 (a2.map sc).flatten), (11, .row 25 (a3.map Node.cells).flatten)])
theorem H_F_otherW_t33 : PC8 M_F_otherW_t33 F_otherW_t33 := fun t1 o0_1 a0 a1 a2 a3 o0_3 o2 r h => by
 rw [F_otherW_t33.eq_def] at h
 refine kr [22, 33] ?_
 obtain ⟨x78, hx, h⟩ := bind_some h
 refine qb (AC.g9 (H_F_ownW _ _ _ _ _ _ _ _ _ _ hx) [0, 1, 2, 3, 4, 5] [0, 1, 2, 9, 10, 11]) ?_
 refine kr [22, 33] ?_
 cases h
 exact qv env rfl (tS [some 0, some 1, some 2, some 3, some 4, some 5] (sV (lS (lS (lS (lS (lS (lS (lS (lS (lS (lS lN)))))))))) (sV (lS lN) (sV (lS lN) (sR qp (sR qp (sR qj qt)))))) (qz qu))
def F_nodeW_t23 (o1 : LB) (o5_1 : Node) (a0 : Int) (a1 : BA) (a2 : LB) (a3 : LN) (o5_3 : Int) : Option (Node × LB) :=
 some ((Node.mk a0 a1 a2 a3), o1)
@[reducible] def M_F_nodeW_t23 (o1 : LB) (o5_1 : Node) (a0 : Int) (a1 : BA) (a2 : LB) (a3 : LN) (o5_3 : Int) (r : Node × LB) : Prop :=
  Ok Tryz.prog G tt 41 3 (Ret Tryz.prog [.cell 8 25] (fun y H => yb Tryz.prog G 3 H y (.agg (zo r.1)) ⟨4, [(0, .var 42 [(.fn 15 [(.ptr 1 1 0)])]), (1, .var 22 [(.bs 1 2 3 0 r.2.length)]), (3, .row 9 (r.2.map sc).flatten)]⟩)) (.go [] (yo [23, 30] Tryz.f16 23) [] (.n .undef (.n .undef .z (.n .undef (.n (.ptr 5 5 0) .z .z) .z)) (.n .undef (.n .undef (.n (.ptr 4 4 0) .z .z) .z) .z)) 12 [(0, .var 42 [(.fn 15 [(.ptr 1 1 0)])]), (1, .var 22 [(.bs 1 2 11 0 o1.length)]), (11, .row 9 (o1.map sc).flatten), (3, .dead), (4, .var 25 [(.int .i64 0), (.str ⟨#[]⟩), (.sl 1 false (([] : LB).map sc)), (.sl 4 false (([] : LN).map Node.cells))]), (5, .var 67 [(.ptr 0 0 0), (.int .i64 o5_1.kind), (.str o5_1.text), (.sl 1 false (o5_1.gaps.map sc)), (.sl 4 false (o5_1.kids.map Node.cells)), (.int .i64 a0), (.str a1), (.bs 1 6 9 0 a2.length), (.bs 4 7 10 0 a3.length), (.int .i64 o5_3)]), (9, .row 9 (a2.map sc).flatten), (10, .row 25 (a3.map Node.cells).flatten)])
theorem H_F_nodeW_t23 : PC7 M_F_nodeW_t23 F_nodeW_t23 := fun o1 o5_1 a0 a1 a2 a3 o5_3 r h => by
 rw [F_nodeW_t23.eq_def] at h
 refine kr [23, 30] ?_
 cases h
 exact Zy env rfl rfl (tS [some 0, some 1, some 2] (sV (lS lN) (sV (lS lN) (sR qp qt))) (Jn (resA_agg (y7 (j6 (j5 rfl) rfl) (y7 (j6 (vo rfl) rfl) (y7 (j6 (ue qp rfl) rfl) (y7 (j6 (ue qj rfl) rfl) resL_nil))))) (by simp)))
def F_nodeW_t30 (o1 : LB) (o5_1 : Node) (a0 : Int) (a1 : BA) (a2 : LB) (a3 : LN) (o5_3 : Int) : Option (Node × LB) :=
 F_nodeW_t23 o1 o5_1 a0 a1 a2 a3 o5_3
@[reducible] def M_F_nodeW_t30 (o1 : LB) (o5_1 : Node) (a0 : Int) (a1 : BA) (a2 : LB) (a3 : LN) (o5_3 : Int) (r : Node × LB) : Prop :=
  Ok Tryz.prog G tt 41 3 (Ret Tryz.prog [.cell 8 25] (fun y H => yb Tryz.prog G 3 H y (.agg (zo r.1)) ⟨4, [(0, .var 42 [(.fn 15 [(.ptr 1 1 0)])]), (1, .var 22 [(.bs 1 2 3 0 r.2.length)]), (3, .row 9 (r.2.map sc).flatten)]⟩)) (.go [] (yo [23, 30] Tryz.f16 30) [] (.n .undef (.n .undef .z (.n .undef (.n (.ptr 5 5 0) .z .z) .z)) (.n .undef (.n .undef (.n (.ptr 4 4 0) .z .z) .z) .z)) 12 [(0, .var 42 [(.fn 15 [(.ptr 1 1 0)])]), (1, .var 22 [(.bs 1 2 11 0 o1.length)]), (11, .row 9 (o1.map sc).flatten), (3, .dead), (4, .var 25 [(.int .i64 0), (.str ⟨#[]⟩), (.sl 1 false (([] : LB).map sc)), (.sl 4 false (([] : LN).map Node.cells))]), (5, .var 67 [(.ptr 0 0 0), (.int .i64 o5_1.kind), (.str o5_1.text), (.sl 1 false (o5_1.gaps.map sc)), (.sl 4 false (o5_1.kids.map Node.cells)), (.int .i64 a0), (.str a1), (.bs 1 6 9 0 a2.length), (.bs 4 7 10 0 a3.length), (.int .i64 o5_3)]), (9, .row 9 (a2.map sc).flatten), (10, .row 25 (a3.map Node.cells).flatten)])
theorem H_F_nodeW_t30 : PC7 M_F_nodeW_t30 F_nodeW_t30 := fun o1 o5_1 a0 a1 a2 a3 o5_3 r h => by
 rw [F_nodeW_t30.eq_def] at h
 refine kr [23, 30] ?_
 exact q7 (by kernel_rfl) rfl lQ (H_F_nodeW_t23 _ _ _ _ _ _ _ _ h)
mutual
def F_nodeW (a0 : LB) (a1 : Node) (a2 : BA) (a3 : Int) : Option (Node × LB) :=
 F_grammar_Group a1.kind >>= fun x1 =>
 if (decide (x1 = (3 : Int))) = true then
  F_expressionW (qa a0) (qa a1) a1.kind a1.text ([] : LB) ([] : LN) (qa a3) (qa a2) >>= fun x2 =>
  F_nodeW_t23 x2.1 (qa a1) a1.kind a1.text x2.2.1 x2.2.2 (qa a3)
 else
  F_grammar_Group a1.kind >>= fun x3 =>
  if (decide (x3 = (2 : Int))) = true then
   F_statementW (qa a0) (qa a1) a1.kind a1.text ([] : LB) ([] : LN) (qa a3) (qa a2) >>= fun x4 =>
   F_nodeW_t30 x4.1 (qa a1) a1.kind a1.text x4.2.1 x4.2.2 (qa a3)
  else
   F_otherW (qa a0) (qa a1) a1.kind a1.text ([] : LB) ([] : LN) (qa a3) (qa a2) >>= fun x5 =>
   F_nodeW_t30 x5.1 (qa a1) a1.kind a1.text x5.2.1 x5.2.2.1 x5.2.2.2
 partial_fixpoint
def F_expressionW (a0 : LB) (a0_n : Node) (a2 : Int) (a3 : BA) (a4 : LB) (a5 : LN) (a6 : Int) (a1 : BA) : Option (LB × LB × LN) :=
 if (decide (a0_n.kind = (20 : Int))) = true then
  F_ownW (qa a0) (qa a0_n) (qa a2) (qa a3) (qa a4) (qa a5) (qa a6) (qa a1) a0_n.text >>= fun x6 =>
  F_ownW x6.1 (qa a0_n) (qa a2) (qa a3) x6.2 (qa a5) (qa a6) (⟨#[]⟩ : BA) (⟨#[40]⟩ : BA) >>= fun x7 =>
  F_restW x7.1 (qa a0_n) (qa a2) (qa a3) x7.2 (qa a5) (qa a6) >>= fun x8 =>
  some (x8.1, x8.2.1, x8.2.2)
 else
  if (decide (a0_n.kind = (21 : Int))) = true then
   F_kidW (qa a0) (qa a0_n) (qa a2) (qa a3) (qa a4) (qa a5) (qa a6) (qa a1) >>= fun x9 =>
   F_ownW x9.1 (qa a0_n) (qa a2) (qa a3) (qa a4) x9.2 (qa a6) (⟨#[]⟩ : BA) (⟨#[46]⟩ : BA) >>= fun x10 =>
   F_ownW x10.1 (qa a0_n) (qa a2) (qa a3) x10.2 x9.2 (qa a6) (⟨#[]⟩ : BA) a0_n.text >>= fun x11 =>
   F_ownW x11.1 (qa a0_n) (qa a2) (qa a3) x11.2 x9.2 (qa a6) (⟨#[]⟩ : BA) (⟨#[40]⟩ : BA) >>= fun x12 =>
   F_restW x12.1 (qa a0_n) (qa a2) (qa a3) x12.2 x9.2 (qa a6) >>= fun x13 =>
   some (x13.1, x13.2.1, x13.2.2)
  else
   if (decide (a0_n.kind = (22 : Int))) = true then
    F_ownW (qa a0) (qa a0_n) (qa a2) (qa a3) (qa a4) (qa a5) (qa a6) (qa a1) (⟨#[110, 101, 119]⟩ : BA) >>= fun x14 =>
    F_ownW x14.1 (qa a0_n) (qa a2) (qa a3) x14.2 (qa a5) (qa a6) (⟨#[32]⟩ : BA) a0_n.text >>= fun x15 =>
    F_ownW x15.1 (qa a0_n) (qa a2) (qa a3) x15.2 (qa a5) (qa a6) (⟨#[]⟩ : BA) (⟨#[40]⟩ : BA) >>= fun x16 =>
    F_ownW x16.1 (qa a0_n) (qa a2) (qa a3) x16.2 (qa a5) (qa a6) (⟨#[]⟩ : BA) (⟨#[41]⟩ : BA) >>= fun x17 =>
    some (x17.1, x17.2, a5)
   else
    if (decide (a0_n.kind = (24 : Int))) = true then
     F_kidW (qa a0) (qa a0_n) (qa a2) (qa a3) (qa a4) (qa a5) (qa a6) (qa a1) >>= fun x18 =>
     F_ownW x18.1 (qa a0_n) (qa a2) (qa a3) (qa a4) x18.2 (qa a6) (⟨#[32]⟩ : BA) a0_n.text >>= fun x19 =>
     F_kidW x19.1 (qa a0_n) (qa a2) (qa a3) x19.2 x18.2 (qa a6) (⟨#[32]⟩ : BA) >>= fun x20 =>
     some (x20.1, x19.2, x20.2)
    else
     if (decide (a0_n.kind = (25 : Int))) = true then
      F_ownW (qa a0) (qa a0_n) (qa a2) (qa a3) (qa a4) (qa a5) (qa a6) (qa a1) a0_n.text >>= fun x21 =>
      F_kidW x21.1 (qa a0_n) (qa a2) (qa a3) x21.2 (qa a5) (qa a6) (⟨#[]⟩ : BA) >>= fun x22 =>
      some (x22.1, x21.2, x22.2)
     else
      if (decide (a0_n.kind = (26 : Int))) = true then
       F_ownW (qa a0) (qa a0_n) (qa a2) (qa a3) (qa a4) (qa a5) (qa a6) (qa a1) (⟨#[40]⟩ : BA) >>= fun x23 =>
       F_kidW x23.1 (qa a0_n) (qa a2) (qa a3) x23.2 (qa a5) (qa a6) (⟨#[]⟩ : BA) >>= fun x24 =>
       F_ownW x24.1 (qa a0_n) (qa a2) (qa a3) x23.2 x24.2 (qa a6) (⟨#[]⟩ : BA) (⟨#[41]⟩ : BA) >>= fun x25 =>
       some (x25.1, x25.2, x24.2)
      else
       F_ownW (qa a0) (qa a0_n) (qa a2) (qa a3) (qa a4) (qa a5) (qa a6) (qa a1) a0_n.text >>= fun x26 =>
       some (x26.1, x26.2, a5)
 partial_fixpoint
def F_statementW (a0 : LB) (a0_n : Node) (a2 : Int) (a3 : BA) (a4 : LB) (a5 : LN) (a6 : Int) (a1 : BA) : Option (LB × LB × LN) :=
 if (decide (a0_n.kind = (10 : Int))) = true then
  F_namedW (qa a0) (qa a0_n) (qa a2) (qa a3) (qa a4) (qa a5) (qa a6) (qa a1) (⟨#[108, 101, 116]⟩ : BA) >>= fun x27 =>
  some (x27.1, x27.2.1, x27.2.2)
 else
  if (decide (a0_n.kind = (11 : Int))) = true then
   F_ownW (qa a0) (qa a0_n) (qa a2) (qa a3) (qa a4) (qa a5) (qa a6) (qa a1) a0_n.text >>= fun x28 =>
   F_ownW x28.1 (qa a0_n) (qa a2) (qa a3) x28.2 (qa a5) (qa a6) (⟨#[32]⟩ : BA) (⟨#[61]⟩ : BA) >>= fun x29 =>
   F_kidW x29.1 (qa a0_n) (qa a2) (qa a3) x29.2 (qa a5) (qa a6) (⟨#[32]⟩ : BA) >>= fun x30 =>
   F_ownW x30.1 (qa a0_n) (qa a2) (qa a3) x29.2 x30.2 (qa a6) (⟨#[]⟩ : BA) (⟨#[59]⟩ : BA) >>= fun x31 =>
   some (x31.1, x31.2, x30.2)
  else
   if (decide (a0_n.kind = (12 : Int))) = true then
    F_ownW (qa a0) (qa a0_n) (qa a2) (qa a3) (qa a4) (qa a5) (qa a6) (qa a1) (⟨#[114, 101, 116, 117, 114, 110]⟩ : BA) >>= fun x32 =>
    F_kidW x32.1 (qa a0_n) (qa a2) (qa a3) x32.2 (qa a5) (qa a6) (⟨#[32]⟩ : BA) >>= fun x33 =>
    F_ownW x33.1 (qa a0_n) (qa a2) (qa a3) x32.2 x33.2 (qa a6) (⟨#[]⟩ : BA) (⟨#[59]⟩ : BA) >>= fun x34 =>
    some (x34.1, x34.2, x33.2)
   else
    if (decide (a0_n.kind = (13 : Int))) = true then
     if (decide (a0_n.kind = (15 : Int))) = true then
      F_statementW_t53 (qa a1) (⟨#[119, 104, 105, 108, 101]⟩ : BA) (qa a0_n) (qa a2) (qa a3) (qa a4) (qa a5) (qa a6) (qa a0)
     else
      F_statementW_t53 (qa a1) (⟨#[105, 102]⟩ : BA) (qa a0_n) (qa a2) (qa a3) (qa a4) (qa a5) (qa a6) (qa a0)
    else
     if (decide (a0_n.kind = (15 : Int))) = true then
      if (decide (a0_n.kind = (15 : Int))) = true then
       F_statementW_t53 (qa a1) (⟨#[119, 104, 105, 108, 101]⟩ : BA) (qa a0_n) (qa a2) (qa a3) (qa a4) (qa a5) (qa a6) (qa a0)
      else
       F_statementW_t53 (qa a1) (⟨#[105, 102]⟩ : BA) (qa a0_n) (qa a2) (qa a3) (qa a4) (qa a5) (qa a6) (qa a0)
     else
      F_kidW (qa a0) (qa a0_n) (qa a2) (qa a3) (qa a4) (qa a5) (qa a6) (qa a1) >>= fun x35 =>
      F_ownW x35.1 (qa a0_n) (qa a2) (qa a3) (qa a4) x35.2 (qa a6) (⟨#[]⟩ : BA) (⟨#[59]⟩ : BA) >>= fun x36 =>
      some (x36.1, x36.2, x35.2)
 partial_fixpoint
def F_otherW (a0 : LB) (a0_n : Node) (a2 : Int) (a3 : BA) (a4 : LB) (a5 : LN) (a6 : Int) (a1 : BA) : Option (LB × LB × LN × Int) :=
 if (decide (a0_n.kind = (1 : Int))) = true then
  F_otherW_l0 a0_n.kids 0 (qa a1) (qa a0_n) (qa a2) (qa a3) (qa a4) (qa a5) (qa a6) (qa a0)
 else
  if (decide (a0_n.kind = (2 : Int))) = true then
   F_ownW (qa a0) (qa a0_n) (qa a2) (qa a3) (qa a4) (qa a5) (qa a6) (qa a1) (⟨#[102, 110]⟩ : BA) >>= fun x37 =>
   F_ownW x37.1 (qa a0_n) (qa a2) (qa a3) x37.2 (qa a5) (qa a6) (⟨#[32]⟩ : BA) a0_n.text >>= fun x38 =>
   F_kidW x38.1 (qa a0_n) (qa a2) (qa a3) x38.2 (qa a5) (qa a6) (⟨#[]⟩ : BA) >>= fun x39 =>
   F_kidW x39.1 (qa a0_n) (qa a2) (qa a3) x38.2 x39.2 (qa a6) (⟨#[32]⟩ : BA) >>= fun x40 =>
   F_kidW x40.1 (qa a0_n) (qa a2) (qa a3) x38.2 x40.2 (qa a6) (⟨#[32]⟩ : BA) >>= fun x41 =>
   some (x41.1, x38.2, x41.2, a6)
  else
   if (decide (a0_n.kind = (3 : Int))) = true then
    F_ownW (qa a0) (qa a0_n) (qa a2) (qa a3) (qa a4) (qa a5) (qa a6) (qa a1) (⟨#[40]⟩ : BA) >>= fun x42 =>
    F_restW x42.1 (qa a0_n) (qa a2) (qa a3) x42.2 (qa a5) (qa a6) >>= fun x43 =>
    some (x43.1, x43.2.1, x43.2.2, a6)
   else
    if (decide (a0_n.kind = (4 : Int))) = true then
     F_ownW (qa a0) (qa a0_n) (qa a2) (qa a3) (qa a4) (qa a5) (qa a6) (qa a1) a0_n.text >>= fun x44 =>
     F_kidW x44.1 (qa a0_n) (qa a2) (qa a3) x44.2 (qa a5) (qa a6) (⟨#[32]⟩ : BA) >>= fun x45 =>
     some (x45.1, x44.2, x45.2, a6)
    else
     if (decide (a0_n.kind = (5 : Int))) = true then
      F_ownW (qa a0) (qa a0_n) (qa a2) (qa a3) (qa a4) (qa a5) (qa a6) (qa a1) a0_n.text >>= fun x46 =>
      some (x46.1, x46.2, a5, a6)
     else
      if (decide (a0_n.kind = (6 : Int))) = true then
       F_ownW (qa a0) (qa a0_n) (qa a2) (qa a3) (qa a4) (qa a5) (qa a6) (qa a1) (⟨#[123]⟩ : BA) >>= fun x47 =>
       F_bodyW x47.1 (qa a0_n) (qa a2) (qa a3) x47.2 (qa a5) (qa a6) (0 : Int) >>= fun x48 =>
       some (x48.1, x48.2.1, x48.2.2.1, x48.2.2.2)
      else
       if (decide (a0_n.kind = (7 : Int))) = true then
        F_ownW (qa a0) (qa a0_n) (qa a2) (qa a3) (qa a4) (qa a5) (qa a6) (qa a1) (⟨#[99, 108, 97, 115, 115]⟩ : BA) >>= fun x49 =>
        F_ownW x49.1 (qa a0_n) (qa a2) (qa a3) x49.2 (qa a5) (qa a6) (⟨#[32]⟩ : BA) a0_n.text >>= fun x50 =>
        F_kidW x50.1 (qa a0_n) (qa a2) (qa a3) x50.2 (qa a5) (qa a6) (⟨#[32]⟩ : BA) >>= fun x51 =>
        F_ownW x51.1 (qa a0_n) (qa a2) (qa a3) x50.2 x51.2 (qa a6) (⟨#[32]⟩ : BA) (⟨#[123]⟩ : BA) >>= fun x52 =>
        F_bodyW x52.1 (qa a0_n) (qa a2) (qa a3) x52.2 x51.2 (qa a6) (1 : Int) >>= fun x53 =>
        some (x53.1, x53.2.1, x53.2.2.1, x53.2.2.2)
       else
        if (decide (a0_n.kind = (8 : Int))) = true then
         if (!decide (a0_n.text = (⟨#[]⟩ : BA))) = true then
          F_ownW (qa a0) (qa a0_n) (qa a2) (qa a3) (qa a4) (qa a5) (qa a6) (qa a1) (⟨#[58]⟩ : BA) >>= fun x54 =>
          F_ownW x54.1 (qa a0_n) (qa a2) (qa a3) x54.2 (qa a5) (qa a6) (⟨#[32]⟩ : BA) a0_n.text >>= fun x55 =>
          some (x55.1, x55.2, a5, a6)
         else
          some (a0, a4, a5, a6)
        else
         if (decide (a0_n.kind = (9 : Int))) = true then
          F_namedW (qa a0) (qa a0_n) (qa a2) (qa a3) (qa a4) (qa a5) (qa a6) (qa a1) (⟨#[99, 111, 110, 115, 116]⟩ : BA) >>= fun x56 =>
          some (x56.1, x56.2.1, x56.2.2, a6)
         else
          if (decide (a0_n.kind = (14 : Int))) = true then
           if (decide ((0 : Int) < ((a0_n.kids.map Node.cells).length : Int))) = true then
            F_ownW (qa a0) (qa a0_n) (qa a2) (qa a3) (qa a4) (qa a5) (qa a6) (qa a1) (⟨#[101, 108, 115, 101]⟩ : BA) >>= fun x57 =>
            F_kidW x57.1 (qa a0_n) (qa a2) (qa a3) x57.2 (qa a5) (qa a6) (⟨#[32]⟩ : BA) >>= fun x58 =>
            some (x58.1, x57.2, x58.2, a6)
           else
            some (a0, a4, a5, a6)
          else
           some (a0, a4, a5, a6)
 partial_fixpoint
def F_restW (a0 : LB) (a0_n : Node) (a1 : Int) (a2 : BA) (a3 : LB) (a4 : LN) (a5 : Int) : Option (LB × LB × LN) :=
 F_restW_l0 (qa true) (qa a0_n) (qa a1) (qa a2) (qa a3) (qa a4) (qa a5) (qa a0)
 partial_fixpoint
def F_kidW (a0 : LB) (a0_n : Node) (a2 : Int) (a3 : BA) (a4 : LB) (a5 : LN) (a6 : Int) (a1 : BA) : Option (LB × LN) :=
 ix a0_n.kids (a5.length : Int) >>= fun x59 =>
 F_nodeW (qa a0) (qa x59) (qa a1) (qa a6) >>= fun x60 =>
 app 72 a5 [x60.1] >>= fun x61 =>
 some (x60.2, x61)
 partial_fixpoint
def F_namedW (a0 : LB) (a0_n : Node) (a3 : Int) (a4 : BA) (a5 : LB) (a6 : LN) (a7 : Int) (a1 : BA) (a2 : BA) : Option (LB × LB × LN) :=
 F_ownW (qa a0) (qa a0_n) (qa a3) (qa a4) (qa a5) (qa a6) (qa a7) (qa a1) (qa a2) >>= fun x62 =>
 F_ownW x62.1 (qa a0_n) (qa a3) (qa a4) x62.2 (qa a6) (qa a7) (⟨#[32]⟩ : BA) a0_n.text >>= fun x63 =>
 F_ownW x63.1 (qa a0_n) (qa a3) (qa a4) x63.2 (qa a6) (qa a7) (⟨#[32]⟩ : BA) (⟨#[61]⟩ : BA) >>= fun x64 =>
 F_kidW x64.1 (qa a0_n) (qa a3) (qa a4) x64.2 (qa a6) (qa a7) (⟨#[32]⟩ : BA) >>= fun x65 =>
 F_ownW x65.1 (qa a0_n) (qa a3) (qa a4) x64.2 x65.2 (qa a7) (⟨#[]⟩ : BA) (⟨#[59]⟩ : BA) >>= fun x66 =>
 some (x66.1, x66.2, x65.2)
 partial_fixpoint
def F_bodyW (a0 : LB) (a0_n : Node) (a2 : Int) (a3 : BA) (a4 : LB) (a5 : LN) (a6 : Int) (a1 : Int) : Option (LB × LB × LN × Int) :=
 F_bodyW_l0 (qa a1) (qa a0_n) (qa a2) (qa a3) (qa a4) (qa a5) (IntKind.i64.wrap (a6 + (1 : Int))) (qa a0)
 partial_fixpoint
def F_statementW_t53 (t1 : BA) (t4 : BA) (o0_1 : Node) (a0 : Int) (a1 : BA) (a2 : LB) (a3 : LN) (o0_3 : Int) (o2 : LB) : Option (LB × LB × LN) :=
 F_ownW (qa o2) (qa o0_1) (qa a0) (qa a1) (qa a2) (qa a3) (qa o0_3) (qa t1) (qa t4) >>= fun x67 =>
 F_statementW_l0 o0_1.kids (qa o0_1) (qa a0) (qa a1) x67.2 (qa a3) (qa o0_3) x67.1
 partial_fixpoint
def F_otherW_l0 (a0 : LN) (j0 : Nat) (t1 : BA) (o0_1 : Node) (a1 : Int) (a2 : BA) (a3 : LB) (a4 : LN) (o0_3 : Int) (o2 : LB) : Option (LB × LB × LN × Int) :=
 match a0 with
 | [] =>
   if (decide ((0 : Int) < ((o0_1.kids.map Node.cells).length : Int))) = true then
    F_otherW_t33 (⟨#[10]⟩ : BA) (qa o0_1) (qa a1) (qa a2) (qa a3) (qa a4) (qa o0_3) (qa o2)
   else
    F_otherW_t33 (qa t1) (qa o0_1) (qa a1) (qa a2) (qa a3) (qa a4) (qa o0_3) (qa o2)
 | x_0 :: a0 =>
   if (decide ((0 : Int) < ((j0 : Nat) : Int))) = true then
    F_otherW_t22 (qa a0) (qa j0) (⟨#[10, 10]⟩ : BA) (qa o0_1) (qa a1) (qa a2) (qa a3) (qa a4) (qa o0_3) (qa o2)
   else
    F_otherW_t22 (qa a0) (qa j0) (qa t1) (qa o0_1) (qa a1) (qa a2) (qa a3) (qa a4) (qa o0_3) (qa o2)
 partial_fixpoint
def F_restW_l0 (t2 : Bool) (o0_1 : Node) (a0 : Int) (a1 : BA) (a2 : LB) (a3 : LN) (o0_3 : Int) (o2 : LB) : Option (LB × LB × LN) :=
 if (decide ((a3.length : Int) < ((o0_1.kids.map Node.cells).length : Int))) = true then
  if t2 = true then
   F_kidW (qa o2) (qa o0_1) (qa a0) (qa a1) (qa a2) (qa a3) (qa o0_3) (⟨#[]⟩ : BA) >>= fun x68 =>
   F_restW_b1 (qa o0_1) (qa a0) (qa a1) (qa a2) x68.2 (qa o0_3) x68.1
  else
   F_ownW (qa o2) (qa o0_1) (qa a0) (qa a1) (qa a2) (qa a3) (qa o0_3) (⟨#[]⟩ : BA) (⟨#[44]⟩ : BA) >>= fun x69 =>
   F_kidW x69.1 (qa o0_1) (qa a0) (qa a1) x69.2 (qa a3) (qa o0_3) (⟨#[32]⟩ : BA) >>= fun x70 =>
   F_restW_b1 (qa o0_1) (qa a0) (qa a1) x69.2 x70.2 (qa o0_3) x70.1
 else
  F_ownW (qa o2) (qa o0_1) (qa a0) (qa a1) (qa a2) (qa a3) (qa o0_3) (⟨#[]⟩ : BA) (⟨#[41]⟩ : BA) >>= fun x71 =>
  some (x71.1, x71.2, a3)
 partial_fixpoint
def F_bodyW_l0 (t1 : Int) (o0_1 : Node) (a0 : Int) (a1 : BA) (a2 : LB) (a3 : LN) (o0_3 : Int) (o2 : LB) : Option (LB × LB × LN × Int) :=
 if (decide ((a3.length : Int) < ((o0_1.kids.map Node.cells).length : Int))) = true then
  F_print_line (qa o0_3) >>= fun x72 =>
  F_kidW (qa o2) (qa o0_1) (qa a0) (qa a1) (qa a2) (qa a3) (qa o0_3) (qa x72) >>= fun x73 =>
  F_bodyW_l0 (qa t1) (qa o0_1) (qa a0) (qa a1) (qa a2) x73.2 (qa o0_3) x73.1
 else
  if (decide (t1 < ((o0_1.kids.map Node.cells).length : Int))) = true then
   F_print_line (IntKind.i64.wrap (o0_3 - (1 : Int))) >>= fun x74 =>
   F_ownW (qa o2) (qa o0_1) (qa a0) (qa a1) (qa a2) (qa a3) (IntKind.i64.wrap (o0_3 - (1 : Int))) (qa x74) (⟨#[125]⟩ : BA) >>= fun x75 =>
   some (x75.1, x75.2, a3, (IntKind.i64.wrap (o0_3 - (1 : Int))))
  else
   F_ownW (qa o2) (qa o0_1) (qa a0) (qa a1) (qa a2) (qa a3) (IntKind.i64.wrap (o0_3 - (1 : Int))) (⟨#[]⟩ : BA) (⟨#[125]⟩ : BA) >>= fun x76 =>
   some (x76.1, x76.2, a3, (IntKind.i64.wrap (o0_3 - (1 : Int))))
 partial_fixpoint
def F_statementW_l0 (a0 : LN) (o0_1 : Node) (a1 : Int) (a2 : BA) (a3 : LB) (a4 : LN) (o0_3 : Int) (o2 : LB) : Option (LB × LB × LN) :=
 match a0 with
 | [] =>
   some (o2, a3, a4)
 | x_0 :: a0 =>
   F_kidW (qa o2) (qa o0_1) (qa a1) (qa a2) (qa a3) (qa a4) (qa o0_3) (⟨#[32]⟩ : BA) >>= fun x77 =>
   F_statementW_l0 (qa a0) (qa o0_1) (qa a1) (qa a2) (qa a3) x77.2 (qa o0_3) x77.1
 partial_fixpoint
def F_otherW_t22 (a0 : LN) (j0 : Nat) (t1 : BA) (o0_1 : Node) (a1 : Int) (a2 : BA) (a3 : LB) (a4 : LN) (o0_3 : Int) (o2 : LB) : Option (LB × LB × LN × Int) :=
 F_kidW (qa o2) (qa o0_1) (qa a1) (qa a2) (qa a3) (qa a4) (qa o0_3) (qa t1) >>= fun x79 =>
 F_otherW_l0 (qa a0) (j0 + 1) (qa t1) (qa o0_1) (qa a1) (qa a2) (qa a3) x79.2 (qa o0_3) x79.1
 partial_fixpoint
def F_restW_b1 (o0_1 : Node) (a0 : Int) (a1 : BA) (a2 : LB) (a3 : LN) (o0_3 : Int) (o2 : LB) : Option (LB × LB × LN) :=
 F_restW_l0 (qa false) (qa o0_1) (qa a0) (qa a1) (qa a2) (qa a3) (qa o0_3) (qa o2)
 partial_fixpoint
end
@[reducible] def M_F_nodeW (a0 : LB) (a1 : Node) (a2 : BA) (a3 : Int) (r : Node × LB) : Prop :=
  AC Tryz.prog G 16 [(.ptr 0 0 0), (.agg (zo a1)), (.str a2), (.int .i64 a3)] 3 [(0, .var 42 [(.fn 15 [(.ptr 1 1 0)])]), (1, .var 22 [(.bs 1 2 2 0 a0.length)]), (2, .row 9 (a0.map sc).flatten)] (.agg (zo r.1)) 4 [(0, .var 42 [(.fn 15 [(.ptr 1 1 0)])]), (1, .var 22 [(.bs 1 2 3 0 r.2.length)]), (3, .row 9 (r.2.map sc).flatten)]
@[reducible] def M_F_expressionW (a0 : LB) (a0_n : Node) (a2 : Int) (a3 : BA) (a4 : LB) (a5 : LN) (a6 : Int) (a1 : BA) (r : LB × LB × LN) : Prop :=
  AC Tryz.prog G 34 [(.ptr 0 0 0), (.str a1)] 6 [(0, .var 67 [(.ptr 1 1 0), (.int .i64 a0_n.kind), (.str a0_n.text), (.sl 1 false (a0_n.gaps.map sc)), (.sl 4 false (a0_n.kids.map Node.cells)), (.int .i64 a2), (.str a3), (.bs 1 4 4 0 a4.length), (.bs 4 5 5 0 a5.length), (.int .i64 a6)]), (1, .var 42 [(.fn 15 [(.ptr 2 2 0)])]), (2, .var 22 [(.bs 1 3 3 0 a0.length)]), (3, .row 9 (a0.map sc).flatten), (4, .row 9 (a4.map sc).flatten), (5, .row 25 (a5.map Node.cells).flatten)] (.tup []) 9 [(0, .var 67 [(.ptr 1 1 0), (.int .i64 a0_n.kind), (.str a0_n.text), (.sl 1 false (a0_n.gaps.map sc)), (.sl 4 false (a0_n.kids.map Node.cells)), (.int .i64 a2), (.str a3), (.bs 1 4 7 0 r.2.1.length), (.bs 4 5 8 0 r.2.2.length), (.int .i64 a6)]), (1, .var 42 [(.fn 15 [(.ptr 2 2 0)])]), (2, .var 22 [(.bs 1 3 6 0 r.1.length)]), (6, .row 9 (r.1.map sc).flatten), (7, .row 9 (r.2.1.map sc).flatten), (8, .row 25 (r.2.2.map Node.cells).flatten)]
@[reducible] def M_F_statementW (a0 : LB) (a0_n : Node) (a2 : Int) (a3 : BA) (a4 : LB) (a5 : LN) (a6 : Int) (a1 : BA) (r : LB × LB × LN) : Prop :=
  AC Tryz.prog G 35 [(.ptr 0 0 0), (.str a1)] 6 [(0, .var 67 [(.ptr 1 1 0), (.int .i64 a0_n.kind), (.str a0_n.text), (.sl 1 false (a0_n.gaps.map sc)), (.sl 4 false (a0_n.kids.map Node.cells)), (.int .i64 a2), (.str a3), (.bs 1 4 4 0 a4.length), (.bs 4 5 5 0 a5.length), (.int .i64 a6)]), (1, .var 42 [(.fn 15 [(.ptr 2 2 0)])]), (2, .var 22 [(.bs 1 3 3 0 a0.length)]), (3, .row 9 (a0.map sc).flatten), (4, .row 9 (a4.map sc).flatten), (5, .row 25 (a5.map Node.cells).flatten)] (.tup []) 9 [(0, .var 67 [(.ptr 1 1 0), (.int .i64 a0_n.kind), (.str a0_n.text), (.sl 1 false (a0_n.gaps.map sc)), (.sl 4 false (a0_n.kids.map Node.cells)), (.int .i64 a2), (.str a3), (.bs 1 4 7 0 r.2.1.length), (.bs 4 5 8 0 r.2.2.length), (.int .i64 a6)]), (1, .var 42 [(.fn 15 [(.ptr 2 2 0)])]), (2, .var 22 [(.bs 1 3 6 0 r.1.length)]), (6, .row 9 (r.1.map sc).flatten), (7, .row 9 (r.2.1.map sc).flatten), (8, .row 25 (r.2.2.map Node.cells).flatten)]
@[reducible] def M_F_otherW (a0 : LB) (a0_n : Node) (a2 : Int) (a3 : BA) (a4 : LB) (a5 : LN) (a6 : Int) (a1 : BA) (r : LB × LB × LN × Int) : Prop :=
  AC Tryz.prog G 36 [(.ptr 0 0 0), (.str a1)] 6 [(0, .var 67 [(.ptr 1 1 0), (.int .i64 a0_n.kind), (.str a0_n.text), (.sl 1 false (a0_n.gaps.map sc)), (.sl 4 false (a0_n.kids.map Node.cells)), (.int .i64 a2), (.str a3), (.bs 1 4 4 0 a4.length), (.bs 4 5 5 0 a5.length), (.int .i64 a6)]), (1, .var 42 [(.fn 15 [(.ptr 2 2 0)])]), (2, .var 22 [(.bs 1 3 3 0 a0.length)]), (3, .row 9 (a0.map sc).flatten), (4, .row 9 (a4.map sc).flatten), (5, .row 25 (a5.map Node.cells).flatten)] (.tup []) 9 [(0, .var 67 [(.ptr 1 1 0), (.int .i64 a0_n.kind), (.str a0_n.text), (.sl 1 false (a0_n.gaps.map sc)), (.sl 4 false (a0_n.kids.map Node.cells)), (.int .i64 a2), (.str a3), (.bs 1 4 7 0 r.2.1.length), (.bs 4 5 8 0 r.2.2.1.length), (.int .i64 r.2.2.2)]), (1, .var 42 [(.fn 15 [(.ptr 2 2 0)])]), (2, .var 22 [(.bs 1 3 6 0 r.1.length)]), (6, .row 9 (r.1.map sc).flatten), (7, .row 9 (r.2.1.map sc).flatten), (8, .row 25 (r.2.2.1.map Node.cells).flatten)]
@[reducible] def M_F_restW (a0 : LB) (a0_n : Node) (a1 : Int) (a2 : BA) (a3 : LB) (a4 : LN) (a5 : Int) (r : LB × LB × LN) : Prop :=
  AC Tryz.prog G 53 [(.ptr 0 0 0)] 6 [(0, .var 67 [(.ptr 1 1 0), (.int .i64 a0_n.kind), (.str a0_n.text), (.sl 1 false (a0_n.gaps.map sc)), (.sl 4 false (a0_n.kids.map Node.cells)), (.int .i64 a1), (.str a2), (.bs 1 4 4 0 a3.length), (.bs 4 5 5 0 a4.length), (.int .i64 a5)]), (1, .var 42 [(.fn 15 [(.ptr 2 2 0)])]), (2, .var 22 [(.bs 1 3 3 0 a0.length)]), (3, .row 9 (a0.map sc).flatten), (4, .row 9 (a3.map sc).flatten), (5, .row 25 (a4.map Node.cells).flatten)] (.tup []) 9 [(0, .var 67 [(.ptr 1 1 0), (.int .i64 a0_n.kind), (.str a0_n.text), (.sl 1 false (a0_n.gaps.map sc)), (.sl 4 false (a0_n.kids.map Node.cells)), (.int .i64 a1), (.str a2), (.bs 1 4 7 0 r.2.1.length), (.bs 4 5 8 0 r.2.2.length), (.int .i64 a5)]), (1, .var 42 [(.fn 15 [(.ptr 2 2 0)])]), (2, .var 22 [(.bs 1 3 6 0 r.1.length)]), (6, .row 9 (r.1.map sc).flatten), (7, .row 9 (r.2.1.map sc).flatten), (8, .row 25 (r.2.2.map Node.cells).flatten)]
@[reducible] def M_F_kidW (a0 : LB) (a0_n : Node) (a2 : Int) (a3 : BA) (a4 : LB) (a5 : LN) (a6 : Int) (a1 : BA) (r : LB × LN) : Prop :=
  AC Tryz.prog G 54 [(.ptr 0 0 0), (.str a1)] 6 [(0, .var 67 [(.ptr 1 1 0), (.int .i64 a0_n.kind), (.str a0_n.text), (.sl 1 false (a0_n.gaps.map sc)), (.sl 4 false (a0_n.kids.map Node.cells)), (.int .i64 a2), (.str a3), (.bs 1 4 4 0 a4.length), (.bs 4 5 5 0 a5.length), (.int .i64 a6)]), (1, .var 42 [(.fn 15 [(.ptr 2 2 0)])]), (2, .var 22 [(.bs 1 3 3 0 a0.length)]), (3, .row 9 (a0.map sc).flatten), (4, .row 9 (a4.map sc).flatten), (5, .row 25 (a5.map Node.cells).flatten)] (.tup []) 8 [(0, .var 67 [(.ptr 1 1 0), (.int .i64 a0_n.kind), (.str a0_n.text), (.sl 1 false (a0_n.gaps.map sc)), (.sl 4 false (a0_n.kids.map Node.cells)), (.int .i64 a2), (.str a3), (.bs 1 4 4 0 a4.length), (.bs 4 5 7 0 r.2.length), (.int .i64 a6)]), (1, .var 42 [(.fn 15 [(.ptr 2 2 0)])]), (2, .var 22 [(.bs 1 3 6 0 r.1.length)]), (6, .row 9 (r.1.map sc).flatten), (4, .row 9 (a4.map sc).flatten), (7, .row 25 (r.2.map Node.cells).flatten)]
@[reducible] def M_F_namedW (a0 : LB) (a0_n : Node) (a3 : Int) (a4 : BA) (a5 : LB) (a6 : LN) (a7 : Int) (a1 : BA) (a2 : BA) (r : LB × LB × LN) : Prop :=
  AC Tryz.prog G 55 [(.ptr 0 0 0), (.str a1), (.str a2)] 6 [(0, .var 67 [(.ptr 1 1 0), (.int .i64 a0_n.kind), (.str a0_n.text), (.sl 1 false (a0_n.gaps.map sc)), (.sl 4 false (a0_n.kids.map Node.cells)), (.int .i64 a3), (.str a4), (.bs 1 4 4 0 a5.length), (.bs 4 5 5 0 a6.length), (.int .i64 a7)]), (1, .var 42 [(.fn 15 [(.ptr 2 2 0)])]), (2, .var 22 [(.bs 1 3 3 0 a0.length)]), (3, .row 9 (a0.map sc).flatten), (4, .row 9 (a5.map sc).flatten), (5, .row 25 (a6.map Node.cells).flatten)] (.tup []) 9 [(0, .var 67 [(.ptr 1 1 0), (.int .i64 a0_n.kind), (.str a0_n.text), (.sl 1 false (a0_n.gaps.map sc)), (.sl 4 false (a0_n.kids.map Node.cells)), (.int .i64 a3), (.str a4), (.bs 1 4 7 0 r.2.1.length), (.bs 4 5 8 0 r.2.2.length), (.int .i64 a7)]), (1, .var 42 [(.fn 15 [(.ptr 2 2 0)])]), (2, .var 22 [(.bs 1 3 6 0 r.1.length)]), (6, .row 9 (r.1.map sc).flatten), (7, .row 9 (r.2.1.map sc).flatten), (8, .row 25 (r.2.2.map Node.cells).flatten)]
@[reducible] def M_F_bodyW (a0 : LB) (a0_n : Node) (a2 : Int) (a3 : BA) (a4 : LB) (a5 : LN) (a6 : Int) (a1 : Int) (r : LB × LB × LN × Int) : Prop :=
  AC Tryz.prog G 56 [(.ptr 0 0 0), (.int .i64 a1)] 6 [(0, .var 67 [(.ptr 1 1 0), (.int .i64 a0_n.kind), (.str a0_n.text), (.sl 1 false (a0_n.gaps.map sc)), (.sl 4 false (a0_n.kids.map Node.cells)), (.int .i64 a2), (.str a3), (.bs 1 4 4 0 a4.length), (.bs 4 5 5 0 a5.length), (.int .i64 a6)]), (1, .var 42 [(.fn 15 [(.ptr 2 2 0)])]), (2, .var 22 [(.bs 1 3 3 0 a0.length)]), (3, .row 9 (a0.map sc).flatten), (4, .row 9 (a4.map sc).flatten), (5, .row 25 (a5.map Node.cells).flatten)] (.tup []) 9 [(0, .var 67 [(.ptr 1 1 0), (.int .i64 a0_n.kind), (.str a0_n.text), (.sl 1 false (a0_n.gaps.map sc)), (.sl 4 false (a0_n.kids.map Node.cells)), (.int .i64 a2), (.str a3), (.bs 1 4 7 0 r.2.1.length), (.bs 4 5 8 0 r.2.2.1.length), (.int .i64 r.2.2.2)]), (1, .var 42 [(.fn 15 [(.ptr 2 2 0)])]), (2, .var 22 [(.bs 1 3 6 0 r.1.length)]), (6, .row 9 (r.1.map sc).flatten), (7, .row 9 (r.2.1.map sc).flatten), (8, .row 25 (r.2.2.1.map Node.cells).flatten)]
@[reducible] def M_F_statementW_t53 (t1 : BA) (t4 : BA) (o0_1 : Node) (a0 : Int) (a1 : BA) (a2 : LB) (a3 : LN) (o0_3 : Int) (o2 : LB) (r : LB × LB × LN) : Prop :=
  Ok Tryz.prog G tt 69 6 (Ret Tryz.prog [] (fun y H => yb Tryz.prog G 6 H y (.tup []) ⟨9, [(0, .var 67 [(.ptr 1 1 0), (.int .i64 o0_1.kind), (.str o0_1.text), (.sl 1 false (o0_1.gaps.map sc)), (.sl 4 false (o0_1.kids.map Node.cells)), (.int .i64 a0), (.str a1), (.bs 1 4 7 0 r.2.1.length), (.bs 4 5 8 0 r.2.2.length), (.int .i64 o0_3)]), (1, .var 42 [(.fn 15 [(.ptr 2 2 0)])]), (2, .var 22 [(.bs 1 3 6 0 r.1.length)]), (6, .row 9 (r.1.map sc).flatten), (7, .row 9 (r.2.1.map sc).flatten), (8, .row 25 (r.2.2.map Node.cells).flatten)]⟩)) (.go [] (yo [53] Tryz.f35 53) [] (.n (.ptr 0 0 0) (.n (.str t1) .z .z) (.n .undef (.n (.str t4) .z .z) .z)) 9 [(0, .var 67 [(.ptr 1 1 0), (.int .i64 o0_1.kind), (.str o0_1.text), (.sl 1 false (o0_1.gaps.map sc)), (.sl 4 false (o0_1.kids.map Node.cells)), (.int .i64 a0), (.str a1), (.bs 1 4 7 0 a2.length), (.bs 4 5 8 0 a3.length), (.int .i64 o0_3)]), (1, .var 42 [(.fn 15 [(.ptr 2 2 0)])]), (2, .var 22 [(.bs 1 3 6 0 o2.length)]), (6, .row 9 (o2.map sc).flatten), (7, .row 9 (a2.map sc).flatten), (8, .row 25 (a3.map Node.cells).flatten)])
@[reducible] def M_F_otherW_l0 (a0 : LN) (j0 : Nat) (t1 : BA) (o0_1 : Node) (a1 : Int) (a2 : BA) (a3 : LB) (a4 : LN) (o0_3 : Int) (o2 : LB) (r : LB × LB × LN × Int) : Prop :=
  ∀ (l0 : LN), l0.drop j0 = a0 → j0 ≤ l0.length → l0.length ≤ 9223372036854775807 → Ok Tryz.prog G tt 146 6 (Ret Tryz.prog [] (fun y H => yb Tryz.prog G 6 H y (.tup []) ⟨9, [(0, .var 67 [(.ptr 1 1 0), (.int .i64 o0_1.kind), (.str o0_1.text), (.sl 1 false (o0_1.gaps.map sc)), (.sl 4 false (o0_1.kids.map Node.cells)), (.int .i64 a1), (.str a2), (.bs 1 4 7 0 r.2.1.length), (.bs 4 5 8 0 r.2.2.1.length), (.int .i64 r.2.2.2)]), (1, .var 42 [(.fn 15 [(.ptr 2 2 0)])]), (2, .var 22 [(.bs 1 3 6 0 r.1.length)]), (6, .row 9 (r.1.map sc).flatten), (7, .row 9 (r.2.1.map sc).flatten), (8, .row 25 (r.2.2.1.map Node.cells).flatten)]⟩)) (.again (jq [22, 33] Tryz.f36 0).1 (jq [22, 33] Tryz.f36 0).2 (.n (.ptr 0 0 0) (.n (.str t1) .z (.n .undef (.n .undef (.n (.int .i64 ((l0.map Node.cells).length : Int)) .z .z) .z) .z)) (.n .undef (.n .undef (.n .undef (.n (.sl 4 false (l0.map Node.cells)) .z .z) .z) .z) (.n .undef (.n .undef (.n (.int .i64 ((j0 : Nat) : Int)) .z .z) .z) .z))) 9 [(0, .var 67 [(.ptr 1 1 0), (.int .i64 o0_1.kind), (.str o0_1.text), (.sl 1 false (o0_1.gaps.map sc)), (.sl 4 false (o0_1.kids.map Node.cells)), (.int .i64 a1), (.str a2), (.bs 1 4 7 0 a3.length), (.bs 4 5 8 0 a4.length), (.int .i64 o0_3)]), (1, .var 42 [(.fn 15 [(.ptr 2 2 0)])]), (2, .var 22 [(.bs 1 3 6 0 o2.length)]), (6, .row 9 (o2.map sc).flatten), (7, .row 9 (a3.map sc).flatten), (8, .row 25 (a4.map Node.cells).flatten)])
@[reducible] def M_F_restW_l0 (t2 : Bool) (o0_1 : Node) (a0 : Int) (a1 : BA) (a2 : LB) (a3 : LN) (o0_3 : Int) (o2 : LB) (r : LB × LB × LN) : Prop :=
  Ok Tryz.prog G tt 25 6 (Ret Tryz.prog [] (fun y H => yb Tryz.prog G 6 H y (.tup []) ⟨9, [(0, .var 67 [(.ptr 1 1 0), (.int .i64 o0_1.kind), (.str o0_1.text), (.sl 1 false (o0_1.gaps.map sc)), (.sl 4 false (o0_1.kids.map Node.cells)), (.int .i64 a0), (.str a1), (.bs 1 4 7 0 r.2.1.length), (.bs 4 5 8 0 r.2.2.length), (.int .i64 o0_3)]), (1, .var 42 [(.fn 15 [(.ptr 2 2 0)])]), (2, .var 22 [(.bs 1 3 6 0 r.1.length)]), (6, .row 9 (r.1.map sc).flatten), (7, .row 9 (r.2.1.map sc).flatten), (8, .row 25 (r.2.2.map Node.cells).flatten)]⟩)) (.again (jq [1000001] Tryz.f53 0).1 (jq [1000001] Tryz.f53 0).2 (.n (.ptr 0 0 0) .z (.n (.bool t2) .z .z)) 9 [(0, .var 67 [(.ptr 1 1 0), (.int .i64 o0_1.kind), (.str o0_1.text), (.sl 1 false (o0_1.gaps.map sc)), (.sl 4 false (o0_1.kids.map Node.cells)), (.int .i64 a0), (.str a1), (.bs 1 4 7 0 a2.length), (.bs 4 5 8 0 a3.length), (.int .i64 o0_3)]), (1, .var 42 [(.fn 15 [(.ptr 2 2 0)])]), (2, .var 22 [(.bs 1 3 6 0 o2.length)]), (6, .row 9 (o2.map sc).flatten), (7, .row 9 (a2.map sc).flatten), (8, .row 25 (a3.map Node.cells).flatten)])
@[reducible] def M_F_bodyW_l0 (t1 : Int) (o0_1 : Node) (a0 : Int) (a1 : BA) (a2 : LB) (a3 : LN) (o0_3 : Int) (o2 : LB) (r : LB × LB × LN × Int) : Prop :=
  Ok Tryz.prog G tt 55 6 (Ret Tryz.prog [] (fun y H => yb Tryz.prog G 6 H y (.tup []) ⟨9, [(0, .var 67 [(.ptr 1 1 0), (.int .i64 o0_1.kind), (.str o0_1.text), (.sl 1 false (o0_1.gaps.map sc)), (.sl 4 false (o0_1.kids.map Node.cells)), (.int .i64 a0), (.str a1), (.bs 1 4 7 0 r.2.1.length), (.bs 4 5 8 0 r.2.2.1.length), (.int .i64 r.2.2.2)]), (1, .var 42 [(.fn 15 [(.ptr 2 2 0)])]), (2, .var 22 [(.bs 1 3 6 0 r.1.length)]), (6, .row 9 (r.1.map sc).flatten), (7, .row 9 (r.2.1.map sc).flatten), (8, .row 25 (r.2.2.1.map Node.cells).flatten)]⟩)) (.again (jq [] Tryz.f56 0).1 (jq [] Tryz.f56 0).2 (.n (.ptr 0 0 0) (.n (.int .i64 t1) .z .z) .z) 9 [(0, .var 67 [(.ptr 1 1 0), (.int .i64 o0_1.kind), (.str o0_1.text), (.sl 1 false (o0_1.gaps.map sc)), (.sl 4 false (o0_1.kids.map Node.cells)), (.int .i64 a0), (.str a1), (.bs 1 4 7 0 a2.length), (.bs 4 5 8 0 a3.length), (.int .i64 o0_3)]), (1, .var 42 [(.fn 15 [(.ptr 2 2 0)])]), (2, .var 22 [(.bs 1 3 6 0 o2.length)]), (6, .row 9 (o2.map sc).flatten), (7, .row 9 (a2.map sc).flatten), (8, .row 25 (a3.map Node.cells).flatten)])
@[reducible] def M_F_statementW_l0 (a0 : LN) (o0_1 : Node) (a1 : Int) (a2 : BA) (a3 : LB) (a4 : LN) (o0_3 : Int) (o2 : LB) (r : LB × LB × LN) : Prop :=
  ∀ (l0 : LN) (j0 : Nat), l0.drop j0 = a0 → j0 ≤ l0.length → l0.length ≤ 9223372036854775807 → Ok Tryz.prog G tt 69 6 (Ret Tryz.prog [] (fun y H => yb Tryz.prog G 6 H y (.tup []) ⟨9, [(0, .var 67 [(.ptr 1 1 0), (.int .i64 o0_1.kind), (.str o0_1.text), (.sl 1 false (o0_1.gaps.map sc)), (.sl 4 false (o0_1.kids.map Node.cells)), (.int .i64 a1), (.str a2), (.bs 1 4 7 0 r.2.1.length), (.bs 4 5 8 0 r.2.2.length), (.int .i64 o0_3)]), (1, .var 42 [(.fn 15 [(.ptr 2 2 0)])]), (2, .var 22 [(.bs 1 3 6 0 r.1.length)]), (6, .row 9 (r.1.map sc).flatten), (7, .row 9 (r.2.1.map sc).flatten), (8, .row 25 (r.2.2.map Node.cells).flatten)]⟩)) (.again (jq [53] Tryz.f35 0).1 (jq [53] Tryz.f35 0).2 (.n (.ptr 0 0 0) (.n .undef (.n .undef (.n .undef (.n .undef (.n .undef (.n (.int .i64 ((l0.map Node.cells).length : Int)) .z .z) .z) .z) .z) .z) .z) (.n .undef (.n .undef (.n .undef (.n .undef (.n .undef (.n (.int .i64 ((j0 : Nat) : Int)) .z .z) .z) .z) .z) .z) (.n .undef .z (.n .undef .z (.n .undef .z (.n (.sl 4 false (l0.map Node.cells)) .z .z)))))) 14 [(0, .var 67 [(.ptr 1 1 0), (.int .i64 o0_1.kind), (.str o0_1.text), (.sl 1 false (o0_1.gaps.map sc)), (.sl 4 false (o0_1.kids.map Node.cells)), (.int .i64 a1), (.str a2), (.bs 1 4 12 0 a3.length), (.bs 4 5 13 0 a4.length), (.int .i64 o0_3)]), (1, .var 42 [(.fn 15 [(.ptr 2 2 0)])]), (2, .var 22 [(.bs 1 3 11 0 o2.length)]), (11, .row 9 (o2.map sc).flatten), (12, .row 9 (a3.map sc).flatten), (13, .row 25 (a4.map Node.cells).flatten)])
@[reducible] def M_F_otherW_t22 (a0 : LN) (j0 : Nat) (t1 : BA) (o0_1 : Node) (a1 : Int) (a2 : BA) (a3 : LB) (a4 : LN) (o0_3 : Int) (o2 : LB) (r : LB × LB × LN × Int) : Prop :=
  ∀ (l0 : LN), l0.drop (j0 + 1) = a0 → j0 + 1 ≤ l0.length → l0.length ≤ 9223372036854775807 → Ok Tryz.prog G tt 146 6 (Ret Tryz.prog [] (fun y H => yb Tryz.prog G 6 H y (.tup []) ⟨9, [(0, .var 67 [(.ptr 1 1 0), (.int .i64 o0_1.kind), (.str o0_1.text), (.sl 1 false (o0_1.gaps.map sc)), (.sl 4 false (o0_1.kids.map Node.cells)), (.int .i64 a1), (.str a2), (.bs 1 4 7 0 r.2.1.length), (.bs 4 5 8 0 r.2.2.1.length), (.int .i64 r.2.2.2)]), (1, .var 42 [(.fn 15 [(.ptr 2 2 0)])]), (2, .var 22 [(.bs 1 3 6 0 r.1.length)]), (6, .row 9 (r.1.map sc).flatten), (7, .row 9 (r.2.1.map sc).flatten), (8, .row 25 (r.2.2.1.map Node.cells).flatten)]⟩)) (.go [] (yo [22, 33] Tryz.f36 22) [] (.n (.ptr 0 0 0) (.n (.str t1) .z (.n .undef (.n .undef (.n (.int .i64 ((l0.map Node.cells).length : Int)) .z .z) .z) .z)) (.n .undef (.n .undef (.n .undef (.n (.sl 4 false (l0.map Node.cells)) .z .z) .z) .z) (.n .undef (.n .undef (.n (.int .i64 ((j0 : Nat) : Int)) .z .z) .z) .z))) 12 [(0, .var 67 [(.ptr 1 1 0), (.int .i64 o0_1.kind), (.str o0_1.text), (.sl 1 false (o0_1.gaps.map sc)), (.sl 4 false (o0_1.kids.map Node.cells)), (.int .i64 a1), (.str a2), (.bs 1 4 10 0 a3.length), (.bs 4 5 11 0 a4.length), (.int .i64 o0_3)]), (1, .var 42 [(.fn 15 [(.ptr 2 2 0)])]), (2, .var 22 [(.bs 1 3 9 0 o2.length)]), (9, .row 9 (o2.map sc).flatten), (10, .row 9 (a3.map sc).flatten), (11, .row 25 (a4.map Node.cells).flatten)])
@[reducible] def M_F_restW_b1 (o0_1 : Node) (a0 : Int) (a1 : BA) (a2 : LB) (a3 : LN) (o0_3 : Int) (o2 : LB) (r : LB × LB × LN) : Prop :=
  Ok Tryz.prog G tt 25 6 (Ret Tryz.prog [] (fun y H => yb Tryz.prog G 6 H y (.tup []) ⟨9, [(0, .var 67 [(.ptr 1 1 0), (.int .i64 o0_1.kind), (.str o0_1.text), (.sl 1 false (o0_1.gaps.map sc)), (.sl 4 false (o0_1.kids.map Node.cells)), (.int .i64 a0), (.str a1), (.bs 1 4 7 0 r.2.1.length), (.bs 4 5 8 0 r.2.2.length), (.int .i64 o0_3)]), (1, .var 42 [(.fn 15 [(.ptr 2 2 0)])]), (2, .var 22 [(.bs 1 3 6 0 r.1.length)]), (6, .row 9 (r.1.map sc).flatten), (7, .row 9 (r.2.1.map sc).flatten), (8, .row 25 (r.2.2.map Node.cells).flatten)]⟩)) (.go [] (blockOf [1000001] Tryz.f53 1) [] (.n (.ptr 0 0 0) .z .z) 14 [(0, .var 67 [(.ptr 1 1 0), (.int .i64 o0_1.kind), (.str o0_1.text), (.sl 1 false (o0_1.gaps.map sc)), (.sl 4 false (o0_1.kids.map Node.cells)), (.int .i64 a0), (.str a1), (.bs 1 4 12 0 a2.length), (.bs 4 5 13 0 a3.length), (.int .i64 o0_3)]), (1, .var 42 [(.fn 15 [(.ptr 2 2 0)])]), (2, .var 22 [(.bs 1 3 11 0 o2.length)]), (11, .row 9 (o2.map sc).flatten), (12, .row 9 (a2.map sc).flatten), (13, .row 25 (a3.map Node.cells).flatten)])
theorem ALL_F_nodeW : PC4 M_F_nodeW F_nodeW ∧ PC8 M_F_otherW F_otherW ∧ PC9 M_F_namedW F_namedW ∧ PC8 M_F_kidW F_kidW ∧ PC8 M_F_bodyW F_bodyW ∧ PC8 M_F_bodyW_l0 F_bodyW_l0 ∧ PC7 M_F_restW F_restW ∧ PC8 M_F_restW_l0 F_restW_l0 ∧ PC7 M_F_restW_b1 F_restW_b1 ∧ PC10 M_F_otherW_l0 F_otherW_l0 ∧ PC10 M_F_otherW_t22 F_otherW_t22 ∧ PC8 M_F_statementW F_statementW ∧ PC9 M_F_statementW_t53 F_statementW_t53 ∧ PC8 M_F_statementW_l0 F_statementW_l0 ∧ PC8 M_F_expressionW F_expressionW := by
 refine F_nodeW.mutual_partial_correctness M_F_nodeW M_F_otherW M_F_namedW M_F_kidW M_F_bodyW M_F_bodyW_l0 M_F_restW M_F_restW_l0 M_F_restW_b1 M_F_otherW_l0 M_F_otherW_t22 M_F_statementW M_F_statementW_t53 M_F_statementW_l0 M_F_expressionW (fun F_otherW F_statementW F_expressionW H_F_otherW H_F_statementW H_F_expressionW a0 a1 a2 a3 r h => ?_) (fun F_namedW F_kidW F_bodyW F_restW F_otherW_l0 H_F_namedW H_F_kidW H_F_bodyW H_F_restW H_F_otherW_l0 a0 a0_n a2 a3 a4 a5 a6 a1 r h => ?_) (fun F_kidW H_F_kidW a0 a0_n a3 a4 a5 a6 a7 a1 a2 r h => ?_) (fun F_nodeW H_F_nodeW a0 a0_n a2 a3 a4 a5 a6 a1 r h => ?_) (fun F_bodyW_l0 H_F_bodyW_l0 a0 a0_n a2 a3 a4 a5 a6 a1 r h => ?_) (fun F_kidW F_bodyW_l0 H_F_kidW H_F_bodyW_l0 t1 o0_1 a0 a1 a2 a3 o0_3 o2 r h => ?_) (fun F_restW_l0 H_F_restW_l0 a0 a0_n a1 a2 a3 a4 a5 r h => ?_) (fun F_kidW F_restW_b1 H_F_kidW H_F_restW_b1 t2 o0_1 a0 a1 a2 a3 o0_3 o2 r h => ?_) (fun F_restW_l0 H_F_restW_l0 o0_1 a0 a1 a2 a3 o0_3 o2 r h => ?_) (fun F_otherW_t22 H_F_otherW_t22 a0 j0 t1 o0_1 a1 a2 a3 a4 o0_3 o2 r h => ?_) (fun F_kidW F_otherW_l0 H_F_kidW H_F_otherW_l0 a0 j0 t1 o0_1 a1 a2 a3 a4 o0_3 o2 r h => ?_) (fun F_namedW F_kidW F_statementW_t53 H_F_namedW H_F_kidW H_F_statementW_t53 a0 a0_n a2 a3 a4 a5 a6 a1 r h => ?_) (fun F_statementW_l0 H_F_statementW_l0 t1 t4 o0_1 a0 a1 a2 a3 o0_3 o2 r h => ?_) (fun F_kidW F_statementW_l0 H_F_kidW H_F_statementW_l0 a0 o0_1 a1 a2 a3 a4 o0_3 o2 r h => ?_) (fun F_kidW F_restW H_F_kidW H_F_restW a0 a0_n a2 a3 a4 a5 a6 a1 r h => ?_)
 ·unfold qa at h
  refine ⟨?_, (q9 rfl rfl (q9 rfl rfl (zf qp rfl zv))), (qk (qk (qn qp zh))), (za rfl (za rfl (ze qp zx))), (qk (qk (qn qp zh))), rfl, rfl, rfl, rfl⟩
  refine zq (T := tt) (N := 41) (rs := [.cell 8 25]) (fun vs w => by simp) Tryz.func16 rfl rfl rfl (by kernel_rfl) (by kernel_rfl) ?_
  refine kr [23, 30] ?_
  obtain ⟨x1, hx, h⟩ := bind_some h
  refine ql (H_F_grammar_Group _ _ hx) ?_
  refine kr [23, 30] ?_
  refine qg (fun hb => ?_) (fun hb => ?_)
  ·replace h := qx hb h
   refine kr [23, 30] ?_
   obtain ⟨x2, hx, h⟩ := bind_some h
   refine qb (ACalls.ghost (e := 9) (ACalls.ghost (e := 25) (ACalls.wkg (AC.go (objs := [(0, .var 42 [(.fn 15 [(.ptr 1 1 0)])]), (1, .var 22 [(.bs 1 2 2 0 a0.length)]), (2, .row 9 (a0.map sc).flatten), (3, .var 25 (zo a1)), (4, .var 25 [(.int .i64 0), (.str ⟨#[]⟩), (.sl 0 true []), (.sl 0 true [])]), (5, .var 67 [(.ptr 0 0 0), (.int .i64 a1.kind), (.str a1.text), (.sl 1 false (a1.gaps.map sc)), (.sl 4 false (a1.kids.map Node.cells)), (.int .i64 a1.kind), (.str a1.text), (.bs 1 6 6 0 ([] : LB).length), (.bs 4 7 7 0 ([] : LN).length), (.int .i64 a3)]), (6, .row 9 (([] : LB).map sc).flatten), (7, .row 25 (([] : LN).map Node.cells).flatten)]) (xs := [(.ptr 5 5 0), (.str a2)]) (H_F_expressionW _ _ _ _ _ _ _ _ _ hx) [5, 0, 1, 2, 6, 7] [5, 0, 1, 2, 6, 7] rfl rfl rfl rfl rfl rfl rfl rfl rfl) (zu (ji _) (zu (ji _) kq)) (zj (zj (zj (zj (zj (kp (qw (q8 _) (qw (q8 _) (qw (q8 _) (qw (q8 _) (qw (q8 _) (qw (q8 _) (qw (q8 _) (qw (j9 rfl) (qw (j9 rfl) (qw (q8 _) wh)))))))))) (ym _)))))))))) ?_
   refine kr [23, 30] ?_
   exact q7 (by kernel_rfl) rfl lQ (H_F_nodeW_t23 _ _ _ _ _ _ _ _ h)
  ·replace h := qy hb h
   refine kr [23, 30] ?_
   obtain ⟨x3, hx, h⟩ := bind_some h
   refine ql (H_F_grammar_Group _ _ hx) ?_
   refine kr [23, 30] ?_
   refine qg (fun hb => ?_) (fun hb => ?_)
   ·replace h := qx hb h
    refine kr [23, 30] ?_
    obtain ⟨x4, hx, h⟩ := bind_some h
    refine qb (ACalls.ghost (e := 9) (ACalls.ghost (e := 25) (ACalls.wkg (AC.go (objs := [(0, .var 42 [(.fn 15 [(.ptr 1 1 0)])]), (1, .var 22 [(.bs 1 2 2 0 a0.length)]), (2, .row 9 (a0.map sc).flatten), (3, .var 25 (zo a1)), (4, .var 25 [(.int .i64 0), (.str ⟨#[]⟩), (.sl 0 true []), (.sl 0 true [])]), (5, .var 67 [(.ptr 0 0 0), (.int .i64 a1.kind), (.str a1.text), (.sl 1 false (a1.gaps.map sc)), (.sl 4 false (a1.kids.map Node.cells)), (.int .i64 a1.kind), (.str a1.text), (.bs 1 6 6 0 ([] : LB).length), (.bs 4 7 7 0 ([] : LN).length), (.int .i64 a3)]), (6, .row 9 (([] : LB).map sc).flatten), (7, .row 25 (([] : LN).map Node.cells).flatten)]) (xs := [(.ptr 5 5 0), (.str a2)]) (H_F_statementW _ _ _ _ _ _ _ _ _ hx) [5, 0, 1, 2, 6, 7] [5, 0, 1, 2, 6, 7] rfl rfl rfl rfl rfl rfl rfl rfl rfl) (zu (ji _) (zu (ji _) kq)) (zj (zj (zj (zj (zj (kp (qw (q8 _) (qw (q8 _) (qw (q8 _) (qw (q8 _) (qw (q8 _) (qw (q8 _) (qw (q8 _) (qw (j9 rfl) (qw (j9 rfl) (qw (q8 _) wh)))))))))) (ym _)))))))))) ?_
    refine kr [23, 30] ?_
    exact q7 (by kernel_rfl) rfl lQ (H_F_nodeW_t30 _ _ _ _ _ _ _ _ h)
   ·replace h := qy hb h
    refine kr [23, 30] ?_
    obtain ⟨x5, hx, h⟩ := bind_some h
    refine qb (ACalls.ghost (e := 9) (ACalls.ghost (e := 25) (ACalls.wkg (AC.go (objs := [(0, .var 42 [(.fn 15 [(.ptr 1 1 0)])]), (1, .var 22 [(.bs 1 2 2 0 a0.length)]), (2, .row 9 (a0.map sc).flatten), (3, .var 25 (zo a1)), (4, .var 25 [(.int .i64 0), (.str ⟨#[]⟩), (.sl 0 true []), (.sl 0 true [])]), (5, .var 67 [(.ptr 0 0 0), (.int .i64 a1.kind), (.str a1.text), (.sl 1 false (a1.gaps.map sc)), (.sl 4 false (a1.kids.map Node.cells)), (.int .i64 a1.kind), (.str a1.text), (.bs 1 6 6 0 ([] : LB).length), (.bs 4 7 7 0 ([] : LN).length), (.int .i64 a3)]), (6, .row 9 (([] : LB).map sc).flatten), (7, .row 25 (([] : LN).map Node.cells).flatten)]) (xs := [(.ptr 5 5 0), (.str a2)]) (H_F_otherW _ _ _ _ _ _ _ _ _ hx) [5, 0, 1, 2, 6, 7] [5, 0, 1, 2, 6, 7] rfl rfl rfl rfl rfl rfl rfl rfl rfl) (zu (ji _) (zu (ji _) kq)) (zj (zj (zj (zj (zj (kp (qw (q8 _) (qw (q8 _) (qw (q8 _) (qw (q8 _) (qw (q8 _) (qw (q8 _) (qw (q8 _) (qw (j9 rfl) (qw (j9 rfl) (qw (q8 _) wh)))))))))) (ym _)))))))))) ?_
    refine kr [23, 30] ?_
    exact q7 (by kernel_rfl) rfl lQ (H_F_nodeW_t30 _ _ _ _ _ _ _ _ h)
 ·unfold qa at h
  refine ⟨?_, (q9 rfl rfl (q9 rfl rfl (q9 rfl rfl (zf qp rfl (zf qp rfl (zf qj rfl zv)))))), (qk (qk (qk (qn qp (qn qp (qn qj zh)))))), (za rfl (za rfl (za rfl (ze qp (ze qp (ze qj zx)))))), (qk (qk (qk (qn qp (qn qp (qn qj zh)))))), rfl, rfl, rfl, rfl⟩
  refine zq (T := tt) (N := 146) (rs := []) (fun vs w => by simp) Tryz.func36 rfl rfl rfl (by kernel_rfl) (by kernel_rfl) ?_
  refine kr [22, 33] ?_
  refine qg (fun hb => ?_) (fun hb => ?_)
  ·replace h := qx hb h
   refine kr [22, 33] ?_
   refine Zv 16 rfl (fun hm => ?_)
   exact jp (by kernel_rfl) lQ (H_F_otherW_l0 _ _ _ _ _ _ _ _ _ _ _ h a0_n.kids rfl (Nat.zero_le _) (w7 hm))
  ·replace h := qy hb h
   refine kr [22, 33] ?_
   refine qg (fun hb => ?_) (fun hb => ?_)
   ·replace h := qx hb h
    refine kr [22, 33] ?_
    obtain ⟨x37, hx, h⟩ := bind_some h
    refine qb (AC.g9 (H_F_ownW _ _ _ _ _ _ _ _ _ _ hx) [0, 1, 2, 3, 4, 5] [0, 1, 2, 3, 4, 5]) ?_
    refine kr [22, 33] ?_
    obtain ⟨x38, hx, h⟩ := bind_some h
    refine qb (AC.g9 (H_F_ownW _ _ _ _ _ _ _ _ _ _ hx) [0, 1, 2, 3, 4, 5] [0, 1, 2, 6, 7, 5]) ?_
    refine kr [22, 33] ?_
    obtain ⟨x39, hx, h⟩ := bind_some h
    refine qb (AC.g9 (H_F_kidW _ _ _ _ _ _ _ _ _ hx) [0, 1, 2, 3, 4, 5] [0, 1, 2, 8, 9, 5]) ?_
    refine kr [22, 33] ?_
    obtain ⟨x40, hx, h⟩ := bind_some h
    refine qb (AC.g9 (H_F_kidW _ _ _ _ _ _ _ _ _ hx) [0, 1, 2, 3, 4, 5] [0, 1, 2, 10, 9, 11]) ?_
    refine kr [22, 33] ?_
    obtain ⟨x41, hx, h⟩ := bind_some h
    refine qb (AC.g9 (H_F_kidW _ _ _ _ _ _ _ _ _ hx) [0, 1, 2, 3, 4, 5] [0, 1, 2, 12, 9, 13]) ?_
    refine kr [22, 33] ?_
    cases h
    exact qv env rfl (tS [some 0, some 1, some 2, some 3, some 4, some 5] (sV (lS (lS (lS (lS (lS (lS (lS (lS (lS (lS lN)))))))))) (sV (lS lN) (sV (lS lN) (sR qp (sR qp (sR qj qt)))))) (qz qu))
   ·replace h := qy hb h
    refine kr [22, 33] ?_
    refine qg (fun hb => ?_) (fun hb => ?_)
    ·replace h := qx hb h
     refine kr [22, 33] ?_
     obtain ⟨x42, hx, h⟩ := bind_some h
     refine qb (AC.g9 (H_F_ownW _ _ _ _ _ _ _ _ _ _ hx) [0, 1, 2, 3, 4, 5] [0, 1, 2, 3, 4, 5]) ?_
     refine kr [22, 33] ?_
     obtain ⟨x43, hx, h⟩ := bind_some h
     refine qb (AC.g9 (H_F_restW _ _ _ _ _ _ _ _ hx) [0, 1, 2, 3, 4, 5] [0, 1, 2, 6, 7, 5]) ?_
     refine kr [22, 33] ?_
     cases h
     exact qv env rfl (tS [some 0, some 1, some 2, some 3, some 4, some 5] (sV (lS (lS (lS (lS (lS (lS (lS (lS (lS (lS lN)))))))))) (sV (lS lN) (sV (lS lN) (sR qp (sR qp (sR qj qt)))))) (qz qu))
    ·replace h := qy hb h
     refine kr [22, 33] ?_
     refine qg (fun hb => ?_) (fun hb => ?_)
     ·replace h := qx hb h
      refine kr [22, 33] ?_
      obtain ⟨x44, hx, h⟩ := bind_some h
      refine qb (AC.g9 (H_F_ownW _ _ _ _ _ _ _ _ _ _ hx) [0, 1, 2, 3, 4, 5] [0, 1, 2, 3, 4, 5]) ?_
      refine kr [22, 33] ?_
      obtain ⟨x45, hx, h⟩ := bind_some h
      refine qb (AC.g9 (H_F_kidW _ _ _ _ _ _ _ _ _ hx) [0, 1, 2, 3, 4, 5] [0, 1, 2, 6, 7, 5]) ?_
      refine kr [22, 33] ?_
      cases h
      exact qv env rfl (tS [some 0, some 1, some 2, some 3, some 4, some 5] (sV (lS (lS (lS (lS (lS (lS (lS (lS (lS (lS lN)))))))))) (sV (lS lN) (sV (lS lN) (sR qp (sR qp (sR qj qt)))))) (qz qu))
     ·replace h := qy hb h
      refine kr [22, 33] ?_
      refine qg (fun hb => ?_) (fun hb => ?_)
      ·replace h := qx hb h
       refine kr [22, 33] ?_
       obtain ⟨x46, hx, h⟩ := bind_some h
       refine qb (AC.g9 (H_F_ownW _ _ _ _ _ _ _ _ _ _ hx) [0, 1, 2, 3, 4, 5] [0, 1, 2, 3, 4, 5]) ?_
       refine kr [22, 33] ?_
       cases h
       exact qv env rfl (tS [some 0, some 1, some 2, some 3, some 4, some 5] (sV (lS (lS (lS (lS (lS (lS (lS (lS (lS (lS lN)))))))))) (sV (lS lN) (sV (lS lN) (sR qp (sR qp (sR qj qt)))))) (qz qu))
      ·replace h := qy hb h
       refine kr [22, 33] ?_
       refine qg (fun hb => ?_) (fun hb => ?_)
       ·replace h := qx hb h
        refine kr [22, 33] ?_
        obtain ⟨x47, hx, h⟩ := bind_some h
        refine qb (AC.g9 (H_F_ownW _ _ _ _ _ _ _ _ _ _ hx) [0, 1, 2, 3, 4, 5] [0, 1, 2, 3, 4, 5]) ?_
        refine kr [22, 33] ?_
        obtain ⟨x48, hx, h⟩ := bind_some h
        refine qb (AC.g9 (H_F_bodyW _ _ _ _ _ _ _ _ _ hx) [0, 1, 2, 3, 4, 5] [0, 1, 2, 6, 7, 5]) ?_
        refine kr [22, 33] ?_
        cases h
        exact qv env rfl (tS [some 0, some 1, some 2, some 3, some 4, some 5] (sV (lS (lS (lS (lS (lS (lS (lS (lS (lS (lS lN)))))))))) (sV (lS lN) (sV (lS lN) (sR qp (sR qp (sR qj qt)))))) (qz qu))
       ·replace h := qy hb h
        refine kr [22, 33] ?_
        refine qg (fun hb => ?_) (fun hb => ?_)
        ·replace h := qx hb h
         refine kr [22, 33] ?_
         obtain ⟨x49, hx, h⟩ := bind_some h
         refine qb (AC.g9 (H_F_ownW _ _ _ _ _ _ _ _ _ _ hx) [0, 1, 2, 3, 4, 5] [0, 1, 2, 3, 4, 5]) ?_
         refine kr [22, 33] ?_
         obtain ⟨x50, hx, h⟩ := bind_some h
         refine qb (AC.g9 (H_F_ownW _ _ _ _ _ _ _ _ _ _ hx) [0, 1, 2, 3, 4, 5] [0, 1, 2, 6, 7, 5]) ?_
         refine kr [22, 33] ?_
         obtain ⟨x51, hx, h⟩ := bind_some h
         refine qb (AC.g9 (H_F_kidW _ _ _ _ _ _ _ _ _ hx) [0, 1, 2, 3, 4, 5] [0, 1, 2, 8, 9, 5]) ?_
         refine kr [22, 33] ?_
         obtain ⟨x52, hx, h⟩ := bind_some h
         refine qb (AC.g9 (H_F_ownW _ _ _ _ _ _ _ _ _ _ hx) [0, 1, 2, 3, 4, 5] [0, 1, 2, 10, 9, 11]) ?_
         refine kr [22, 33] ?_
         obtain ⟨x53, hx, h⟩ := bind_some h
         refine qb (AC.g9 (H_F_bodyW _ _ _ _ _ _ _ _ _ hx) [0, 1, 2, 3, 4, 5] [0, 1, 2, 12, 13, 11]) ?_
         refine kr [22, 33] ?_
         cases h
         exact qv env rfl (tS [some 0, some 1, some 2, some 3, some 4, some 5] (sV (lS (lS (lS (lS (lS (lS (lS (lS (lS (lS lN)))))))))) (sV (lS lN) (sV (lS lN) (sR qp (sR qp (sR qj qt)))))) (qz qu))
        ·replace h := qy hb h
         refine kr [22, 33] ?_
         refine qg (fun hb => ?_) (fun hb => ?_)
         ·replace h := qx hb h
          refine kr [22, 33] ?_
          refine qg (fun hb => ?_) (fun hb => ?_)
          ·replace h := qx hb h
           refine kr [22, 33] ?_
           obtain ⟨x54, hx, h⟩ := bind_some h
           refine qb (AC.g9 (H_F_ownW _ _ _ _ _ _ _ _ _ _ hx) [0, 1, 2, 3, 4, 5] [0, 1, 2, 3, 4, 5]) ?_
           refine kr [22, 33] ?_
           obtain ⟨x55, hx, h⟩ := bind_some h
           refine qb (AC.g9 (H_F_ownW _ _ _ _ _ _ _ _ _ _ hx) [0, 1, 2, 3, 4, 5] [0, 1, 2, 6, 7, 5]) ?_
           refine kr [22, 33] ?_
           cases h
           exact qv env rfl (tS [some 0, some 1, some 2, some 3, some 4, some 5] (sV (lS (lS (lS (lS (lS (lS (lS (lS (lS (lS lN)))))))))) (sV (lS lN) (sV (lS lN) (sR qp (sR qp (sR qj qt)))))) (qz qu))
          ·replace h := qy hb h
           refine kr [22, 33] ?_
           cases h
           exact qv env rfl (tS [some 0, some 1, some 2, some 3, some 4, some 5] (sV (lS (lS (lS (lS (lS (lS (lS (lS (lS (lS lN)))))))))) (sV (lS lN) (sV (lS lN) (sR qp (sR qp (sR qj qt)))))) (qz qu))
         ·replace h := qy hb h
          refine kr [22, 33] ?_
          refine qg (fun hb => ?_) (fun hb => ?_)
          ·replace h := qx hb h
           refine kr [22, 33] ?_
           obtain ⟨x56, hx, h⟩ := bind_some h
           refine qb (AC.g9 (H_F_namedW _ _ _ _ _ _ _ _ _ _ hx) [0, 1, 2, 3, 4, 5] [0, 1, 2, 3, 4, 5]) ?_
           refine kr [22, 33] ?_
           cases h
           exact qv env rfl (tS [some 0, some 1, some 2, some 3, some 4, some 5] (sV (lS (lS (lS (lS (lS (lS (lS (lS (lS (lS lN)))))))))) (sV (lS lN) (sV (lS lN) (sR qp (sR qp (sR qj qt)))))) (qz qu))
          ·replace h := qy hb h
           refine kr [22, 33] ?_
           refine qg (fun hb => ?_) (fun hb => ?_)
           ·replace h := qx hb h
            refine kr [22, 33] ?_
            refine qg (fun hb => ?_) (fun hb => ?_)
            ·replace h := qx hb h
             refine kr [22, 33] ?_
             obtain ⟨x57, hx, h⟩ := bind_some h
             refine qb (AC.g9 (H_F_ownW _ _ _ _ _ _ _ _ _ _ hx) [0, 1, 2, 3, 4, 5] [0, 1, 2, 3, 4, 5]) ?_
             refine kr [22, 33] ?_
             obtain ⟨x58, hx, h⟩ := bind_some h
             refine qb (AC.g9 (H_F_kidW _ _ _ _ _ _ _ _ _ hx) [0, 1, 2, 3, 4, 5] [0, 1, 2, 6, 7, 5]) ?_
             refine kr [22, 33] ?_
             cases h
             exact qv env rfl (tS [some 0, some 1, some 2, some 3, some 4, some 5] (sV (lS (lS (lS (lS (lS (lS (lS (lS (lS (lS lN)))))))))) (sV (lS lN) (sV (lS lN) (sR qp (sR qp (sR qj qt)))))) (qz qu))
            ·replace h := qy hb h
             refine kr [22, 33] ?_
             cases h
             exact qv env rfl (tS [some 0, some 1, some 2, some 3, some 4, some 5] (sV (lS (lS (lS (lS (lS (lS (lS (lS (lS (lS lN)))))))))) (sV (lS lN) (sV (lS lN) (sR qp (sR qp (sR qj qt)))))) (qz qu))
           ·replace h := qy hb h
            refine kr [22, 33] ?_
            cases h
            exact qv env rfl (tS [some 0, some 1, some 2, some 3, some 4, some 5] (sV (lS (lS (lS (lS (lS (lS (lS (lS (lS (lS lN)))))))))) (sV (lS lN) (sV (lS lN) (sR qp (sR qp (sR qj qt)))))) (qz qu))
 ·unfold qa at h
  refine ⟨?_, (q9 rfl rfl (q9 rfl rfl (q9 rfl rfl (zf qp rfl (zf qp rfl (zf qj rfl zv)))))), (qk (qk (qk (qn qp (qn qp (qn qj zh)))))), (za rfl (za rfl (za rfl (ze qp (ze qp (ze qj zx)))))), (qk (qk (qk (qn qp (qn qp (qn qj zh)))))), rfl, rfl, rfl, rfl⟩
  refine zq (T := tt) (N := 23) (rs := []) (fun vs w => by simp) Tryz.func55 rfl rfl rfl (by kernel_rfl) (by kernel_rfl) ?_
  refine kr [] ?_
  obtain ⟨x62, hx, h⟩ := bind_some h
  refine qb (AC.g9 (H_F_ownW _ _ _ _ _ _ _ _ _ _ hx) [0, 1, 2, 3, 4, 5] [0, 1, 2, 3, 4, 5]) ?_
  refine kr [] ?_
  obtain ⟨x63, hx, h⟩ := bind_some h
  refine qb (AC.g9 (H_F_ownW _ _ _ _ _ _ _ _ _ _ hx) [0, 1, 2, 3, 4, 5] [0, 1, 2, 6, 7, 5]) ?_
  refine kr [] ?_
  obtain ⟨x64, hx, h⟩ := bind_some h
  refine qb (AC.g9 (H_F_ownW _ _ _ _ _ _ _ _ _ _ hx) [0, 1, 2, 3, 4, 5] [0, 1, 2, 8, 9, 5]) ?_
  refine kr [] ?_
  obtain ⟨x65, hx, h⟩ := bind_some h
  refine qb (AC.g9 (H_F_kidW _ _ _ _ _ _ _ _ _ hx) [0, 1, 2, 3, 4, 5] [0, 1, 2, 10, 11, 5]) ?_
  refine kr [] ?_
  obtain ⟨x66, hx, h⟩ := bind_some h
  refine qb (AC.g9 (H_F_ownW _ _ _ _ _ _ _ _ _ _ hx) [0, 1, 2, 3, 4, 5] [0, 1, 2, 12, 11, 13]) ?_
  refine kr [] ?_
  cases h
  exact qv env rfl (tS [some 0, some 1, some 2, some 3, some 4, some 5] (sV (lS (lS (lS (lS (lS (lS (lS (lS (lS (lS lN)))))))))) (sV (lS lN) (sV (lS lN) (sR qp (sR qp (sR qj qt)))))) (qz qu))
 ·unfold qa at h
  refine ⟨?_, (q9 rfl rfl (q9 rfl rfl (q9 rfl rfl (zf qp rfl (zf qp rfl (zf qj rfl zv)))))), (qk (qk (qk (qn qp (qn qp (qn qj zh)))))), (za rfl (za rfl (za rfl (ze qp (ze qp (ze qj zx)))))), (qk (qk (qk (qn qp (qn qp (qn qj zh)))))), rfl, rfl, rfl, rfl⟩
  refine zq (T := tt) (N := 41) (rs := []) (fun vs w => by simp) Tryz.func54 rfl rfl rfl (by kernel_rfl) (by kernel_rfl) ?_
  refine kr [] ?_
  obtain ⟨x59, hx, h⟩ := bind_some h
  refine w9 env hx rfl rfl rfl rfl (Node.cells_eq x59) ?_
  refine kr [] ?_
  obtain ⟨x60, hx, h⟩ := bind_some h
  refine qb (AC.g9 (H_F_nodeW _ _ _ _ _ hx) [1, 2, 3] [1, 2, 3]) ?_
  refine kr [] ?_
  obtain ⟨x61, hx, h⟩ := bind_some h
  have hz_x61 := hx
  refine Ok_appOZ (C := Node.cells) env hx rfl rfl Node.cells_len rfl rfl rfl rfl rfl (by decide) rfl rfl rfl ?_
  refine kr [] ?_
  refine Ok_ixB env rfl rfl rfl rfl (Int.natCast_nonneg _) (app_last hz_x61) ?_
  refine kr [] ?_
  refine Ok_storeZ hz_x61 qj rfl rfl (Node.cells_eq x60.1).symm rfl rfl rfl ?_
  refine kr [] ?_
  cases h
  exact qv env rfl (tS [some 0, some 1, some 2, some 3, some 4, some 5] (sV (lS (lS (lS (lS (lS (lS (lS (lS (lS (lS lN)))))))))) (sV (lS lN) (sV (lS lN) (sR qp (sR qp (sR qj qt)))))) (qz qu))
 ·unfold qa at h
  refine ⟨?_, (q9 rfl rfl (q9 rfl rfl (q9 rfl rfl (zf qp rfl (zf qp rfl (zf qj rfl zv)))))), (qk (qk (qk (qn qp (qn qp (qn qj zh)))))), (za rfl (za rfl (za rfl (ze qp (ze qp (ze qj zx)))))), (qk (qk (qk (qn qp (qn qp (qn qj zh)))))), rfl, rfl, rfl, rfl⟩
  refine zq (T := tt) (N := 55) (rs := []) (fun vs w => by simp) Tryz.func56 rfl rfl rfl (by kernel_rfl) (by kernel_rfl) ?_
  refine kr [] ?_
  exact jp (by kernel_rfl) lQ (H_F_bodyW_l0 _ _ _ _ _ _ _ _ _ h)
 ·unfold qa at h
  refine jz ?_
  refine kr [] ?_
  refine qg (fun hb => ?_) (fun hb => ?_)
  ·replace h := qx hb h
   refine kr [] ?_
   obtain ⟨x72, hx, h⟩ := bind_some h
   refine ql (H_F_print_line _ _ hx) ?_
   refine kr [] ?_
   obtain ⟨x73, hx, h⟩ := bind_some h
   refine qb (AC.g9 (H_F_kidW _ _ _ _ _ _ _ _ _ hx) [0, 1, 2, 3, 4, 5] [0, 1, 2, 6, 7, 8]) ?_
   refine kr [] ?_
   exact je (by kernel_rfl) lQ (H_F_bodyW_l0 _ _ _ _ _ _ _ _ _ h)
  ·replace h := qy hb h
   refine kr [] ?_
   refine qg (fun hb => ?_) (fun hb => ?_)
   ·replace h := qx hb h
    refine kr [] ?_
    obtain ⟨x74, hx, h⟩ := bind_some h
    refine ql (H_F_print_line _ _ hx) ?_
    refine kr [] ?_
    obtain ⟨x75, hx, h⟩ := bind_some h
    refine qb (AC.g9 (H_F_ownW _ _ _ _ _ _ _ _ _ _ hx) [0, 1, 2, 3, 4, 5] [0, 1, 2, 6, 7, 8]) ?_
    refine kr [] ?_
    cases h
    exact qv env rfl (tS [some 0, some 1, some 2, some 3, some 4, some 5] (sV (lS (lS (lS (lS (lS (lS (lS (lS (lS (lS lN)))))))))) (sV (lS lN) (sV (lS lN) (sR qp (sR qp (sR qj qt)))))) (qz qu))
   ·replace h := qy hb h
    refine kr [] ?_
    obtain ⟨x76, hx, h⟩ := bind_some h
    refine qb (AC.g9 (H_F_ownW _ _ _ _ _ _ _ _ _ _ hx) [0, 1, 2, 3, 4, 5] [0, 1, 2, 6, 7, 8]) ?_
    refine kr [] ?_
    cases h
    exact qv env rfl (tS [some 0, some 1, some 2, some 3, some 4, some 5] (sV (lS (lS (lS (lS (lS (lS (lS (lS (lS (lS lN)))))))))) (sV (lS lN) (sV (lS lN) (sR qp (sR qp (sR qj qt)))))) (qz qu))
 ·unfold qa at h
  refine ⟨?_, (q9 rfl rfl (q9 rfl rfl (q9 rfl rfl (zf qp rfl (zf qp rfl (zf qj rfl zv)))))), (qk (qk (qk (qn qp (qn qp (qn qj zh)))))), (za rfl (za rfl (za rfl (ze qp (ze qp (ze qj zx)))))), (qk (qk (qk (qn qp (qn qp (qn qj zh)))))), rfl, rfl, rfl, rfl⟩
  refine zq (T := tt) (N := 25) (rs := []) (fun vs w => by simp) Tryz.func53 rfl rfl rfl (by kernel_rfl) (by kernel_rfl) ?_
  refine kr [1000001] ?_
  exact jp (by kernel_rfl) lQ (H_F_restW_l0 _ _ _ _ _ _ _ _ _ h)
 ·unfold qa at h
  refine jz ?_
  refine kr [1000001] ?_
  refine qg (fun hb => ?_) (fun hb => ?_)
  ·replace h := qx hb h
   refine kr [1000001] ?_
   refine qg (fun hb => ?_) (fun hb => ?_)
   ·replace h := qx hb h
    refine kr [1000001] ?_
    obtain ⟨x68, hx, h⟩ := bind_some h
    refine qb (AC.g9 (H_F_kidW _ _ _ _ _ _ _ _ _ hx) [0, 1, 2, 3, 4, 5] [0, 1, 2, 6, 7, 8]) ?_
    refine kr [1000001] ?_
    exact q7 (by kernel_rfl) rfl lQ (H_F_restW_b1 _ _ _ _ _ _ _ _ h)
   ·replace h := qy hb h
    refine kr [1000001] ?_
    obtain ⟨x69, hx, h⟩ := bind_some h
    refine qb (AC.g9 (H_F_ownW _ _ _ _ _ _ _ _ _ _ hx) [0, 1, 2, 3, 4, 5] [0, 1, 2, 6, 7, 8]) ?_
    refine kr [1000001] ?_
    obtain ⟨x70, hx, h⟩ := bind_some h
    refine qb (AC.g9 (H_F_kidW _ _ _ _ _ _ _ _ _ hx) [0, 1, 2, 3, 4, 5] [0, 1, 2, 9, 10, 8]) ?_
    refine kr [1000001] ?_
    exact q7 (by kernel_rfl) rfl lQ (H_F_restW_b1 _ _ _ _ _ _ _ _ h)
  ·replace h := qy hb h
   refine kr [1000001] ?_
   obtain ⟨x71, hx, h⟩ := bind_some h
   refine qb (AC.g9 (H_F_ownW _ _ _ _ _ _ _ _ _ _ hx) [0, 1, 2, 3, 4, 5] [0, 1, 2, 6, 7, 8]) ?_
   refine kr [1000001] ?_
   cases h
   exact qv env rfl (tS [some 0, some 1, some 2, some 3, some 4, some 5] (sV (lS (lS (lS (lS (lS (lS (lS (lS (lS (lS lN)))))))))) (sV (lS lN) (sV (lS lN) (sR qp (sR qp (sR qj qt)))))) (qz qu))
 ·unfold qa at h
  refine kr [1000001] ?_
  exact je (by kernel_rfl) lQ (H_F_restW_l0 _ _ _ _ _ _ _ _ _ h)
 ·unfold qa at h
  intro l0 hl0 hj0 hm0
  refine jz ?_
  cases a0 with
  | nil =>
    have hb := u1 (C := Node.cells) hl0 hj0
    refine kr [22, 33] ?_
    refine qi hb ?_
    refine kr [22, 33] ?_
    refine qg (fun hb => ?_) (fun hb => ?_)
    ·replace h := qx hb h
     refine kr [22, 33] ?_
     exact q7 (by kernel_rfl) rfl lQ (H_F_otherW_t33 _ _ _ _ _ _ _ _ _ h)
    ·replace h := qy hb h
     refine kr [22, 33] ?_
     exact q7 (by kernel_rfl) rfl lQ (H_F_otherW_t33 _ _ _ _ _ _ _ _ _ h)
  | cons x_0 a0 =>
    obtain ⟨hb, hx0, hd0, hk0, hw0⟩ := w6 (C := Node.cells) hl0 hm0
    refine kr [22, 33] ?_
    refine qh hb ?_
    refine kr [22, 33] ?_
    refine qg (fun hb => ?_) (fun hb => ?_)
    ·replace h := qx hb h
     refine kr [22, 33] ?_
     exact q7 (by kernel_rfl) rfl lQ (H_F_otherW_t22 _ _ _ _ _ _ _ _ _ _ _ h l0 hd0 hk0 hm0)
    ·replace h := qy hb h
     refine kr [22, 33] ?_
     exact q7 (by kernel_rfl) rfl lQ (H_F_otherW_t22 _ _ _ _ _ _ _ _ _ _ _ h l0 hd0 hk0 hm0)
 ·unfold qa at h
  intro l0 hd0 hk0 hm0
  have hw0 := range_w hk0 hm0
  refine kr [22, 33] ?_
  obtain ⟨x79, hx, h⟩ := bind_some h
  refine qb (AC.g9 (H_F_kidW _ _ _ _ _ _ _ _ _ hx) [0, 1, 2, 3, 4, 5] [0, 1, 2, 9, 10, 11]) ?_
  refine kr [22, 33] ?_
  exact je (by kernel_rfl) (Qb (J1 rfl) (Nat.le_of_ble_eq_true rfl) (by simp only [hw0]; simp <;> (repeat' apply And.intro) <;> first | rfl | exact fun x a _ h => (qj.all a x h).2 | exact fun x a _ h => (qp.all a x h).2) (by simp <;> (repeat' apply And.intro) <;> first | rfl | exact fun x a _ h => (qj.all a x h).2 | exact fun x a _ h => (qp.all a x h).2)) (H_F_otherW_l0 _ _ _ _ _ _ _ _ _ _ _ h l0 hd0 hk0 hm0)
 ·unfold qa at h
  refine ⟨?_, (q9 rfl rfl (q9 rfl rfl (q9 rfl rfl (zf qp rfl (zf qp rfl (zf qj rfl zv)))))), (qk (qk (qk (qn qp (qn qp (qn qj zh)))))), (za rfl (za rfl (za rfl (ze qp (ze qp (ze qj zx)))))), (qk (qk (qk (qn qp (qn qp (qn qj zh)))))), rfl, rfl, rfl, rfl⟩
  refine zq (T := tt) (N := 69) (rs := []) (fun vs w => by simp) Tryz.func35 rfl rfl rfl (by kernel_rfl) (by kernel_rfl) ?_
  refine kr [53] ?_
  refine qg (fun hb => ?_) (fun hb => ?_)
  ·replace h := qx hb h
   refine kr [53] ?_
   obtain ⟨x27, hx, h⟩ := bind_some h
   refine qb (AC.g9 (H_F_namedW _ _ _ _ _ _ _ _ _ _ hx) [0, 1, 2, 3, 4, 5] [0, 1, 2, 3, 4, 5]) ?_
   refine kr [53] ?_
   cases h
   exact qv env rfl (tS [some 0, some 1, some 2, some 3, some 4, some 5] (sV (lS (lS (lS (lS (lS (lS (lS (lS (lS (lS lN)))))))))) (sV (lS lN) (sV (lS lN) (sR qp (sR qp (sR qj qt)))))) (qz qu))
  ·replace h := qy hb h
   refine kr [53] ?_
   refine qg (fun hb => ?_) (fun hb => ?_)
   ·replace h := qx hb h
    refine kr [53] ?_
    obtain ⟨x28, hx, h⟩ := bind_some h
    refine qb (AC.g9 (H_F_ownW _ _ _ _ _ _ _ _ _ _ hx) [0, 1, 2, 3, 4, 5] [0, 1, 2, 3, 4, 5]) ?_
    refine kr [53] ?_
    obtain ⟨x29, hx, h⟩ := bind_some h
    refine qb (AC.g9 (H_F_ownW _ _ _ _ _ _ _ _ _ _ hx) [0, 1, 2, 3, 4, 5] [0, 1, 2, 6, 7, 5]) ?_
    refine kr [53] ?_
    obtain ⟨x30, hx, h⟩ := bind_some h
    refine qb (AC.g9 (H_F_kidW _ _ _ _ _ _ _ _ _ hx) [0, 1, 2, 3, 4, 5] [0, 1, 2, 8, 9, 5]) ?_
    refine kr [53] ?_
    obtain ⟨x31, hx, h⟩ := bind_some h
    refine qb (AC.g9 (H_F_ownW _ _ _ _ _ _ _ _ _ _ hx) [0, 1, 2, 3, 4, 5] [0, 1, 2, 10, 9, 11]) ?_
    refine kr [53] ?_
    cases h
    exact qv env rfl (tS [some 0, some 1, some 2, some 3, some 4, some 5] (sV (lS (lS (lS (lS (lS (lS (lS (lS (lS (lS lN)))))))))) (sV (lS lN) (sV (lS lN) (sR qp (sR qp (sR qj qt)))))) (qz qu))
   ·replace h := qy hb h
    refine kr [53] ?_
    refine qg (fun hb => ?_) (fun hb => ?_)
    ·replace h := qx hb h
     refine kr [53] ?_
     obtain ⟨x32, hx, h⟩ := bind_some h
     refine qb (AC.g9 (H_F_ownW _ _ _ _ _ _ _ _ _ _ hx) [0, 1, 2, 3, 4, 5] [0, 1, 2, 3, 4, 5]) ?_
     refine kr [53] ?_
     obtain ⟨x33, hx, h⟩ := bind_some h
     refine qb (AC.g9 (H_F_kidW _ _ _ _ _ _ _ _ _ hx) [0, 1, 2, 3, 4, 5] [0, 1, 2, 6, 7, 5]) ?_
     refine kr [53] ?_
     obtain ⟨x34, hx, h⟩ := bind_some h
     refine qb (AC.g9 (H_F_ownW _ _ _ _ _ _ _ _ _ _ hx) [0, 1, 2, 3, 4, 5] [0, 1, 2, 8, 7, 9]) ?_
     refine kr [53] ?_
     cases h
     exact qv env rfl (tS [some 0, some 1, some 2, some 3, some 4, some 5] (sV (lS (lS (lS (lS (lS (lS (lS (lS (lS (lS lN)))))))))) (sV (lS lN) (sV (lS lN) (sR qp (sR qp (sR qj qt)))))) (qz qu))
    ·replace h := qy hb h
     refine kr [53] ?_
     refine qg (fun hb => ?_) (fun hb => ?_)
     ·replace h := qx hb h
      refine kr [53] ?_
      refine qg (fun hb => ?_) (fun hb => ?_)
      ·replace h := qx hb h
       refine kr [53] ?_
       exact q7 (by kernel_rfl) rfl lQ (H_F_statementW_t53 _ _ _ _ _ _ _ _ _ _ h)
      ·replace h := qy hb h
       refine kr [53] ?_
       exact q7 (by kernel_rfl) rfl lQ (H_F_statementW_t53 _ _ _ _ _ _ _ _ _ _ h)
     ·replace h := qy hb h
      refine kr [53] ?_
      refine qg (fun hb => ?_) (fun hb => ?_)
      ·replace h := qx hb h
       refine kr [53] ?_
       refine qg (fun hb => ?_) (fun hb => ?_)
       ·replace h := qx hb h
        refine kr [53] ?_
        exact q7 (by kernel_rfl) rfl lQ (H_F_statementW_t53 _ _ _ _ _ _ _ _ _ _ h)
       ·replace h := qy hb h
        refine kr [53] ?_
        exact q7 (by kernel_rfl) rfl lQ (H_F_statementW_t53 _ _ _ _ _ _ _ _ _ _ h)
      ·replace h := qy hb h
       refine kr [53] ?_
       obtain ⟨x35, hx, h⟩ := bind_some h
       refine qb (AC.g9 (H_F_kidW _ _ _ _ _ _ _ _ _ hx) [0, 1, 2, 3, 4, 5] [0, 1, 2, 3, 4, 5]) ?_
       refine kr [53] ?_
       obtain ⟨x36, hx, h⟩ := bind_some h
       refine qb (AC.g9 (H_F_ownW _ _ _ _ _ _ _ _ _ _ hx) [0, 1, 2, 3, 4, 5] [0, 1, 2, 6, 4, 7]) ?_
       refine kr [53] ?_
       cases h
       exact qv env rfl (tS [some 0, some 1, some 2, some 3, some 4, some 5] (sV (lS (lS (lS (lS (lS (lS (lS (lS (lS (lS lN)))))))))) (sV (lS lN) (sV (lS lN) (sR qp (sR qp (sR qj qt)))))) (qz qu))
 ·unfold qa at h
  refine kr [53] ?_
  obtain ⟨x67, hx, h⟩ := bind_some h
  refine qb (AC.g9 (H_F_ownW _ _ _ _ _ _ _ _ _ _ hx) [0, 1, 2, 3, 4, 5] [0, 1, 2, 6, 7, 8]) ?_
  refine kr [53] ?_
  refine Zv 62 rfl (fun hm => ?_)
  exact jp (by kernel_rfl) lQ (H_F_statementW_l0 _ _ _ _ _ _ _ _ _ h o0_1.kids 0 rfl (Nat.zero_le _) (w7 hm))
 ·unfold qa at h
  intro l0 j0 hl0 hj0 hm0
  refine jz ?_
  cases a0 with
  | nil =>
    have hb := u1 (C := Node.cells) hl0 hj0
    refine kr [53] ?_
    refine qi hb ?_
    refine kr [53] ?_
    cases h
    exact qv env rfl (tS [some 0, some 1, some 2, some 3, some 4, some 5] (sV (lS (lS (lS (lS (lS (lS (lS (lS (lS (lS lN)))))))))) (sV (lS lN) (sV (lS lN) (sR qp (sR qp (sR qj qt)))))) (qz qu))
  | cons x_0 a0 =>
    obtain ⟨hb, hx0, hd0, hk0, hw0⟩ := w6 (C := Node.cells) hl0 hm0
    refine kr [53] ?_
    refine qh hb ?_
    refine kr [53] ?_
    obtain ⟨x77, hx, h⟩ := bind_some h
    refine qb (AC.g9 (H_F_kidW _ _ _ _ _ _ _ _ _ hx) [0, 1, 2, 3, 4, 5] [0, 1, 2, 11, 12, 13]) ?_
    refine kr [53] ?_
    exact je (by kernel_rfl) (Qb (J1 rfl) (Nat.le_of_ble_eq_true rfl) (by simp only [hw0]; simp <;> (repeat' apply And.intro) <;> first | rfl | exact fun x a _ h => (qj.all a x h).2 | exact fun x a _ h => (qp.all a x h).2) (by simp <;> (repeat' apply And.intro) <;> first | rfl | exact fun x a _ h => (qj.all a x h).2 | exact fun x a _ h => (qp.all a x h).2)) (H_F_statementW_l0 _ _ _ _ _ _ _ _ _ h l0 (j0 + 1) hd0 hk0 hm0)
 ·unfold qa at h
  refine ⟨?_, (q9 rfl rfl (q9 rfl rfl (q9 rfl rfl (zf qp rfl (zf qp rfl (zf qj rfl zv)))))), (qk (qk (qk (qn qp (qn qp (qn qj zh)))))), (za rfl (za rfl (za rfl (ze qp (ze qp (ze qj zx)))))), (qk (qk (qk (qn qp (qn qp (qn qj zh)))))), rfl, rfl, rfl, rfl⟩
  refine zq (T := tt) (N := 100) (rs := []) (fun vs w => by simp) Tryz.func34 rfl rfl rfl (by kernel_rfl) (by kernel_rfl) ?_
  refine kr [] ?_
  refine qg (fun hb => ?_) (fun hb => ?_)
  ·replace h := qx hb h
   refine kr [] ?_
   obtain ⟨x6, hx, h⟩ := bind_some h
   refine qb (AC.g9 (H_F_ownW _ _ _ _ _ _ _ _ _ _ hx) [0, 1, 2, 3, 4, 5] [0, 1, 2, 3, 4, 5]) ?_
   refine kr [] ?_
   obtain ⟨x7, hx, h⟩ := bind_some h
   refine qb (AC.g9 (H_F_ownW _ _ _ _ _ _ _ _ _ _ hx) [0, 1, 2, 3, 4, 5] [0, 1, 2, 6, 7, 5]) ?_
   refine kr [] ?_
   obtain ⟨x8, hx, h⟩ := bind_some h
   refine qb (AC.g9 (H_F_restW _ _ _ _ _ _ _ _ hx) [0, 1, 2, 3, 4, 5] [0, 1, 2, 8, 9, 5]) ?_
   refine kr [] ?_
   cases h
   exact qv env rfl (tS [some 0, some 1, some 2, some 3, some 4, some 5] (sV (lS (lS (lS (lS (lS (lS (lS (lS (lS (lS lN)))))))))) (sV (lS lN) (sV (lS lN) (sR qp (sR qp (sR qj qt)))))) (qz qu))
  ·replace h := qy hb h
   refine kr [] ?_
   refine qg (fun hb => ?_) (fun hb => ?_)
   ·replace h := qx hb h
    refine kr [] ?_
    obtain ⟨x9, hx, h⟩ := bind_some h
    refine qb (AC.g9 (H_F_kidW _ _ _ _ _ _ _ _ _ hx) [0, 1, 2, 3, 4, 5] [0, 1, 2, 3, 4, 5]) ?_
    refine kr [] ?_
    obtain ⟨x10, hx, h⟩ := bind_some h
    refine qb (AC.g9 (H_F_ownW _ _ _ _ _ _ _ _ _ _ hx) [0, 1, 2, 3, 4, 5] [0, 1, 2, 6, 4, 7]) ?_
    refine kr [] ?_
    obtain ⟨x11, hx, h⟩ := bind_some h
    refine qb (AC.g9 (H_F_ownW _ _ _ _ _ _ _ _ _ _ hx) [0, 1, 2, 3, 4, 5] [0, 1, 2, 8, 9, 7]) ?_
    refine kr [] ?_
    obtain ⟨x12, hx, h⟩ := bind_some h
    refine qb (AC.g9 (H_F_ownW _ _ _ _ _ _ _ _ _ _ hx) [0, 1, 2, 3, 4, 5] [0, 1, 2, 10, 11, 7]) ?_
    refine kr [] ?_
    obtain ⟨x13, hx, h⟩ := bind_some h
    refine qb (AC.g9 (H_F_restW _ _ _ _ _ _ _ _ hx) [0, 1, 2, 3, 4, 5] [0, 1, 2, 12, 13, 7]) ?_
    refine kr [] ?_
    cases h
    exact qv env rfl (tS [some 0, some 1, some 2, some 3, some 4, some 5] (sV (lS (lS (lS (lS (lS (lS (lS (lS (lS (lS lN)))))))))) (sV (lS lN) (sV (lS lN) (sR qp (sR qp (sR qj qt)))))) (qz qu))
   ·replace h := qy hb h
    refine kr [] ?_
    refine qg (fun hb => ?_) (fun hb => ?_)
    ·replace h := qx hb h
     refine kr [] ?_
     obtain ⟨x14, hx, h⟩ := bind_some h
     refine qb (AC.g9 (H_F_ownW _ _ _ _ _ _ _ _ _ _ hx) [0, 1, 2, 3, 4, 5] [0, 1, 2, 3, 4, 5]) ?_
     refine kr [] ?_
     obtain ⟨x15, hx, h⟩ := bind_some h
     refine qb (AC.g9 (H_F_ownW _ _ _ _ _ _ _ _ _ _ hx) [0, 1, 2, 3, 4, 5] [0, 1, 2, 6, 7, 5]) ?_
     refine kr [] ?_
     obtain ⟨x16, hx, h⟩ := bind_some h
     refine qb (AC.g9 (H_F_ownW _ _ _ _ _ _ _ _ _ _ hx) [0, 1, 2, 3, 4, 5] [0, 1, 2, 8, 9, 5]) ?_
     refine kr [] ?_
     obtain ⟨x17, hx, h⟩ := bind_some h
     refine qb (AC.g9 (H_F_ownW _ _ _ _ _ _ _ _ _ _ hx) [0, 1, 2, 3, 4, 5] [0, 1, 2, 10, 11, 5]) ?_
     refine kr [] ?_
     cases h
     exact qv env rfl (tS [some 0, some 1, some 2, some 3, some 4, some 5] (sV (lS (lS (lS (lS (lS (lS (lS (lS (lS (lS lN)))))))))) (sV (lS lN) (sV (lS lN) (sR qp (sR qp (sR qj qt)))))) (qz qu))
    ·replace h := qy hb h
     refine kr [] ?_
     refine qg (fun hb => ?_) (fun hb => ?_)
     ·replace h := qx hb h
      refine kr [] ?_
      obtain ⟨x18, hx, h⟩ := bind_some h
      refine qb (AC.g9 (H_F_kidW _ _ _ _ _ _ _ _ _ hx) [0, 1, 2, 3, 4, 5] [0, 1, 2, 3, 4, 5]) ?_
      refine kr [] ?_
      obtain ⟨x19, hx, h⟩ := bind_some h
      refine qb (AC.g9 (H_F_ownW _ _ _ _ _ _ _ _ _ _ hx) [0, 1, 2, 3, 4, 5] [0, 1, 2, 6, 4, 7]) ?_
      refine kr [] ?_
      obtain ⟨x20, hx, h⟩ := bind_some h
      refine qb (AC.g9 (H_F_kidW _ _ _ _ _ _ _ _ _ hx) [0, 1, 2, 3, 4, 5] [0, 1, 2, 8, 9, 7]) ?_
      refine kr [] ?_
      cases h
      exact qv env rfl (tS [some 0, some 1, some 2, some 3, some 4, some 5] (sV (lS (lS (lS (lS (lS (lS (lS (lS (lS (lS lN)))))))))) (sV (lS lN) (sV (lS lN) (sR qp (sR qp (sR qj qt)))))) (qz qu))
     ·replace h := qy hb h
      refine kr [] ?_
      refine qg (fun hb => ?_) (fun hb => ?_)
      ·replace h := qx hb h
       refine kr [] ?_
       obtain ⟨x21, hx, h⟩ := bind_some h
       refine qb (AC.g9 (H_F_ownW _ _ _ _ _ _ _ _ _ _ hx) [0, 1, 2, 3, 4, 5] [0, 1, 2, 3, 4, 5]) ?_
       refine kr [] ?_
       obtain ⟨x22, hx, h⟩ := bind_some h
       refine qb (AC.g9 (H_F_kidW _ _ _ _ _ _ _ _ _ hx) [0, 1, 2, 3, 4, 5] [0, 1, 2, 6, 7, 5]) ?_
       refine kr [] ?_
       cases h
       exact qv env rfl (tS [some 0, some 1, some 2, some 3, some 4, some 5] (sV (lS (lS (lS (lS (lS (lS (lS (lS (lS (lS lN)))))))))) (sV (lS lN) (sV (lS lN) (sR qp (sR qp (sR qj qt)))))) (qz qu))
      ·replace h := qy hb h
       refine kr [] ?_
       refine qg (fun hb => ?_) (fun hb => ?_)
       ·replace h := qx hb h
        refine kr [] ?_
        obtain ⟨x23, hx, h⟩ := bind_some h
        refine qb (AC.g9 (H_F_ownW _ _ _ _ _ _ _ _ _ _ hx) [0, 1, 2, 3, 4, 5] [0, 1, 2, 3, 4, 5]) ?_
        refine kr [] ?_
        obtain ⟨x24, hx, h⟩ := bind_some h
        refine qb (AC.g9 (H_F_kidW _ _ _ _ _ _ _ _ _ hx) [0, 1, 2, 3, 4, 5] [0, 1, 2, 6, 7, 5]) ?_
        refine kr [] ?_
        obtain ⟨x25, hx, h⟩ := bind_some h
        refine qb (AC.g9 (H_F_ownW _ _ _ _ _ _ _ _ _ _ hx) [0, 1, 2, 3, 4, 5] [0, 1, 2, 8, 7, 9]) ?_
        refine kr [] ?_
        cases h
        exact qv env rfl (tS [some 0, some 1, some 2, some 3, some 4, some 5] (sV (lS (lS (lS (lS (lS (lS (lS (lS (lS (lS lN)))))))))) (sV (lS lN) (sV (lS lN) (sR qp (sR qp (sR qj qt)))))) (qz qu))
       ·replace h := qy hb h
        refine kr [] ?_
        obtain ⟨x26, hx, h⟩ := bind_some h
        refine qb (AC.g9 (H_F_ownW _ _ _ _ _ _ _ _ _ _ hx) [0, 1, 2, 3, 4, 5] [0, 1, 2, 3, 4, 5]) ?_
        refine kr [] ?_
        cases h
        exact qv env rfl (tS [some 0, some 1, some 2, some 3, some 4, some 5] (sV (lS (lS (lS (lS (lS (lS (lS (lS (lS (lS lN)))))))))) (sV (lS lN) (sV (lS lN) (sR qp (sR qp (sR qj qt)))))) (qz qu))
theorem H_F_nodeW : PC4 M_F_nodeW F_nodeW := ALL_F_nodeW.1
theorem H_F_otherW : PC8 M_F_otherW F_otherW := ALL_F_nodeW.2.1
theorem H_F_namedW : PC9 M_F_namedW F_namedW := ALL_F_nodeW.2.2.1
theorem H_F_kidW : PC8 M_F_kidW F_kidW := ALL_F_nodeW.2.2.2.1
theorem H_F_bodyW : PC8 M_F_bodyW F_bodyW := ALL_F_nodeW.2.2.2.2.1
theorem H_F_bodyW_l0 : PC8 M_F_bodyW_l0 F_bodyW_l0 := ALL_F_nodeW.2.2.2.2.2.1
theorem H_F_restW : PC7 M_F_restW F_restW := ALL_F_nodeW.2.2.2.2.2.2.1
theorem H_F_restW_l0 : PC8 M_F_restW_l0 F_restW_l0 := ALL_F_nodeW.2.2.2.2.2.2.2.1
theorem H_F_restW_b1 : PC7 M_F_restW_b1 F_restW_b1 := ALL_F_nodeW.2.2.2.2.2.2.2.2.1
theorem H_F_otherW_l0 : PC10 M_F_otherW_l0 F_otherW_l0 := ALL_F_nodeW.2.2.2.2.2.2.2.2.2.1
theorem H_F_otherW_t22 : PC10 M_F_otherW_t22 F_otherW_t22 := ALL_F_nodeW.2.2.2.2.2.2.2.2.2.2.1
theorem H_F_statementW : PC8 M_F_statementW F_statementW := ALL_F_nodeW.2.2.2.2.2.2.2.2.2.2.2.1
theorem H_F_statementW_t53 : PC9 M_F_statementW_t53 F_statementW_t53 := ALL_F_nodeW.2.2.2.2.2.2.2.2.2.2.2.2.1
theorem H_F_statementW_l0 : PC8 M_F_statementW_l0 F_statementW_l0 := ALL_F_nodeW.2.2.2.2.2.2.2.2.2.2.2.2.2.1
theorem H_F_expressionW : PC8 M_F_expressionW F_expressionW := ALL_F_nodeW.2.2.2.2.2.2.2.2.2.2.2.2.2.2
def F_print_Words (a0 : Node) : Option (LB × Int) :=
 F_grammar_Check a0 >>= fun x1 =>
 if (!decide (x1 = (0 : Int))) = true then
  some (([] : LB), x1)
 else
  F_nodeW ([] : LB) a0 (⟨#[]⟩ : BA) (0 : Int) >>= fun x2 =>
  some (x2.2, (0 : Int))
@[reducible] def M_F_print_Words (a0 : Node) (r : LB × Int) : Prop :=
  Fn Tryz.prog G 6 [(.agg (zo a0))] (.tup [(.sl 1 false (r.1.map sc)), (.int .i64 r.2)])
theorem H_F_print_Words : PC1 M_F_print_Words F_print_Words := fun a0 r h => by
 rw [F_print_Words.eq_def] at h
 refine zg (T := tt) (N := 19) (rs := [.tmp 2, .tmp 3]) (fun vs w => by simp) Tryz.func6 rfl rfl rfl rfl (by kernel_rfl) (jb rfl) (zp _ rfl) ?_
 refine kr [] ?_
 obtain ⟨x1, hx, h⟩ := bind_some h
 refine ql (H_F_grammar_Check _ _ hx) ?_
 refine kr [] ?_
 refine qg (fun hb => ?_) (fun hb => ?_)
 ·replace h := qx hb h
  refine kr [] ?_
  cases h
  exact zi env rfl rfl (ua (vn (jv (ka (vv (.inr rfl)) (by simp)) (jv (ka (j5 rfl) (by simp)) uz))))
 ·replace h := qy hb h
  refine kr [] ?_
  obtain ⟨x2, hx, h⟩ := bind_some h
  refine qb (ACalls.ghost (e := 9) (ACalls.wkg (AC.go (objs := [(0, .var 25 (zo a0)), (1, .var 22 [(.bs 1 3 3 0 ([] : LB).length)]), (2, .var 42 [(.fn 15 [(.ptr 1 1 0)])]), (3, .row 9 (([] : LB).map sc).flatten)]) (xs := [(.ptr 2 2 0), (.agg (zo a0)), (.str (⟨#[]⟩ : BA)), (.int .i64 (0 : Int))]) (H_F_nodeW _ _ _ _ _ hx) [2, 1, 3] [2, 1, 3] rfl rfl rfl rfl rfl rfl rfl rfl rfl) (zu (ji _) (zu (ji _) (zu (ji _) (zu (ji _) kq)))) (zj (kp (qw (j9 rfl) wh) (ym _))))) ?_
  refine kr [] ?_
  cases h
  exact zi env rfl rfl (ua (vn (jv (ka (ue qp rfl) (by simp)) (jv (ka (j5 rfl) (by simp)) uz))))
def F_token_class_t3  : Option Int :=
 some (0 : Int)
@[reducible] def M_F_token_class_t3  (r : Int) : Prop :=
  Ok Tryz.prog G tt 29 0 (Ret Tryz.prog [.tmp 2] (fun y H => Told Tryz.prog G H y (.int .i64 r))) (.go [] (yo [3] Tryz.f57 3) [] .z 0 [])
theorem H_F_token_class_t3 : PC0 M_F_token_class_t3 F_token_class_t3 := fun  r h => by
 rw [F_token_class_t3.eq_def] at h
 refine kr [3] ?_
 cases h
 exact kf
def F_token_class (a0 : Int) : Option Int :=
 if (decide ((48 : Int) ≤ a0)) = true then
  if (decide (a0 ≤ (57 : Int))) = true then
   some (1 : Int)
  else
   if (decide ((97 : Int) ≤ a0)) = true then
    if (decide (a0 ≤ (122 : Int))) = true then
     some (2 : Int)
    else
     if (decide ((65 : Int) ≤ a0)) = true then
      if (decide (a0 ≤ (90 : Int))) = true then
       some (2 : Int)
      else
       if (decide (a0 = (95 : Int))) = true then
        some (2 : Int)
       else
        F_strings_IndexByte (⟨#[40, 41, 123, 125, 44, 59, 58, 46, 61, 60, 43, 45, 42, 47, 33, 38, 124]⟩ : BA) a0 >>= fun x1 =>
        if (decide ((0 : Int) ≤ x1)) = true then
         some (3 : Int)
        else
         F_token_class_t3 
     else
      if (decide (a0 = (95 : Int))) = true then
       some (2 : Int)
      else
       F_strings_IndexByte (⟨#[40, 41, 123, 125, 44, 59, 58, 46, 61, 60, 43, 45, 42, 47, 33, 38, 124]⟩ : BA) a0 >>= fun x2 =>
       if (decide ((0 : Int) ≤ x2)) = true then
        some (3 : Int)
       else
        F_token_class_t3 
   else
    if (decide ((65 : Int) ≤ a0)) = true then
     if (decide (a0 ≤ (90 : Int))) = true then
      some (2 : Int)
     else
      if (decide (a0 = (95 : Int))) = true then
       some (2 : Int)
      else
       F_strings_IndexByte (⟨#[40, 41, 123, 125, 44, 59, 58, 46, 61, 60, 43, 45, 42, 47, 33, 38, 124]⟩ : BA) a0 >>= fun x3 =>
       if (decide ((0 : Int) ≤ x3)) = true then
        some (3 : Int)
       else
        F_token_class_t3 
    else
     if (decide (a0 = (95 : Int))) = true then
      some (2 : Int)
     else
      F_strings_IndexByte (⟨#[40, 41, 123, 125, 44, 59, 58, 46, 61, 60, 43, 45, 42, 47, 33, 38, 124]⟩ : BA) a0 >>= fun x4 =>
      if (decide ((0 : Int) ≤ x4)) = true then
       some (3 : Int)
      else
       F_token_class_t3 
 else
  if (decide ((97 : Int) ≤ a0)) = true then
   if (decide (a0 ≤ (122 : Int))) = true then
    some (2 : Int)
   else
    if (decide ((65 : Int) ≤ a0)) = true then
     if (decide (a0 ≤ (90 : Int))) = true then
      some (2 : Int)
     else
      if (decide (a0 = (95 : Int))) = true then
       some (2 : Int)
      else
       F_strings_IndexByte (⟨#[40, 41, 123, 125, 44, 59, 58, 46, 61, 60, 43, 45, 42, 47, 33, 38, 124]⟩ : BA) a0 >>= fun x5 =>
       if (decide ((0 : Int) ≤ x5)) = true then
        some (3 : Int)
       else
        F_token_class_t3 
    else
     if (decide (a0 = (95 : Int))) = true then
      some (2 : Int)
     else
      F_strings_IndexByte (⟨#[40, 41, 123, 125, 44, 59, 58, 46, 61, 60, 43, 45, 42, 47, 33, 38, 124]⟩ : BA) a0 >>= fun x6 =>
      if (decide ((0 : Int) ≤ x6)) = true then
       some (3 : Int)
      else
       F_token_class_t3 
  else
   if (decide ((65 : Int) ≤ a0)) = true then
    if (decide (a0 ≤ (90 : Int))) = true then
     some (2 : Int)
    else
     if (decide (a0 = (95 : Int))) = true then
      some (2 : Int)
     else
      F_strings_IndexByte (⟨#[40, 41, 123, 125, 44, 59, 58, 46, 61, 60, 43, 45, 42, 47, 33, 38, 124]⟩ : BA) a0 >>= fun x7 =>
      if (decide ((0 : Int) ≤ x7)) = true then
       some (3 : Int)
      else
       F_token_class_t3 
   else
    if (decide (a0 = (95 : Int))) = true then
     some (2 : Int)
    else
     F_strings_IndexByte (⟨#[40, 41, 123, 125, 44, 59, 58, 46, 61, 60, 43, 45, 42, 47, 33, 38, 124]⟩ : BA) a0 >>= fun x8 =>
     if (decide ((0 : Int) ≤ x8)) = true then
      some (3 : Int)
     else
      F_token_class_t3 
@[reducible] def M_F_token_class (a0 : Int) (r : Int) : Prop :=
  Fn Tryz.prog G 57 [(.int .u8 a0)] (.int .i64 r)
theorem H_F_token_class : PC1 M_F_token_class F_token_class := fun a0 r h => by
 rw [F_token_class.eq_def] at h
 refine zg (T := tt) (N := 29) (rs := [.tmp 2]) (fun vs w => by simp) Tryz.func57 rfl rfl rfl rfl (by kernel_rfl) (jb rfl) (zp _ rfl) ?_
 refine kr [3] ?_
 refine qm (fun hb => ?_) (fun hb => ?_)
 ·replace h := qx hb h
  refine kr [3] ?_
  refine qg (fun hb => ?_) (fun hb => ?_)
  ·replace h := qx hb h
   refine kr [3] ?_
   cases h
   exact kf
  ·replace h := qy hb h
   refine kr [3] ?_
   refine qm (fun hb => ?_) (fun hb => ?_)
   ·replace h := qx hb h
    refine kr [3] ?_
    refine qg (fun hb => ?_) (fun hb => ?_)
    ·replace h := qx hb h
     refine kr [3] ?_
     cases h
     exact kf
    ·replace h := qy hb h
     refine kr [3] ?_
     refine qm (fun hb => ?_) (fun hb => ?_)
     ·replace h := qx hb h
      refine kr [3] ?_
      refine qg (fun hb => ?_) (fun hb => ?_)
      ·replace h := qx hb h
       refine kr [3] ?_
       cases h
       exact kf
      ·replace h := qy hb h
       refine kr [3] ?_
       refine qg (fun hb => ?_) (fun hb => ?_)
       ·replace h := qx hb h
        refine kr [3] ?_
        cases h
        exact kf
       ·replace h := qy hb h
        refine kr [3] ?_
        obtain ⟨x1, hx, h⟩ := bind_some h
        refine ql (H_F_strings_IndexByte _ _ _ hx) ?_
        refine kr [3] ?_
        refine qg (fun hb => ?_) (fun hb => ?_)
        ·replace h := qx hb h
         refine kr [3] ?_
         cases h
         exact kf
        ·replace h := qy hb h
         refine kr [3] ?_
         exact q7 (by kernel_rfl) rfl lA (H_F_token_class_t3 _ h)
     ·replace h := qy hb h
      refine kr [3] ?_
      refine qg (fun hb => ?_) (fun hb => ?_)
      ·replace h := qx hb h
       refine kr [3] ?_
       cases h
       exact kf
      ·replace h := qy hb h
       refine kr [3] ?_
       obtain ⟨x2, hx, h⟩ := bind_some h
       refine ql (H_F_strings_IndexByte _ _ _ hx) ?_
       refine kr [3] ?_
       refine qg (fun hb => ?_) (fun hb => ?_)
       ·replace h := qx hb h
        refine kr [3] ?_
        cases h
        exact kf
       ·replace h := qy hb h
        refine kr [3] ?_
        exact q7 (by kernel_rfl) rfl lA (H_F_token_class_t3 _ h)
   ·replace h := qy hb h
    refine kr [3] ?_
    refine qm (fun hb => ?_) (fun hb => ?_)
    ·replace h := qx hb h
     refine kr [3] ?_
     refine qg (fun hb => ?_) (fun hb => ?_)
     ·replace h := qx hb h
      refine kr [3] ?_
      cases h
      exact kf
     ·replace h := qy hb h
      refine kr [3] ?_
      refine qg (fun hb => ?_) (fun hb => ?_)
      ·replace h := qx hb h
       refine kr [3] ?_
       cases h
       exact kf
      ·replace h := qy hb h
       refine kr [3] ?_
       obtain ⟨x3, hx, h⟩ := bind_some h
       refine ql (H_F_strings_IndexByte _ _ _ hx) ?_
       refine kr [3] ?_
       refine qg (fun hb => ?_) (fun hb => ?_)
       ·replace h := qx hb h
        refine kr [3] ?_
        cases h
        exact kf
       ·replace h := qy hb h
        refine kr [3] ?_
        exact q7 (by kernel_rfl) rfl lA (H_F_token_class_t3 _ h)
    ·replace h := qy hb h
     refine kr [3] ?_
     refine qg (fun hb => ?_) (fun hb => ?_)
     ·replace h := qx hb h
      refine kr [3] ?_
      cases h
      exact kf
     ·replace h := qy hb h
      refine kr [3] ?_
      obtain ⟨x4, hx, h⟩ := bind_some h
      refine ql (H_F_strings_IndexByte _ _ _ hx) ?_
      refine kr [3] ?_
      refine qg (fun hb => ?_) (fun hb => ?_)
      ·replace h := qx hb h
       refine kr [3] ?_
       cases h
       exact kf
      ·replace h := qy hb h
       refine kr [3] ?_
       exact q7 (by kernel_rfl) rfl lA (H_F_token_class_t3 _ h)
 ·replace h := qy hb h
  refine kr [3] ?_
  refine qm (fun hb => ?_) (fun hb => ?_)
  ·replace h := qx hb h
   refine kr [3] ?_
   refine qg (fun hb => ?_) (fun hb => ?_)
   ·replace h := qx hb h
    refine kr [3] ?_
    cases h
    exact kf
   ·replace h := qy hb h
    refine kr [3] ?_
    refine qm (fun hb => ?_) (fun hb => ?_)
    ·replace h := qx hb h
     refine kr [3] ?_
     refine qg (fun hb => ?_) (fun hb => ?_)
     ·replace h := qx hb h
      refine kr [3] ?_
      cases h
      exact kf
     ·replace h := qy hb h
      refine kr [3] ?_
      refine qg (fun hb => ?_) (fun hb => ?_)
      ·replace h := qx hb h
       refine kr [3] ?_
       cases h
       exact kf
      ·replace h := qy hb h
       refine kr [3] ?_
       obtain ⟨x5, hx, h⟩ := bind_some h
       refine ql (H_F_strings_IndexByte _ _ _ hx) ?_
       refine kr [3] ?_
       refine qg (fun hb => ?_) (fun hb => ?_)
       ·replace h := qx hb h
        refine kr [3] ?_
        cases h
        exact kf
       ·replace h := qy hb h
        refine kr [3] ?_
        exact q7 (by kernel_rfl) rfl lA (H_F_token_class_t3 _ h)
    ·replace h := qy hb h
     refine kr [3] ?_
     refine qg (fun hb => ?_) (fun hb => ?_)
     ·replace h := qx hb h
      refine kr [3] ?_
      cases h
      exact kf
     ·replace h := qy hb h
      refine kr [3] ?_
      obtain ⟨x6, hx, h⟩ := bind_some h
      refine ql (H_F_strings_IndexByte _ _ _ hx) ?_
      refine kr [3] ?_
      refine qg (fun hb => ?_) (fun hb => ?_)
      ·replace h := qx hb h
       refine kr [3] ?_
       cases h
       exact kf
      ·replace h := qy hb h
       refine kr [3] ?_
       exact q7 (by kernel_rfl) rfl lA (H_F_token_class_t3 _ h)
  ·replace h := qy hb h
   refine kr [3] ?_
   refine qm (fun hb => ?_) (fun hb => ?_)
   ·replace h := qx hb h
    refine kr [3] ?_
    refine qg (fun hb => ?_) (fun hb => ?_)
    ·replace h := qx hb h
     refine kr [3] ?_
     cases h
     exact kf
    ·replace h := qy hb h
     refine kr [3] ?_
     refine qg (fun hb => ?_) (fun hb => ?_)
     ·replace h := qx hb h
      refine kr [3] ?_
      cases h
      exact kf
     ·replace h := qy hb h
      refine kr [3] ?_
      obtain ⟨x7, hx, h⟩ := bind_some h
      refine ql (H_F_strings_IndexByte _ _ _ hx) ?_
      refine kr [3] ?_
      refine qg (fun hb => ?_) (fun hb => ?_)
      ·replace h := qx hb h
       refine kr [3] ?_
       cases h
       exact kf
      ·replace h := qy hb h
       refine kr [3] ?_
       exact q7 (by kernel_rfl) rfl lA (H_F_token_class_t3 _ h)
   ·replace h := qy hb h
    refine kr [3] ?_
    refine qg (fun hb => ?_) (fun hb => ?_)
    ·replace h := qx hb h
     refine kr [3] ?_
     cases h
     exact kf
    ·replace h := qy hb h
     refine kr [3] ?_
     obtain ⟨x8, hx, h⟩ := bind_some h
     refine ql (H_F_strings_IndexByte _ _ _ hx) ?_
     refine kr [3] ?_
     refine qg (fun hb => ?_) (fun hb => ?_)
     ·replace h := qx hb h
      refine kr [3] ?_
      cases h
      exact kf
     ·replace h := qy hb h
      refine kr [3] ?_
      exact q7 (by kernel_rfl) rfl lA (H_F_token_class_t3 _ h)
def F_token_wordy (a0 : Int) : Option Bool :=
 F_token_class a0 >>= fun x1 =>
 if (decide (x1 = (2 : Int))) = true then
  some true
 else
  F_token_class a0 >>= fun x2 =>
  some (decide (x2 = (1 : Int)))
@[reducible] def M_F_token_wordy (a0 : Int) (r : Bool) : Prop :=
  Fn Tryz.prog G 37 [(.int .u8 a0)] (.bool r)
theorem H_F_token_wordy : PC1 M_F_token_wordy F_token_wordy := fun a0 r h => by
 rw [F_token_wordy.eq_def] at h
 refine zg (T := tt) (N := 11) (rs := [.tmp 2]) (fun vs w => by simp) Tryz.func37 rfl rfl rfl rfl (by kernel_rfl) (jb rfl) (zp _ rfl) ?_
 refine kr [] ?_
 obtain ⟨x1, hx, h⟩ := bind_some h
 refine ql (H_F_token_class _ _ hx) ?_
 refine kr [] ?_
 refine qr (fun hb => ?_) (fun hb => ?_)
 ·replace h := qy hb h
  refine kr [] ?_
  obtain ⟨x2, hx, h⟩ := bind_some h
  refine ql (H_F_token_class _ _ hx) ?_
  refine kr [] ?_
  cases h
  exact kf
 ·replace h := qx hb h
  refine kr [] ?_
  cases h
  exact kf
def F_token_Glue_t11 (t0 : BA) (t1 : BA) : Option Bool :=
 if (decide (t0 = (⟨#[47]⟩ : BA))) = true then
  some (decide (t1 = (⟨#[47]⟩ : BA)))
 else
  some false
@[reducible] def M_F_token_Glue_t11 (t0 : BA) (t1 : BA) (r : Bool) : Prop :=
  Ok Tryz.prog G tt 38 0 (Ret Tryz.prog [.tmp 4] (fun y H => Told Tryz.prog G H y (.bool r))) (.go [] (yo [11] Tryz.f18 11) [] (.n (.str t0) (.n (.str t1) .z .z) .z) 0 [])
theorem H_F_token_Glue_t11 : PC2 M_F_token_Glue_t11 F_token_Glue_t11 := fun t0 t1 r h => by
 rw [F_token_Glue_t11.eq_def] at h
 refine kr [11] ?_
 refine qm (fun hb => ?_) (fun hb => ?_)
 ·replace h := qx hb h
  refine kr [11] ?_
  cases h
  exact kf
 ·replace h := qy hb h
  refine kr [11] ?_
  cases h
  exact kf
def F_token_Glue (a0 : BA) (a1 : BA) : Option Bool :=
 if (decide (a0 = (⟨#[]⟩ : BA))) = true then
  some false
 else
  if (decide (a1 = (⟨#[]⟩ : BA))) = true then
   some false
  else
   sx a0 (IntKind.i64.wrap ((a0.size : Int) - (1 : Int))) >>= fun x1 =>
   F_token_wordy x1 >>= fun x2 =>
   if x2 = true then
    sx a1 (0 : Int) >>= fun x3 =>
    F_token_wordy x3 >>= fun x4 =>
    if x4 = true then
     some true
    else
     if (decide (a0 = (⟨#[61]⟩ : BA))) = true then
      if (decide (a1 = (⟨#[61]⟩ : BA))) = true then
       some true
      else
       some (decide (a1 = (⟨#[61, 61]⟩ : BA)))
     else
      F_token_Glue_t11 a0 a1
   else
    if (decide (a0 = (⟨#[61]⟩ : BA))) = true then
     if (decide (a1 = (⟨#[61]⟩ : BA))) = true then
      some true
     else
      some (decide (a1 = (⟨#[61, 61]⟩ : BA)))
    else
     F_token_Glue_t11 a0 a1
@[reducible] def M_F_token_Glue (a0 : BA) (a1 : BA) (r : Bool) : Prop :=
  Fn Tryz.prog G 18 [(.str a0), (.str a1)] (.bool r)
theorem H_F_token_Glue : PC2 M_F_token_Glue F_token_Glue := fun a0 a1 r h => by
 rw [F_token_Glue.eq_def] at h
 refine zg (T := tt) (N := 38) (rs := [.tmp 4]) (fun vs w => by simp) Tryz.func18 rfl rfl rfl rfl (by kernel_rfl) (jb rfl) (zp _ rfl) ?_
 refine kr [11] ?_
 refine qr (fun hb => ?_) (fun hb => ?_)
 ·replace h := qy hb h
  refine kr [11] ?_
  refine qg (fun hb => ?_) (fun hb => ?_)
  ·replace h := qx hb h
   refine kr [11] ?_
   cases h
   exact kf
  ·replace h := qy hb h
   refine kr [11] ?_
   obtain ⟨x1, hx, h⟩ := bind_some h
   refine Ok_sxT env hx rfl rfl rfl rfl ?_
   refine kr [11] ?_
   obtain ⟨x2, hx, h⟩ := bind_some h
   refine ql (H_F_token_wordy _ _ hx) ?_
   refine kr [11] ?_
   refine qm (fun hb => ?_) (fun hb => ?_)
   ·replace h := qx hb h
    refine kr [11] ?_
    obtain ⟨x3, hx, h⟩ := bind_some h
    refine Ok_sxT env hx rfl rfl rfl rfl ?_
    refine kr [11] ?_
    obtain ⟨x4, hx, h⟩ := bind_some h
    refine ql (H_F_token_wordy _ _ hx) ?_
    refine kr [11] ?_
    refine qg (fun hb => ?_) (fun hb => ?_)
    ·replace h := qx hb h
     refine kr [11] ?_
     cases h
     exact kf
    ·replace h := qy hb h
     refine kr [11] ?_
     refine qg (fun hb => ?_) (fun hb => ?_)
     ·replace h := qx hb h
      refine kr [11] ?_
      refine qr (fun hb => ?_) (fun hb => ?_)
      ·replace h := qy hb h
       refine kr [11] ?_
       cases h
       exact kf
      ·replace h := qx hb h
       refine kr [11] ?_
       cases h
       exact kf
     ·replace h := qy hb h
      refine kr [11] ?_
      exact q7 (by kernel_rfl) rfl lA (H_F_token_Glue_t11 _ _ _ h)
   ·replace h := qy hb h
    refine kr [11] ?_
    refine qg (fun hb => ?_) (fun hb => ?_)
    ·replace h := qx hb h
     refine kr [11] ?_
     refine qr (fun hb => ?_) (fun hb => ?_)
     ·replace h := qy hb h
      refine kr [11] ?_
      cases h
      exact kf
     ·replace h := qx hb h
      refine kr [11] ?_
      cases h
      exact kf
    ·replace h := qy hb h
     refine kr [11] ?_
     exact q7 (by kernel_rfl) rfl lA (H_F_token_Glue_t11 _ _ _ h)
 ·replace h := qx hb h
  refine kr [11] ?_
  cases h
  exact kf
def F_internal_stringslite_HasPrefix (a0 : BA) (a1 : BA) : Option Bool :=
 if (decide ((a1.size : Int) ≤ (a0.size : Int))) = true then
  ssub a0 (0 : Int) (a1.size : Int) >>= fun x1 =>
  some (decide (x1 = a1))
 else
  some false
@[reducible] def M_F_internal_stringslite_HasPrefix (a0 : BA) (a1 : BA) (r : Bool) : Prop :=
  Fn Tryz.prog G 38 [(.str a0), (.str a1)] (.bool r)
theorem H_F_internal_stringslite_HasPrefix : PC2 M_F_internal_stringslite_HasPrefix F_internal_stringslite_HasPrefix := fun a0 a1 r h => by
 rw [F_internal_stringslite_HasPrefix.eq_def] at h
 refine zg (T := tt) (N := 18) (rs := [.tmp 4]) (fun vs w => by simp) Tryz.func38 rfl rfl rfl rfl (by kernel_rfl) (jb rfl) (zp _ rfl) ?_
 refine kr [] ?_
 refine qm (fun hb => ?_) (fun hb => ?_)
 ·replace h := qx hb h
  refine kr [] ?_
  obtain ⟨x1, hx, h⟩ := bind_some h
  refine Zd env hx rfl rfl rfl rfl rfl ?_
  refine kr [] ?_
  cases h
  exact kf
 ·replace h := qy hb h
  refine kr [] ?_
  cases h
  exact kf
def F_strings_HasPrefix (a0 : BA) (a1 : BA) : Option Bool :=
 F_internal_stringslite_HasPrefix a0 a1 >>= fun x1 =>
 some x1
@[reducible] def M_F_strings_HasPrefix (a0 : BA) (a1 : BA) (r : Bool) : Prop :=
  Fn Tryz.prog G 19 [(.str a0), (.str a1)] (.bool r)
theorem H_F_strings_HasPrefix : PC2 M_F_strings_HasPrefix F_strings_HasPrefix := fun a0 a1 r h => by
 rw [F_strings_HasPrefix.eq_def] at h
 refine zg (T := tt) (N := 8) (rs := [.tmp 4]) (fun vs w => by simp) Tryz.func19 rfl rfl rfl rfl (by kernel_rfl) (jb rfl) (zp _ rfl) ?_
 refine kr [] ?_
 obtain ⟨x1, hx, h⟩ := bind_some h
 refine ql (H_F_internal_stringslite_HasPrefix _ _ _ hx) ?_
 refine kr [] ?_
 cases h
 exact kf
def F_strings_Builder_WriteBytes2 (l : LU) (c : Int) : Option LU := if l.length + 1 ≤ 140737488355328 ∧ 0 ≤ c ∧ c < 256 then some (l ++ [c.toNat.toUInt8]) else none
theorem H_F_strings_Builder_WriteBytes2 (l : LU) (c : Int) (r : LU) (h : F_strings_Builder_WriteBytes2 l c = some r) : AC Tryz.prog G 20 [.ptr 0 0 0, .int .u8 c] 2 [(0, .var 47 [.optr 0 0 0, .bs 1 1 1 0 l.length]), (1, .row 5 (l.map c8).flatten)] .nili 3 [(0, .var 47 [.optr 0 0 0, .bs 1 1 2 0 r.length]), (2, .row 5 (r.map c8).flatten)] := by
 unfold F_strings_Builder_WriteBytes2 at h
 split at h
 ·rename_i hc; cases h; exact AC_WriteByte l c hc
 ·cases h
def F_strings_Builder_WriteStrings2 (l : LU) (s : BA) : Option LU := if l.length + s.size ≤ 140737488355328 then some (l ++ s.data.toList) else none
theorem H_F_strings_Builder_WriteStrings2 (l : LU) (s : BA) (r : LU) (h : F_strings_Builder_WriteStrings2 l s = some r) : AC Tryz.prog G 21 [.ptr 0 0 0, .str s] 2 [(0, .var 47 [.optr 0 0 0, .bs 1 1 1 0 l.length]), (1, .row 5 (l.map c8).flatten)] (.tup [.int .i64 (s.size : Int), .nili]) 3 [(0, .var 47 [.optr 0 0 0, .bs 1 1 2 0 r.length]), (2, .row 5 (r.map c8).flatten)] := by
 unfold F_strings_Builder_WriteStrings2 at h
 split at h
 ·rename_i hc; cases h; exact AC_WriteString l s hc
 ·cases h
def F_emitT_t20 (t0 : BA) (t1 : BA) (o0 : BA) (o1_1 : LU) : Option (BA × LU) :=
 F_strings_Builder_WriteStrings2 o1_1 t0 >>= fun x7 =>
 F_strings_Builder_WriteStrings2 x7 t1 >>= fun x8 =>
 some (t1, x8)
@[reducible] def M_F_emitT_t20 (t0 : BA) (t1 : BA) (o0 : BA) (o1_1 : LU) (r : BA × LU) : Prop :=
  Ok Tryz.prog G tt 27 3 (Ret Tryz.prog [] (fun y H => yb Tryz.prog G 3 H y (.tup []) ⟨4, [(0, .var 9 [(.str r.1)]), (1, .var 47 [(.optr 1 1 0), (.bs 1 2 3 0 r.2.length)]), (3, .row 5 (r.2.map c8).flatten)]⟩)) (.go [] (yo [20] Tryz.f17 20) [] (.n (.str t0) (.n (.str t1) (.n (.ptr 1 1 0) .z .z) .z) (.n (.ptr 0 0 0) .z .z)) 5 [(0, .var 9 [(.str o0)]), (1, .var 47 [(.optr 1 1 0), (.bs 1 2 4 0 o1_1.length)]), (4, .row 5 (o1_1.map c8).flatten)])
theorem H_F_emitT_t20 : PC4 M_F_emitT_t20 F_emitT_t20 := fun t0 t1 o0 o1_1 r h => by
 rw [F_emitT_t20.eq_def] at h
 refine kr [20] ?_
 obtain ⟨x7, hx, h⟩ := bind_some h
 refine qb (AC.g9 (H_F_strings_Builder_WriteStrings2 _ _ _ hx) [1, 2] [1, 4]) ?_
 refine kr [20] ?_
 obtain ⟨x8, hx, h⟩ := bind_some h
 refine qb (AC.g9 (H_F_strings_Builder_WriteStrings2 _ _ _ hx) [1, 2] [1, 5]) ?_
 refine kr [20] ?_
 cases h
 exact qv env rfl (tS [some 0, some 1, some 2] (sV (lS lN) (sV (lS (lS lN)) (sR zn qt))) (qz qu))
def F_emitT (a0 : BA) (a1 : BA) (a2 : BA) (a3 : LU) : Option (BA × LU) :=
 if (decide (a0 = (⟨#[]⟩ : BA))) = true then
  F_token_Glue a2 a1 >>= fun x1 =>
  if x1 = true then
   F_strings_Builder_WriteBytes2 a3 (32 : Int) >>= fun x4 =>
   F_emitT_t20 a0 a1 a2 x4
  else
   if (decide (a2 = (⟨#[47]⟩ : BA))) = true then
    F_strings_HasPrefix a0 (⟨#[47]⟩ : BA) >>= fun x2 =>
    if x2 = true then
     F_strings_Builder_WriteBytes2 a3 (32 : Int) >>= fun x3 =>
     F_emitT_t20 a0 a1 a2 x3
    else
     F_emitT_t20 a0 a1 a2 a3
   else
    F_emitT_t20 a0 a1 a2 a3
 else
  if (decide (a2 = (⟨#[47]⟩ : BA))) = true then
   F_strings_HasPrefix a0 (⟨#[47]⟩ : BA) >>= fun x5 =>
   if x5 = true then
    F_strings_Builder_WriteBytes2 a3 (32 : Int) >>= fun x6 =>
    F_emitT_t20 a0 a1 a2 x6
   else
    F_emitT_t20 a0 a1 a2 a3
  else
   F_emitT_t20 a0 a1 a2 a3
@[reducible] def M_F_emitT (a0 : BA) (a1 : BA) (a2 : BA) (a3 : LU) (r : BA × LU) : Prop :=
  AC Tryz.prog G 17 [(.str a0), (.str a1), (.ptr 0 0 0), (.ptr 1 1 0)] 3 [(0, .var 9 [(.str a2)]), (1, .var 47 [(.optr 1 1 0), (.bs 1 2 2 0 a3.length)]), (2, .row 5 (a3.map c8).flatten)] (.tup []) 4 [(0, .var 9 [(.str r.1)]), (1, .var 47 [(.optr 1 1 0), (.bs 1 2 3 0 r.2.length)]), (3, .row 5 (r.2.map c8).flatten)]
theorem H_F_emitT : PC4 M_F_emitT F_emitT := fun a0 a1 a2 a3 r h => by
 rw [F_emitT.eq_def] at h
 refine ⟨?_, (q9 rfl rfl (q9 rfl rfl (zf zn rfl zv))), (qk (qk (qn zn zh))), (za rfl (za rfl (ze zn zx))), (qk (qk (qn zn zh))), rfl, rfl, rfl, rfl⟩
 refine zq (T := tt) (N := 27) (rs := []) (fun vs w => by simp) Tryz.func17 rfl rfl rfl (by kernel_rfl) (by kernel_rfl) ?_
 refine kr [20] ?_
 refine qm (fun hb => ?_) (fun hb => ?_)
 ·replace h := qx hb h
  refine kr [20] ?_
  obtain ⟨x1, hx, h⟩ := bind_some h
  refine ql (H_F_token_Glue _ _ _ hx) ?_
  refine kr [20] ?_
  refine qr (fun hb => ?_) (fun hb => ?_)
  ·replace h := qy hb h
   refine kr [20] ?_
   refine qm (fun hb => ?_) (fun hb => ?_)
   ·replace h := qx hb h
    refine kr [20] ?_
    obtain ⟨x2, hx, h⟩ := bind_some h
    refine ql (H_F_strings_HasPrefix _ _ _ hx) ?_
    refine kr [20] ?_
    refine qg (fun hb => ?_) (fun hb => ?_)
    ·replace h := qx hb h
     refine kr [20] ?_
     obtain ⟨x3, hx, h⟩ := bind_some h
     refine qb (AC.g9 (H_F_strings_Builder_WriteBytes2 _ _ _ hx) [1, 2] [1, 2]) ?_
     refine kr [20] ?_
     exact q7 (by kernel_rfl) rfl lQ (H_F_emitT_t20 _ _ _ _ _ h)
    ·replace h := qy hb h
     refine kr [20] ?_
     exact q7 (by kernel_rfl) rfl lQ (H_F_emitT_t20 _ _ _ _ _ h)
   ·replace h := qy hb h
    refine kr [20] ?_
    exact q7 (by kernel_rfl) rfl lQ (H_F_emitT_t20 _ _ _ _ _ h)
  ·replace h := qx hb h
   refine kr [20] ?_
   obtain ⟨x4, hx, h⟩ := bind_some h
   refine qb (AC.g9 (H_F_strings_Builder_WriteBytes2 _ _ _ hx) [1, 2] [1, 2]) ?_
   refine kr [20] ?_
   exact q7 (by kernel_rfl) rfl lQ (H_F_emitT_t20 _ _ _ _ _ h)
 ·replace h := qy hb h
  refine kr [20] ?_
  refine qm (fun hb => ?_) (fun hb => ?_)
  ·replace h := qx hb h
   refine kr [20] ?_
   obtain ⟨x5, hx, h⟩ := bind_some h
   refine ql (H_F_strings_HasPrefix _ _ _ hx) ?_
   refine kr [20] ?_
   refine qg (fun hb => ?_) (fun hb => ?_)
   ·replace h := qx hb h
    refine kr [20] ?_
    obtain ⟨x6, hx, h⟩ := bind_some h
    refine qb (AC.g9 (H_F_strings_Builder_WriteBytes2 _ _ _ hx) [1, 2] [1, 2]) ?_
    refine kr [20] ?_
    exact q7 (by kernel_rfl) rfl lQ (H_F_emitT_t20 _ _ _ _ _ h)
   ·replace h := qy hb h
    refine kr [20] ?_
    exact q7 (by kernel_rfl) rfl lQ (H_F_emitT_t20 _ _ _ _ _ h)
  ·replace h := qy hb h
   refine kr [20] ?_
   exact q7 (by kernel_rfl) rfl lQ (H_F_emitT_t20 _ _ _ _ _ h)
def F_ownT_t22 (t1 : BA) (t2 : BA) (t6 : BA) (o0_1 : Node) (a0 : Int) (a1 : BA) (a2 : LB) (a3 : LN) (o0_3 : Int) (o2 : BA) (o3_1 : LU) : Option (BA × LU × LB) :=
 app 16 a2 ([t1]) >>= fun x2 =>
 F_emitT t6 t2 o2 o3_1 >>= fun x3 =>
 some (x3.1, x3.2, x2)
@[reducible] def M_F_ownT_t22 (t1 : BA) (t2 : BA) (t6 : BA) (o0_1 : Node) (a0 : Int) (a1 : BA) (a2 : LB) (a3 : LN) (o0_3 : Int) (o2 : BA) (o3_1 : LU) (r : BA × LU × LB) : Prop :=
  Ok Tryz.prog G tt 53 7 (Ret Tryz.prog [] (fun y H => yb Tryz.prog G 7 H y (.tup []) ⟨9, [(0, .var 67 [(.ptr 1 1 0), (.int .i64 o0_1.kind), (.str o0_1.text), (.sl 1 false (o0_1.gaps.map sc)), (.sl 4 false (o0_1.kids.map Node.cells)), (.int .i64 a0), (.str a1), (.bs 1 5 8 0 r.2.2.length), (.bs 4 6 6 0 a3.length), (.int .i64 o0_3)]), (1, .var 42 [(.fn 17 [(.ptr 2 2 0), (.ptr 3 3 0)])]), (2, .var 9 [(.str r.1)]), (3, .var 47 [(.optr 3 3 0), (.bs 1 4 7 0 r.2.1.length)]), (7, .row 5 (r.2.1.map c8).flatten), (8, .row 9 (r.2.2.map sc).flatten), (6, .row 25 (a3.map Node.cells).flatten)]⟩)) (.go [] (yo [22] Tryz.f52 22) [] (.n (.ptr 0 0 0) (.n (.str t1) .z .z) (.n (.str t2) .z (.n (.str t6) .z .z))) 9 [(0, .var 67 [(.ptr 1 1 0), (.int .i64 o0_1.kind), (.str o0_1.text), (.sl 1 false (o0_1.gaps.map sc)), (.sl 4 false (o0_1.kids.map Node.cells)), (.int .i64 a0), (.str a1), (.bs 1 5 8 0 a2.length), (.bs 4 6 6 0 a3.length), (.int .i64 o0_3)]), (1, .var 42 [(.fn 17 [(.ptr 2 2 0), (.ptr 3 3 0)])]), (2, .var 9 [(.str o2)]), (3, .var 47 [(.optr 3 3 0), (.bs 1 4 7 0 o3_1.length)]), (7, .row 5 (o3_1.map c8).flatten), (8, .row 9 (a2.map sc).flatten), (6, .row 25 (a3.map Node.cells).flatten)])
theorem H_F_ownT_t22 : PC11 M_F_ownT_t22 F_ownT_t22 := fun t1 t2 t6 o0_1 a0 a1 a2 a3 o0_3 o2 o3_1 r h => by
 rw [F_ownT_t22.eq_def] at h
 refine kr [22] ?_
 obtain ⟨x2, hx, h⟩ := bind_some h
 have hp_x2 := Zt hx (by simp)
 refine Qk (C := sc) env hx rfl rfl (by simp) (fun _ => rfl) rfl rfl rfl rfl rfl (by decide) rfl rfl rfl ?_
 refine kr [22] ?_
 obtain ⟨x3, hx, h⟩ := bind_some h
 refine qb (AC.g9 (H_F_emitT _ _ _ _ _ hx) [2, 3, 4] [2, 3, 7]) ?_
 refine kr [22] ?_
 cases h
 exact qv env rfl (tS [some 0, some 1, some 2, some 3, some 4, some 5, some 6] (sV (lS (lS (lS (lS (lS (lS (lS (lS (lS (lS lN)))))))))) (sV (lS lN) (sV (lS lN) (sV (lS (lS lN)) (sR zn (sR qp (sR qj qt))))))) (qz qu))
def F_ownT (a0 : BA) (a3 : LU) (a0_n : Node) (a4 : Int) (a5 : BA) (a6 : LB) (a7 : LN) (a8 : Int) (a1 : BA) (a2 : BA) : Option (BA × LU × LB) :=
 if (decide ((a6.length : Int) < ((a0_n.gaps.map sc).length : Int))) = true then
  ix a0_n.gaps (a6.length : Int) >>= fun x1 =>
  F_ownT_t22 a1 a2 x1 a0_n a4 a5 a6 a7 a8 a0 a3
 else
  F_ownT_t22 a1 a2 a1 a0_n a4 a5 a6 a7 a8 a0 a3
@[reducible] def M_F_ownT (a0 : BA) (a3 : LU) (a0_n : Node) (a4 : Int) (a5 : BA) (a6 : LB) (a7 : LN) (a8 : Int) (a1 : BA) (a2 : BA) (r : BA × LU × LB) : Prop :=
  AC Tryz.prog G 52 [(.ptr 0 0 0), (.str a1), (.str a2)] 7 [(0, .var 67 [(.ptr 1 1 0), (.int .i64 a0_n.kind), (.str a0_n.text), (.sl 1 false (a0_n.gaps.map sc)), (.sl 4 false (a0_n.kids.map Node.cells)), (.int .i64 a4), (.str a5), (.bs 1 5 5 0 a6.length), (.bs 4 6 6 0 a7.length), (.int .i64 a8)]), (1, .var 42 [(.fn 17 [(.ptr 2 2 0), (.ptr 3 3 0)])]), (2, .var 9 [(.str a0)]), (3, .var 47 [(.optr 3 3 0), (.bs 1 4 4 0 a3.length)]), (4, .row 5 (a3.map c8).flatten), (5, .row 9 (a6.map sc).flatten), (6, .row 25 (a7.map Node.cells).flatten)] (.tup []) 9 [(0, .var 67 [(.ptr 1 1 0), (.int .i64 a0_n.kind), (.str a0_n.text), (.sl 1 false (a0_n.gaps.map sc)), (.sl 4 false (a0_n.kids.map Node.cells)), (.int .i64 a4), (.str a5), (.bs 1 5 8 0 r.2.2.length), (.bs 4 6 6 0 a7.length), (.int .i64 a8)]), (1, .var 42 [(.fn 17 [(.ptr 2 2 0), (.ptr 3 3 0)])]), (2, .var 9 [(.str r.1)]), (3, .var 47 [(.optr 3 3 0), (.bs 1 4 7 0 r.2.1.length)]), (7, .row 5 (r.2.1.map c8).flatten), (8, .row 9 (r.2.2.map sc).flatten), (6, .row 25 (a7.map Node.cells).flatten)]
theorem H_F_ownT : PC10 M_F_ownT F_ownT := fun a0 a3 a0_n a4 a5 a6 a7 a8 a1 a2 r h => by
 rw [F_ownT.eq_def] at h
 refine ⟨?_, (q9 rfl rfl (q9 rfl rfl (q9 rfl rfl (q9 rfl rfl (zf zn rfl (zf qp rfl (zf qj rfl zv))))))), (qk (qk (qk (qk (qn zn (qn qp (qn qj zh))))))), (za rfl (za rfl (za rfl (za rfl (ze zn (ze qp (ze qj zx))))))), (qk (qk (qk (qk (qn zn (qn qp (qn qj zh))))))), rfl, rfl, rfl, rfl⟩
 refine zq (T := tt) (N := 53) (rs := []) (fun vs w => by simp) Tryz.func52 rfl rfl rfl (by kernel_rfl) (by kernel_rfl) ?_
 refine kr [22] ?_
 refine qg (fun hb => ?_) (fun hb => ?_)
 ·replace h := qx hb h
  refine kr [22] ?_
  obtain ⟨x1, hx, h⟩ := bind_some h
  refine w9 env hx rfl rfl rfl rfl rfl ?_
  refine kr [22] ?_
  exact q7 (by kernel_rfl) rfl lQ (H_F_ownT_t22 _ _ _ _ _ _ _ _ _ _ _ _ h)
 ·replace h := qy hb h
  refine kr [22] ?_
  exact q7 (by kernel_rfl) rfl lQ (H_F_ownT_t22 _ _ _ _ _ _ _ _ _ _ _ _ h)
def F_otherT_t33 (t1 : BA) (o0_1 : Node) (a0 : Int) (a1 : BA) (a2 : LB) (a3 : LN) (o0_3 : Int) (o2 : BA) (o3_1 : LU) : Option (BA × LU × LB × LN × Int) :=
 F_ownT o2 o3_1 o0_1 a0 a1 a2 a3 o0_3 t1 (⟨#[]⟩ : BA) >>= fun x78 =>
 some (x78.1, x78.2.1, x78.2.2, a3, o0_3)
@[reducible] def M_F_otherT_t33 (t1 : BA) (o0_1 : Node) (a0 : Int) (a1 : BA) (a2 : LB) (a3 : LN) (o0_3 : Int) (o2 : BA) (o3_1 : LU) (r : BA × LU × LB × LN × Int) : Prop :=
  Ok Tryz.prog G tt 146 7 (Ret Tryz.prog [] (fun y H => yb Tryz.prog G 7 H y (.tup []) ⟨10, [(0, .var 67 [(.ptr 1 1 0), (.int .i64 o0_1.kind), (.str o0_1.text), (.sl 1 false (o0_1.gaps.map sc)), (.sl 4 false (o0_1.kids.map Node.cells)), (.int .i64 a0), (.str a1), (.bs 1 5 8 0 r.2.2.1.length), (.bs 4 6 9 0 r.2.2.2.1.length), (.int .i64 r.2.2.2.2)]), (1, .var 42 [(.fn 17 [(.ptr 2 2 0), (.ptr 3 3 0)])]), (2, .var 9 [(.str r.1)]), (3, .var 47 [(.optr 3 3 0), (.bs 1 4 7 0 r.2.1.length)]), (7, .row 5 (r.2.1.map c8).flatten), (8, .row 9 (r.2.2.1.map sc).flatten), (9, .row 25 (r.2.2.2.1.map Node.cells).flatten)]⟩)) (.go [] (yo [22, 33] Tryz.f36 33) [] (.n (.ptr 0 0 0) (.n (.str t1) .z .z) .z) 13 [(0, .var 67 [(.ptr 1 1 0), (.int .i64 o0_1.kind), (.str o0_1.text), (.sl 1 false (o0_1.gaps.map sc)), (.sl 4 false (o0_1.kids.map Node.cells)), (.int .i64 a0), (.str a1), (.bs 1 5 11 0 a2.length), (.bs 4 6 12 0 a3.length), (.int .i64 o0_3)]), (1, .var 42 [(.fn 17 [(.ptr 2 2 0), (.ptr 3 3 0)])]), (2, .var 9 [(.str o2)]), (3, .var 47 [(.optr 3 3 0), (.bs 1 4 10 0 o3_1.length)]), (10, .row 5 (o3_1.map c8).flatten), (11, .row 9 (a2.map sc).flatten), (12, .row 25 (a3.map Node.cells).flatten)])
theorem H_F_otherT_t33 : PC9 M_F_otherT_t33 F_otherT_t33 := fun t1 o0_1 a0 a1 a2 a3 o0_3 o2 o3_1 r h => by
 rw [F_otherT_t33.eq_def] at h
 refine kr [22, 33] ?_
 obtain ⟨x78, hx, h⟩ := bind_some h
 refine qb (AC.g9 (H_F_ownT _ _ _ _ _ _ _ _ _ _ _ hx) [0, 1, 2, 3, 4, 5, 6] [0, 1, 2, 3, 10, 11, 12]) ?_
 refine kr [22, 33] ?_
 cases h
 exact qv env rfl (tS [some 0, some 1, some 2, some 3, some 4, some 5, some 6] (sV (lS (lS (lS (lS (lS (lS (lS (lS (lS (lS lN)))))))))) (sV (lS lN) (sV (lS lN) (sV (lS (lS lN)) (sR zn (sR qp (sR qj qt))))))) (qz qu))
def F_nodeT_t23 (o1 : BA) (o2_1 : LU) (o6_1 : Node) (a0 : Int) (a1 : BA) (a2 : LB) (a3 : LN) (o6_3 : Int) : Option (Node × BA × LU) :=
 some ((Node.mk a0 a1 a2 a3), o1, o2_1)
@[reducible] def M_F_nodeT_t23 (o1 : BA) (o2_1 : LU) (o6_1 : Node) (a0 : Int) (a1 : BA) (a2 : LB) (a3 : LN) (o6_3 : Int) (r : Node × BA × LU) : Prop :=
  Ok Tryz.prog G tt 41 4 (Ret Tryz.prog [.cell 8 25] (fun y H => yb Tryz.prog G 4 H y (.agg (zo r.1)) ⟨5, [(0, .var 42 [(.fn 17 [(.ptr 1 1 0), (.ptr 2 2 0)])]), (1, .var 9 [(.str r.2.1)]), (2, .var 47 [(.optr 2 2 0), (.bs 1 3 4 0 r.2.2.length)]), (4, .row 5 (r.2.2.map c8).flatten)]⟩)) (.go [] (yo [23, 30] Tryz.f16 23) [] (.n .undef (.n .undef .z (.n .undef (.n (.ptr 6 6 0) .z .z) .z)) (.n .undef (.n .undef (.n (.ptr 5 5 0) .z .z) .z) .z)) 13 [(0, .var 42 [(.fn 17 [(.ptr 1 1 0), (.ptr 2 2 0)])]), (1, .var 9 [(.str o1)]), (2, .var 47 [(.optr 2 2 0), (.bs 1 3 12 0 o2_1.length)]), (12, .row 5 (o2_1.map c8).flatten), (4, .dead), (5, .var 25 [(.int .i64 0), (.str ⟨#[]⟩), (.sl 1 false (([] : LB).map sc)), (.sl 4 false (([] : LN).map Node.cells))]), (6, .var 67 [(.ptr 0 0 0), (.int .i64 o6_1.kind), (.str o6_1.text), (.sl 1 false (o6_1.gaps.map sc)), (.sl 4 false (o6_1.kids.map Node.cells)), (.int .i64 a0), (.str a1), (.bs 1 7 10 0 a2.length), (.bs 4 8 11 0 a3.length), (.int .i64 o6_3)]), (10, .row 9 (a2.map sc).flatten), (11, .row 25 (a3.map Node.cells).flatten)])
theorem H_F_nodeT_t23 : PC8 M_F_nodeT_t23 F_nodeT_t23 := fun o1 o2_1 o6_1 a0 a1 a2 a3 o6_3 r h => by
 rw [F_nodeT_t23.eq_def] at h
 refine kr [23, 30] ?_
 cases h
 exact Zy env rfl rfl (tS [some 0, some 1, some 2, some 3] (sV (lS lN) (sV (lS lN) (sV (lS (lS lN)) (sR zn qt)))) (Jn (resA_agg (y7 (j6 (j5 rfl) rfl) (y7 (j6 (vo rfl) rfl) (y7 (j6 (ue qp rfl) rfl) (y7 (j6 (ue qj rfl) rfl) resL_nil))))) (by simp)))
def F_nodeT_t30 (o1 : BA) (o2_1 : LU) (o6_1 : Node) (a0 : Int) (a1 : BA) (a2 : LB) (a3 : LN) (o6_3 : Int) : Option (Node × BA × LU) :=
 F_nodeT_t23 o1 o2_1 o6_1 a0 a1 a2 a3 o6_3
@[reducible] def M_F_nodeT_t30 (o1 : BA) (o2_1 : LU) (o6_1 : Node) (a0 : Int) (a1 : BA) (a2 : LB) (a3 : LN) (o6_3 : Int) (r : Node × BA × LU) : Prop :=
  Ok Tryz.prog G tt 41 4 (Ret Tryz.prog [.cell 8 25] (fun y H => yb Tryz.prog G 4 H y (.agg (zo r.1)) ⟨5, [(0, .var 42 [(.fn 17 [(.ptr 1 1 0), (.ptr 2 2 0)])]), (1, .var 9 [(.str r.2.1)]), (2, .var 47 [(.optr 2 2 0), (.bs 1 3 4 0 r.2.2.length)]), (4, .row 5 (r.2.2.map c8).flatten)]⟩)) (.go [] (yo [23, 30] Tryz.f16 30) [] (.n .undef (.n .undef .z (.n .undef (.n (.ptr 6 6 0) .z .z) .z)) (.n .undef (.n .undef (.n (.ptr 5 5 0) .z .z) .z) .z)) 13 [(0, .var 42 [(.fn 17 [(.ptr 1 1 0), (.ptr 2 2 0)])]), (1, .var 9 [(.str o1)]), (2, .var 47 [(.optr 2 2 0), (.bs 1 3 12 0 o2_1.length)]), (12, .row 5 (o2_1.map c8).flatten), (4, .dead), (5, .var 25 [(.int .i64 0), (.str ⟨#[]⟩), (.sl 1 false (([] : LB).map sc)), (.sl 4 false (([] : LN).map Node.cells))]), (6, .var 67 [(.ptr 0 0 0), (.int .i64 o6_1.kind), (.str o6_1.text), (.sl 1 false (o6_1.gaps.map sc)), (.sl 4 false (o6_1.kids.map Node.cells)), (.int .i64 a0), (.str a1), (.bs 1 7 10 0 a2.length), (.bs 4 8 11 0 a3.length), (.int .i64 o6_3)]), (10, .row 9 (a2.map sc).flatten), (11, .row 25 (a3.map Node.cells).flatten)])
theorem H_F_nodeT_t30 : PC8 M_F_nodeT_t30 F_nodeT_t30 := fun o1 o2_1 o6_1 a0 a1 a2 a3 o6_3 r h => by
 rw [F_nodeT_t30.eq_def] at h
 refine kr [23, 30] ?_
 exact q7 (by kernel_rfl) rfl lQ (H_F_nodeT_t23 _ _ _ _ _ _ _ _ _ h)
end Go.Proofs.YtimcdpioclioiaaGreatDoorW.Ex.Gr
