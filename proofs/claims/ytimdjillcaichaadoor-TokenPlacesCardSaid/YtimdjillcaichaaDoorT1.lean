/- token.Join: the leads and the texts of the tokens, one after the other. The library's contracts on strings.Builder, laid at this program. Conditions: the length. -/
import Derived.Test.YtimdjillcaichaaDoorExP
import Derived.Test.YtimdjillcaichaaDoorSa
import Derived.Shelf.Strings.BuilderK
import Derived.Lib.OthersKept
import Derived.Lib.Hide
import Derived.WalkKit
import Derived.BigCall
import Derived.KernelRfl
namespace Go.Proofs.YtimdjillcaichaaDoorW.Ex.Gr
open Go Go.Shelf Go.Proofs.YtimdjillcaichaaDoorW.Ex Go.RowKit
set_option linter.all false
set_option maxRecDepth 100000
def wsRen : Go.Shelf.Ren := ⟨fun | 166 => 76 | 240 => 99 | 276 => 112 | n => n, fun | 70 => 85 | 9 => 9 | 3 => 3 | 75 => 90 | 0 => 0 | 72 => 88 | 37 => 86 | 4 => 4 | 164 => 110 | 80 => 93 | 5 => 5 | n => n, fun | n => n⟩
theorem laysWS : Go.Proofs.Lays.n166 Tryd.prog wsRen where
  mixed := by kernel_rfl
  f166 := Tryd.func76.trans (congrArg some (by kernel_rfl))
  f240 := Tryd.func99.trans (congrArg some (by kernel_rfl))
  f276 := Tryd.func112.trans (congrArg some (by kernel_rfl))
  t0 := Tryd.underlying0
  a0 := Tryd.isAgg0
  z0 := Tryd.sizeOf0
  v0 := Tryd.zeroValue0
  t3 := Tryd.underlying3
  a3 := Tryd.isAgg3
  z3 := Tryd.sizeOf3
  v3 := Tryd.zeroValue3
  t4 := Tryd.underlying4
  a4 := Tryd.isAgg4
  z4 := Tryd.sizeOf4
  v4 := Tryd.zeroValue4
  t9 := Tryd.underlying9
  a9 := Tryd.isAgg9
  z9 := Tryd.sizeOf9
  v9 := Tryd.zeroValue9
  t20 := Tryd.underlying20
  a20 := Tryd.isAgg20
  z20 := Tryd.sizeOf20
  v20 := Tryd.zeroValue20
  t37 := Tryd.underlying86
  a37 := Tryd.isAgg86
  z37 := Tryd.sizeOf86
  v37 := Tryd.zeroValue86
  t70 := Tryd.underlying85
  a70 := Tryd.isAgg85
  z70 := Tryd.sizeOf85
  v70 := Tryd.zeroValue85
  t72 := Tryd.underlying88
  a72 := Tryd.isAgg88
  z72 := Tryd.sizeOf88
  v72 := Tryd.zeroValue88
  t75 := Tryd.underlying90
  a75 := Tryd.isAgg90
  z75 := Tryd.sizeOf90
  v75 := Tryd.zeroValue90
  t164 := Tryd.underlying110
  a164 := Tryd.isAgg110
  z164 := Tryd.sizeOf110
  v164 := Tryd.zeroValue110
def strRen : Go.Shelf.Ren := ⟨fun | 169 => 77 | n => n, fun | 70 => 85 | 9 => 9 | 0 => 0 | 72 => 88 | 37 => 86 | 127 => 107 | 3 => 3 | 5 => 5 | n => n, fun | n => n⟩
theorem laysStr : Go.Proofs.Lays.n169 Tryd.prog strRen where
  mixed := by kernel_rfl
  f169 := Tryd.func77.trans (congrArg some (by kernel_rfl))
  t0 := Tryd.underlying0
  a0 := Tryd.isAgg0
  z0 := Tryd.sizeOf0
  v0 := Tryd.zeroValue0
  t3 := Tryd.underlying3
  a3 := Tryd.isAgg3
  z3 := Tryd.sizeOf3
  v3 := Tryd.zeroValue3
  t9 := Tryd.underlying9
  a9 := Tryd.isAgg9
  z9 := Tryd.sizeOf9
  v9 := Tryd.zeroValue9
  t37 := Tryd.underlying86
  a37 := Tryd.isAgg86
  z37 := Tryd.sizeOf86
  v37 := Tryd.zeroValue86
  t70 := Tryd.underlying85
  a70 := Tryd.isAgg85
  z70 := Tryd.sizeOf85
  v70 := Tryd.zeroValue85
  t72 := Tryd.underlying88
  a72 := Tryd.isAgg88
  z72 := Tryd.sizeOf88
  v72 := Tryd.zeroValue88
  t127 := Tryd.underlying107
  a127 := Tryd.isAgg107
  z127 := Tryd.sizeOf107
  v127 := Tryd.zeroValue107
theorem extraWS : Builder.Extra Tryd.prog wsRen where
  sizeBuilder := by kernel_rfl
  liesBuilder := by kernel_rfl
  t5 := Tryd.underlying5
  a5 := Tryd.isAgg5
  z5 := Tryd.sizeOf5
  v5 := Tryd.zeroValue5
  infoByte := by kernel_rfl
  cellsByte := by kernel_rfl
  sizeByte := by kernel_rfl
  neB5 := by decide
theorem extraStr : Builder.Extra Tryd.prog strRen where
  sizeBuilder := by kernel_rfl
  liesBuilder := by kernel_rfl
  t5 := Tryd.underlying5
  a5 := Tryd.isAgg5
  z5 := Tryd.sizeOf5
  v5 := Tryd.zeroValue5
  infoByte := by kernel_rfl
  cellsByte := by kernel_rfl
  sizeByte := by kernel_rfl
  neB5 := by decide

structure Token where
  Kind : Int
  Lead : ByteArray
  Text : ByteArray
  At : Int
@[reducible] def cellsTok (x : Token) : List AV := [.int .i64 x.Kind, .str x.Lead, .str x.Text, .int .i64 x.At]
def Token.cells (x : Token) : List AV := [(.int .i64 x.Kind), (.str x.Lead), (.str x.Text), (.int .i64 x.At)]
theorem Token_ok : CellsOk Token.cells 4 := ⟨fun _ => rfl, by decide, fun a z hz => by
  simp only [Token.cells, List.mem_cons, List.not_mem_nil, or_false] at hz
  rcases hz with rfl | rfl | rfl | rfl <;> exact ⟨rfl, rfl⟩⟩
/-- The bytes of the tokens. -/
def joinL : List Token → List UInt8
  | [] => []
  | t :: l => t.Lead.data.toList ++ t.Text.data.toList ++ joinL l
theorem joinL_snoc (l : List Token) (t : Token) : joinL (l ++ [t]) = joinL l ++ t.Lead.data.toList ++ t.Text.data.toList := by
  induction l with
  | nil => simp [joinL]
  | cons a l ih => simp [joinL, ih, List.append_assoc]
theorem joinL_take {l : List Token} {i : Nat} (h : i < l.length) : joinL (l.take (i + 1)) = joinL (l.take i) ++ (l[i]).Lead.data.toList ++ (l[i]).Text.data.toList := by
  rw [List.take_succ_eq_append_getElem h, joinL_snoc]
theorem joinL_le (l : List Token) (i : Nat) : (joinL (l.take i)).length ≤ (joinL l).length := by
  induction l generalizing i with
  | nil => simp
  | cons a l ih =>
    cases i with
    | zero => simp [joinL]
    | succ i => simp only [List.take_succ_cons, joinL, List.length_append]; have := ih i; omega
theorem kept_tok {w W : World} {b : Nat} {t : Token} (hk : Lib.OthersKept 5 (some b) (w.alloc (.cells #[.int .i64 t.Kind, .string t.Lead, .string t.Text, .int .i64 t.At] 56)) W) (hb : b < w.heap.size) : W.cell? ⟨w.heap.size, 2, none⟩ = some (.string t.Text) := by
  have h := hk w.heap.size _ (heap_alloc_new w _) (by intro e; cases e; omega) (by intro c fz e; cases e)
  unfold World.cell?
  rw [h]; rfl
set_option maxHeartbeats 4000000 in
theorem join_walk (l : List Token) (w : World) (A : Option Addr) (cap : Nat) (bk o : Nat) (hA : l ≠ [] → A = some ⟨bk, o, none⟩) (hlt : l ≠ [] → bk < w.heap.size) (hlen : l.length ≤ 9223372036854775807)
    (h0 : ∀ (i : Nat) (h : i < l.length), w.cell? ⟨bk, o + (i * 4 + 0), none⟩ = some (.int .i64 (l[i]).Kind)) (h1 : ∀ (i : Nat) (h : i < l.length), w.cell? ⟨bk, o + (i * 4 + 1), none⟩ = some (.string (l[i]).Lead))
    (h2 : ∀ (i : Nat) (h : i < l.length), w.cell? ⟨bk, o + (i * 4 + 2), none⟩ = some (.string (l[i]).Text)) (h3 : ∀ (i : Nat) (h : i < l.length), w.cell? ⟨bk, o + (i * 4 + 3), none⟩ = some (.int .i64 (l[i]).At))
    (hsum : (joinL l).length ≤ 140737488355328) :
    Calls Tryd.prog 45 #[.slice A l.length cap] w fun e w' => e = .returned (.string ⟨(joinL l).toArray⟩) ∧ Below w.heap.size w w' := by
  have hI0 : Lib.IsBuilderF 88 5 w.heap.size w.heap.size [] (w.alloc (.cells #[.pointer none, .slice none 0 0] 88)) := Lib.IsBuilderF.of (Lib.fresh_isBuilder 88 5 w)
  have hb0 : Below w.heap.size w (w.alloc (.cells #[.pointer none, .slice none 0 0] 88)) := (Below.refl _ w).alloc (Nat.le_refl _) _
  go_enter Tryd.func45, Tryd.ntmps45
  go_wp2
  go_loopw [8] (fun i wr => ∃ k : Nat, i = .int .i64 k ∧ k ≤ l.length ∧ Lib.IsBuilderF 88 5 w.heap.size w.heap.size (Lib.byteCells (joinL (l.take k))) wr ∧ Below w.heap.size w wr) (fun i _ => l.length - (intOf i).toNat)
  case atStart => exact ⟨0, rfl, Nat.zero_le _, hI0, hb0⟩
  case round =>
    obtain ⟨k, rfl, hk, hI, hnx⟩ := hrel
    clear hI0 hb0
    by_cases hp : k < l.length
    · have c0 : wr.cell? ⟨bk, o + k * 4, none⟩ = some (.int .i64 (l[k]).Kind) := (hnx.cell (p := ⟨bk, o + (k * 4 + 0), none⟩) (hlt (by intro e; rw [e] at hp; exact absurd hp (by simp)))).trans (h0 k hp)
      have c1 : wr.cell? ⟨bk, o + k * 4 + 1, none⟩ = some (.string (l[k]).Lead) := (hnx.cell (p := ⟨bk, o + (k * 4 + 1), none⟩) (hlt (by intro e; rw [e] at hp; exact absurd hp (by simp)))).trans (h1 k hp)
      have c2 : wr.cell? ⟨bk, o + k * 4 + 2, none⟩ = some (.string (l[k]).Text) := (hnx.cell (p := ⟨bk, o + (k * 4 + 2), none⟩) (hlt (by intro e; rw [e] at hp; exact absurd hp (by simp)))).trans (h2 k hp)
      have c3 : wr.cell? ⟨bk, o + k * 4 + 3, none⟩ = some (.int .i64 (l[k]).At) := (hnx.cell (p := ⟨bk, o + (k * 4 + 3), none⟩) (hlt (by intro e; rw [e] at hp; exact absurd hp (by simp)))).trans (h3 k hp)
      have hA' := hA (by intro e; rw [e] at hp; exact absurd hp (by simp))
      subst hA'
      have hI1 := hI.alloc (.cells #[.int .i64 (l[k]).Kind, .string (l[k]).Lead, .string (l[k]).Text, .int .i64 (l[k]).At] 56)
      have hb1 : Below w.heap.size w (wr.alloc (.cells #[.int .i64 (l[k]).Kind, .string (l[k]).Lead, .string (l[k]).Text, .int .i64 (l[k]).At] 56)) := hnx.alloc (by have := hnx.size; omega) _
      have hbl : w.heap.size < wr.heap.size := hI.elim (fun h => h.lt) (fun h => h.lt)
      have e1 : joinL (l.take (k + 1)) = joinL (l.take k) ++ (l[k]).Lead.data.toList ++ (l[k]).Text.data.toList := joinL_take hp
      have e2 := joinL_le l (k + 1)
      have s1 : (l[k]).Lead.data.toList.length = (l[k]).Lead.size := Array.length_toList
      have s2 : (l[k]).Text.data.toList.length = (l[k]).Text.size := Array.length_toList
      have e3 : (joinL (l.take k)).length + (l[k]).Lead.size + (l[k]).Text.size ≤ 140737488355328 := by rw [e1, List.length_append, List.length_append, s1, s2] at e2; omega
      clear e2 s1 s2
      have E1 := Lib.hid e1
      clear e1
      go_wp2_with (go_at_call 76; refine (Any.Builder_WriteString_k laysWS extraWS w.heap.size w.heap.size _ (l[k]).Lead _ hI1 (by rw [Lib.byteCells_length]; omega) hb1.size).mono ?_; rintro e W2 ⟨rfl, hI2, hb2, hkept⟩; have hc := kept_tok hkept hbl; refine Hid.out ?_)
      refine Lib.hid ?_
      have hI2' : Lib.IsBuilderF 88 5 w.heap.size w.heap.size (Lib.byteCells (joinL (l.take k) ++ (l[k]).Lead.data.toList)) W2 := by
        rw [Lib.strCells_eq, ← Lib.byteCells_append] at hI2
        exact Or.inr hI2
      clear hI2 hI1 hkept
      go_wp2_with (go_at_call 76; refine (Any.Builder_WriteString_k laysWS extraWS w.heap.size w.heap.size _ (l[k]).Text _ hI2' (by rw [Lib.byteCells_length, List.length_append, show (l[k]).Lead.data.toList.length = (l[k]).Lead.size from Array.length_toList]; omega) (Nat.le_trans hb1.size hb2.size)).mono ?_; rintro e W3 ⟨rfl, hI3, hb3, hkept⟩; refine Hid.out ?_)
      refine Lib.hid ?_
      have hI3' : Lib.IsBuilderF 88 5 w.heap.size w.heap.size (Lib.byteCells (joinL (l.take (k + 1)))) W3 := by
        have e1 := E1.out
        rw [Lib.strCells_eq, ← Lib.byteCells_append, ← e1] at hI3
        exact Or.inr hI3
      have hnx3 := hb1.trans (hb2.trans hb3)
      clear hI3 hI2' hb1 hb2 hb3 hI hnx hkept E1
      have hw : IntKind.i64.wrap ((k : Int) + 1) = ((k + 1 : Nat) : Int) := wrap_id (by omega) (by omega)
      go_wp2
      go_roundw
      case rel => exact ⟨k + 1, rfl, by omega, hI3', hnx3⟩
      case measure => simp only [intOf]; omega
    · have hall : l.take k = l := List.take_of_length_le (by omega)
      rw [hall] at hI
      go_wp2_with (go_at_call 77; refine (Any.Builder_String_any_k laysStr extraStr w.heap.size w.heap.size _ _ hI hnx.size).mono ?_; rintro e W2 ⟨rfl, _, hb2, _⟩)
      go_ret
      exact ⟨rfl, hnx.trans hb2⟩
theorem token_Join {G : Nat → List AV} (l : List Token) (hsum : (joinL l).length ≤ 140737488355328) : Fn Tryd.prog G 45 [.sl 4 false (l.map Token.cells)] (.str ⟨(joinL l).toArray⟩) := by
  intro w S β n vs hH hv
  refine Fn_of_below_at (fun vs w => by simp) hH ?_
  obtain ⟨hs, hr⟩ := hv
  have h := hr 0 _ rfl
  have e : vs = #[vs.getD 0 Go.undef] := by
    apply Array.ext
    · simpa using hs
    · intro i h3 h4
      have hi : i < 1 := by simpa using h4
      obtain rfl : i = 0 := by omega
      simp [Array.getD, h3]
  rw [e]
  generalize vs.getD 0 Go.undef = v at h
  cases h with
  | sl _ _ _ A cap u hl hm hf hA hA1 hS hsz h1 hc hr =>
    rw [List.length_map] at hl ⊢
    have hin : ∀ (i : Nat) (h : i < l.length), (l.map Token.cells)[i]? = some (cellsTok l[i]) := fun i h => by rw [List.getElem?_map, List.getElem?_eq_getElem h]; rfl
    by_cases hn : l = []
    · subst hn
      refine (join_walk [] w A cap 0 0 (fun h => absurd rfl h) (fun h => absurd rfl h) (by simp) (fun i h => by simp at h) (fun i h => by simp at h) (fun i h => by simp at h) (fun i h => by simp at h) hsum).mono ?_
      rintro e w' ⟨rfl, hb⟩
      exact ⟨⟨_, rfl, fun _ _ _ => .str _⟩, hb⟩
    · have hne : l.map Token.cells ≠ [] := by simpa using hn
      have hs1 := hA1 hne
      cases A with
      | none => cases hs1
      | some a =>
        obtain ⟨bk, o, sp⟩ := a
        have := hA hne _ rfl
        simp only at this
        subst this
        have hlt := hH.lts bk (hS bk o rfl hne)
        have at_ : ∀ (i : Nat) (h : i < l.length) (j : Nat) (x : AV), (cellsTok l[i])[j]? = some x → ∃ v, w.cell? ⟨bk, o + (i * 4 + j), none⟩ = some v ∧ RV w S β 0 x v := fun i h j x hx => ⟨_, hc bk o rfl i _ j x (hin i h) hx, hr i _ j x (hin i h) hx⟩
        refine (join_walk l w (some ⟨bk, o, none⟩) cap bk o (fun _ => rfl) (fun _ => hlt) (by omega) (fun i h => ?_) (fun i h => ?_) (fun i h => ?_) (fun i h => ?_) hsum).mono ?_
        · obtain ⟨v, hv, hr⟩ := at_ i h 0 _ rfl; cases hr; exact hv
        · obtain ⟨v, hv, hr⟩ := at_ i h 1 _ rfl; cases hr; exact hv
        · obtain ⟨v, hv, hr⟩ := at_ i h 2 _ rfl; cases hr; exact hv
        · obtain ⟨v, hv, hr⟩ := at_ i h 3 _ rfl; cases hr; exact hv
        rintro e w' ⟨rfl, hb⟩
        exact ⟨⟨_, rfl, fun _ _ _ => .str _⟩, hb⟩
end Go.Proofs.YtimdjillcaichaaDoorW.Ex.Gr
