/- strconv.Atoi and strconv.Itoa as the token layer uses them: an integer of the language. The library's contracts, laid at this program. Conditions: those in each theorem. -/
import Derived.Test.YtigmilhpeodhbaaDoorExP
import Derived.Test.YtigmilhpeodhbaaDoorGa
import Derived.Shelf.Strconv.AtoiAll
import Derived.Shelf.Strconv.Itoa3
import Derived.Shelf.LaysC
import Derived.Lib.AtoiErrMem
import Derived.KernelRfl
namespace Go.Proofs.YtigmilhpeodhbaaDoorW.Ex.Gr
open Go Go.Shelf Go.Proofs.YtigmilhpeodhbaaDoorW.Ex Go.RowKit
set_option linter.all false
set_option maxRecDepth 100000
def qzl : Go.Shelf.Ren := ⟨fun | 172 => 61 | 244 => 71 | 245 => 72 | 247 => 77 | 279 => 78 | 280 => 79 | 281 => 80 | 282 => 81 | 287 => 83 | 316 => 84 | 171 => 62 | 205 => 85 | 321 => 90 | 322 => 91 | 243 => 73 | 246 => 82 | 283 => 86 | 284 => 87 | 285 => 88 | 286 => 89 | 129 => 93 | 317 => 92 | 318 => 94 | 319 => 95 | 320 => 96 | 337 => 97 | 338 => 98 | n => n, fun | 9 => 9 | 3 => 3 | 75 => 71 | 76 => 72 | 4 => 4 | 5 => 5 | 167 => 87 | 37 => 86 | 0 => 0 | 85 => 88 | 2 => 2 | 168 => 90 | 53 => 94 | 175 => 95 | 46 => 97 | 210 => 100 | 127 => 108 | 145 => 111 | 143 => 109 | 21 => 21 | 171 => 102 | 173 => 105 | 212 => 113 | 51 => 114 | 20 => 20 | 213 => 115 | 232 => 118 | 233 => 119 | 80 => 120 | n => n, fun | 15 => 2 | 16 => 3 | 17 => 4 | 18 => 5 | 19 => 6 | n => n⟩
theorem qck : Go.Proofs.LaysC.n172 Tryd.prog qzl where
 mixed := by kernel_rfl
 f129 := Tryd.func93.trans (congrArg some (by kernel_rfl))
 f171 := Tryd.func62.trans (congrArg some (by kernel_rfl))
 f172 := Tryd.func61.trans (congrArg some (by kernel_rfl))
 f205 := Tryd.func85.trans (congrArg some (by kernel_rfl))
 f243 := Tryd.func73.trans (congrArg some (by kernel_rfl))
 f244 := Tryd.func71.trans (congrArg some (by kernel_rfl))
 f245 := Tryd.func72.trans (congrArg some (by kernel_rfl))
 f246 := Tryd.func82.trans (congrArg some (by kernel_rfl))
 f247 := Tryd.func77.trans (congrArg some (by kernel_rfl))
 f279 := Tryd.func78.trans (congrArg some (by kernel_rfl))
 f280 := Tryd.func79.trans (congrArg some (by kernel_rfl))
 f281 := Tryd.func80.trans (congrArg some (by kernel_rfl))
 f282 := Tryd.func81.trans (congrArg some (by kernel_rfl))
 f283 := Tryd.func86.trans (congrArg some (by kernel_rfl))
 f284 := Tryd.func87.trans (congrArg some (by kernel_rfl))
 f285 := Tryd.func88.trans (congrArg some (by kernel_rfl))
 f286 := Tryd.func89.trans (congrArg some (by kernel_rfl))
 f287 := Tryd.func83.trans (congrArg some (by kernel_rfl))
 f316 := Tryd.func84.trans (congrArg some (by kernel_rfl))
 f317 := Tryd.func92.trans (congrArg some (by kernel_rfl))
 f318 := Tryd.func94.trans (congrArg some (by kernel_rfl))
 f319 := Tryd.func95.trans (congrArg some (by kernel_rfl))
 f320 := Tryd.func96.trans (congrArg some (by kernel_rfl))
 f321 := Tryd.func90.trans (congrArg some (by kernel_rfl))
 f322 := Tryd.func91.trans (congrArg some (by kernel_rfl))
 f337 := Tryd.func97.trans (congrArg some (by kernel_rfl))
 f338 := Tryd.func98.trans (congrArg some (by kernel_rfl))
 t0 := Tryd.underlying0
 a0 := Tryd.isAgg0
 z0 := Tryd.sizeOf0
 v0 := Tryd.zeroValue0
 t2 := Tryd.underlying2
 a2 := Tryd.isAgg2
 z2 := Tryd.sizeOf2
 v2 := Tryd.zeroValue2
 t3 := Tryd.underlying3
 a3 := Tryd.isAgg3
 z3 := Tryd.sizeOf3
 v3 := Tryd.zeroValue3
 t4 := Tryd.underlying4
 a4 := Tryd.isAgg4
 z4 := Tryd.sizeOf4
 v4 := Tryd.zeroValue4
 t5 := Tryd.underlying5
 a5 := Tryd.isAgg5
 z5 := Tryd.sizeOf5
 v5 := Tryd.zeroValue5
 t9 := Tryd.underlying9
 a9 := Tryd.isAgg9
 z9 := Tryd.sizeOf9
 v9 := Tryd.zeroValue9
 t20 := Tryd.underlying20
 a20 := Tryd.isAgg20
 z20 := Tryd.sizeOf20
 v20 := Tryd.zeroValue20
 t21 := Tryd.underlying21
 a21 := Tryd.isAgg21
 z21 := Tryd.sizeOf21
 v21 := Tryd.zeroValue21
 t37 := Tryd.underlying86
 a37 := Tryd.isAgg86
 z37 := Tryd.sizeOf86
 v37 := Tryd.zeroValue86
 t46 := Tryd.underlying97
 a46 := Tryd.isAgg97
 z46 := Tryd.sizeOf97
 v46 := Tryd.zeroValue97
 t51 := Tryd.underlying114
 a51 := Tryd.isAgg114
 z51 := Tryd.sizeOf114
 v51 := Tryd.zeroValue114
 t53 := Tryd.underlying94
 a53 := Tryd.isAgg94
 z53 := Tryd.sizeOf94
 v53 := Tryd.zeroValue94
 t75 := Tryd.underlying71
 a75 := Tryd.isAgg71
 z75 := Tryd.sizeOf71
 v75 := Tryd.zeroValue71
 t76 := Tryd.underlying72
 a76 := Tryd.isAgg72
 z76 := Tryd.sizeOf72
 v76 := Tryd.zeroValue72
 t85 := Tryd.underlying88
 a85 := Tryd.isAgg88
 z85 := Tryd.sizeOf88
 v85 := Tryd.zeroValue88
 t127 := Tryd.underlying108
 a127 := Tryd.isAgg108
 z127 := Tryd.sizeOf108
 v127 := Tryd.zeroValue108
 t143 := Tryd.underlying109
 a143 := Tryd.isAgg109
 z143 := Tryd.sizeOf109
 v143 := Tryd.zeroValue109
 t145 := Tryd.underlying111
 a145 := Tryd.isAgg111
 z145 := Tryd.sizeOf111
 v145 := Tryd.zeroValue111
 t167 := Tryd.underlying87
 a167 := Tryd.isAgg87
 z167 := Tryd.sizeOf87
 v167 := Tryd.zeroValue87
 t168 := Tryd.underlying90
 a168 := Tryd.isAgg90
 z168 := Tryd.sizeOf90
 v168 := Tryd.zeroValue90
 t171 := Tryd.underlying102
 a171 := Tryd.isAgg102
 z171 := Tryd.sizeOf102
 v171 := Tryd.zeroValue102
 t173 := Tryd.underlying105
 a173 := Tryd.isAgg105
 z173 := Tryd.sizeOf105
 v173 := Tryd.zeroValue105
 t175 := Tryd.underlying95
 a175 := Tryd.isAgg95
 z175 := Tryd.sizeOf95
 v175 := Tryd.zeroValue95
 t210 := Tryd.underlying100
 a210 := Tryd.isAgg100
 z210 := Tryd.sizeOf100
 v210 := Tryd.zeroValue100
 t212 := Tryd.underlying113
 a212 := Tryd.isAgg113
 z212 := Tryd.sizeOf113
 v212 := Tryd.zeroValue113
 t213 := Tryd.underlying115
 a213 := Tryd.isAgg115
 z213 := Tryd.sizeOf115
 t232 := Tryd.underlying118
 a232 := Tryd.isAgg118
 z232 := Tryd.sizeOf118
 v232 := Tryd.zeroValue118
 t233 := Tryd.underlying119
 a233 := Tryd.isAgg119
 z233 := Tryd.sizeOf119
 v233 := Tryd.zeroValue119
 g15 := by kernel_rfl
 g16 := by kernel_rfl
 g17 := by kernel_rfl
 g18 := by kernel_rfl
 g19 := by kernel_rfl
 t80 := Tryd.underlying120
 a80 := Tryd.isAgg120
 z80 := Tryd.sizeOf120
 v80 := Tryd.zeroValue120
 i0 := by kernel_rfl
 i2 := by kernel_rfl
 i3 := by kernel_rfl
 i4 := by kernel_rfl
 i5 := by kernel_rfl
 i9 := by kernel_rfl
 i20 := by kernel_rfl
 i21 := by kernel_rfl
 i37 := by kernel_rfl
 i46 := by kernel_rfl
 i51 := by kernel_rfl
 i53 := by kernel_rfl
 i75 := by kernel_rfl
 i76 := by kernel_rfl
 i80 := by kernel_rfl
 i85 := by kernel_rfl
 i127 := by kernel_rfl
 i143 := by kernel_rfl
 i145 := by kernel_rfl
 i167 := by kernel_rfl
 i168 := by kernel_rfl
 i171 := by kernel_rfl
 i173 := by kernel_rfl
 i175 := by kernel_rfl
 i210 := by kernel_rfl
 i212 := by kernel_rfl
 i232 := by kernel_rfl
 i233 := by kernel_rfl
 m15 := by kernel_rfl
 m16 := by kernel_rfl
 m17 := by kernel_rfl
 m18 := by kernel_rfl
 m19 := by kernel_rfl
 c0 := by kernel_rfl
 c2 := by kernel_rfl
 c3 := by kernel_rfl
 c4 := by kernel_rfl
 c5 := by kernel_rfl
 c9 := by kernel_rfl
 c20 := by kernel_rfl
 c21 := by kernel_rfl
 c37 := by kernel_rfl
 c46 := by kernel_rfl
 c51 := by kernel_rfl
 c53 := by kernel_rfl
 c75 := by kernel_rfl
 c76 := by kernel_rfl
 c80 := by kernel_rfl
 c85 := by kernel_rfl
 c127 := by kernel_rfl
 c143 := by kernel_rfl
 c145 := by kernel_rfl
 c167 := by kernel_rfl
 c168 := by kernel_rfl
 c171 := by kernel_rfl
 c173 := by kernel_rfl
 c175 := by kernel_rfl
 c210 := by kernel_rfl
 c212 := by kernel_rfl
 c213 := by kernel_rfl
 c232 := by kernel_rfl
 c233 := by kernel_rfl
def qy7 : Go.Shelf.Ren := ⟨fun | 171 => 62 | 243 => 73 | 246 => 82 | 283 => 86 | 284 => 87 | 285 => 88 | 286 => 89 | 129 => 93 | 317 => 92 | 318 => 94 | 319 => 95 | 320 => 96 | 337 => 97 | 338 => 98 | n => n, fun | 3 => 3 | 9 => 9 | 2 => 2 | 4 => 4 | 171 => 102 | 0 => 0 | 53 => 94 | 37 => 86 | 5 => 5 | 173 => 105 | 212 => 113 | 51 => 114 | 20 => 20 | 213 => 115 | 46 => 97 | 232 => 118 | 233 => 119 | n => n, fun | 17 => 4 | 18 => 5 | 19 => 6 | n => n⟩
theorem qwz : Go.Proofs.LaysM.n171 Tryd.prog qy7 where
 mixed := by kernel_rfl
 f129 := Tryd.func93.trans (congrArg some (by kernel_rfl))
 f171 := Tryd.func62.trans (congrArg some (by kernel_rfl))
 f243 := Tryd.func73.trans (congrArg some (by kernel_rfl))
 f246 := Tryd.func82.trans (congrArg some (by kernel_rfl))
 f283 := Tryd.func86.trans (congrArg some (by kernel_rfl))
 f284 := Tryd.func87.trans (congrArg some (by kernel_rfl))
 f285 := Tryd.func88.trans (congrArg some (by kernel_rfl))
 f286 := Tryd.func89.trans (congrArg some (by kernel_rfl))
 f317 := Tryd.func92.trans (congrArg some (by kernel_rfl))
 f318 := Tryd.func94.trans (congrArg some (by kernel_rfl))
 f319 := Tryd.func95.trans (congrArg some (by kernel_rfl))
 f320 := Tryd.func96.trans (congrArg some (by kernel_rfl))
 f337 := Tryd.func97.trans (congrArg some (by kernel_rfl))
 f338 := Tryd.func98.trans (congrArg some (by kernel_rfl))
 t0 := Tryd.underlying0
 a0 := Tryd.isAgg0
 z0 := Tryd.sizeOf0
 v0 := Tryd.zeroValue0
 t2 := Tryd.underlying2
 a2 := Tryd.isAgg2
 z2 := Tryd.sizeOf2
 v2 := Tryd.zeroValue2
 t3 := Tryd.underlying3
 a3 := Tryd.isAgg3
 z3 := Tryd.sizeOf3
 v3 := Tryd.zeroValue3
 t4 := Tryd.underlying4
 a4 := Tryd.isAgg4
 z4 := Tryd.sizeOf4
 v4 := Tryd.zeroValue4
 t5 := Tryd.underlying5
 a5 := Tryd.isAgg5
 z5 := Tryd.sizeOf5
 v5 := Tryd.zeroValue5
 t9 := Tryd.underlying9
 a9 := Tryd.isAgg9
 z9 := Tryd.sizeOf9
 v9 := Tryd.zeroValue9
 t20 := Tryd.underlying20
 a20 := Tryd.isAgg20
 z20 := Tryd.sizeOf20
 v20 := Tryd.zeroValue20
 t37 := Tryd.underlying86
 a37 := Tryd.isAgg86
 z37 := Tryd.sizeOf86
 v37 := Tryd.zeroValue86
 t46 := Tryd.underlying97
 a46 := Tryd.isAgg97
 z46 := Tryd.sizeOf97
 v46 := Tryd.zeroValue97
 t51 := Tryd.underlying114
 a51 := Tryd.isAgg114
 z51 := Tryd.sizeOf114
 v51 := Tryd.zeroValue114
 t53 := Tryd.underlying94
 a53 := Tryd.isAgg94
 z53 := Tryd.sizeOf94
 v53 := Tryd.zeroValue94
 t171 := Tryd.underlying102
 a171 := Tryd.isAgg102
 z171 := Tryd.sizeOf102
 v171 := Tryd.zeroValue102
 t173 := Tryd.underlying105
 a173 := Tryd.isAgg105
 z173 := Tryd.sizeOf105
 v173 := Tryd.zeroValue105
 t212 := Tryd.underlying113
 a212 := Tryd.isAgg113
 z212 := Tryd.sizeOf113
 v212 := Tryd.zeroValue113
 t213 := Tryd.underlying115
 a213 := Tryd.isAgg115
 z213 := Tryd.sizeOf115
 t232 := Tryd.underlying118
 a232 := Tryd.isAgg118
 z232 := Tryd.sizeOf118
 v232 := Tryd.zeroValue118
 t233 := Tryd.underlying119
 a233 := Tryd.isAgg119
 z233 := Tryd.sizeOf119
 v233 := Tryd.zeroValue119
 g17 := by kernel_rfl
 g18 := by kernel_rfl
 g19 := by kernel_rfl
 i0 := by kernel_rfl
 i2 := by kernel_rfl
 i3 := by kernel_rfl
 i4 := by kernel_rfl
 i5 := by kernel_rfl
 i9 := by kernel_rfl
 i20 := by kernel_rfl
 i37 := by kernel_rfl
 i46 := by kernel_rfl
 i51 := by kernel_rfl
 i53 := by kernel_rfl
 i171 := by kernel_rfl
 i173 := by kernel_rfl
 i212 := by kernel_rfl
 i232 := by kernel_rfl
 i233 := by kernel_rfl
 m17 := by kernel_rfl
 m18 := by kernel_rfl
 m19 := by kernel_rfl
theorem qlw {w : World} {S : Nat → Prop} {β : Nat → Nat} {n g : Nat} {cs : List AV} (h : GV w S β n g cs) {i : Nat} {x : AV} (hi : cs[i]? = some x) : ∃ v, w.cell? ⟨g, i, none⟩ = some v ∧ RV w S β 0 x v := by
 have hr := h.rv
 cases hr with
 | rptr _ _ _ u hS h1 hc hr =>
   have := hc i x hi
   rw [Nat.zero_add] at this
   exact ⟨_, this, hr i x hi⟩
theorem qph {w : World} {S : Nat → Prop} {β : Nat → Nat} {n g t : Nat} (h : GV w S β n g [.iface t .undef]) : ∃ ev, w.cell? ⟨g, 0, none⟩ = some ev ∧ (ev = .nilIface ∨ ∃ te pe, ev = .iface te pe) := by
 obtain ⟨v, hv, hr⟩ := qlw h (i := 0) rfl
 cases hr with
 | iface _ _ v _ => exact ⟨_, hv, .inr ⟨_, _, rfl⟩⟩
theorem qxc {P : Program} {w : World} {S : Nat → Prop} {β : Nat → Nat} {n g : Nat} {k : IntKind} {zs : List Int} {nm : String} (hg : P.globalNamed nm = some g) (hz : zs ≠ []) (h : GV w S β n g (zs.map fun z => .int k z)) : Lib.TabIs P w nm k zs := by
 obtain ⟨e, he⟩ := h.sh (by cases zs with | nil => exact absurd rfl hz | cons a l => simp)
 unfold Lib.TabIs World.var?
 rw [hg, Option.bind_some]
 unfold World.shape? at he
 cases hb : w.heap[g]? with
 | none => rw [hb] at he; cases he
 | some o =>
   rw [hb] at he
   cases o with
   | cells c t fr =>
     simp only [Option.some.injEq, Prod.mk.injEq] at he
     show some c = some _
     congr 1
     apply Array.ext
     ·rw [he.2]; simp
     intro i h1 h2
     have hi : i < zs.length := by simpa using h2
     obtain ⟨v, hv, hr⟩ := qlw h (i := i) (x := .int k zs[i]) (by rw [List.getElem?_map, List.getElem?_eq_getElem hi]; rfl)
     unfold World.cell? at hv
     rw [hb] at hv
     simp only [Option.isSome_none, Bool.false_eq_true, if_false] at hv
     rw [Array.getElem?_eq_getElem h1, Option.some.injEq] at hv
     cases hr
     rw [hv]; simp
   | _ => cases he
def J4 (l : List UInt8) : Bool := match Lib.atoiAll l with
 | .ok v => decide (v ≤ 1000000000000) && Lib.itoa v == l
 | _ => false
theorem qrj (w : World) (k : Nat) (os : Array Go.Obj) : Below w.heap.size w (Sort.grow (w.drewN k) os) := by
 refine ⟨rfl, rfl, rfl, ?_, fun i hi => ?_⟩
 ·show w.heap.size ≤ (w.heap ++ os).size
  simp
 show (w.heap ++ os)[i]? = w.heap[i]?
 rw [Array.getElem?_append_left hi]
theorem qj8 {w w1 : World} {t5 : TypeId} (hw : w1 = w ∨ ∃ t, w1 = Lib.bytesWorld w t5 t) : Below w.heap.size w w1 := by
 rcases hw with rfl | ⟨t, rfl⟩
 ·exact Below.refl _ _
 exact Lib.bytesWorld_below _ _ _
theorem qt9 {P : Program} {w w' : World} {nm : String} {k : IntKind} {zs : List Int} (h : Below w.heap.size w w') (ht : Lib.TabIs P w nm k zs) : Lib.TabIs P w' nm k zs := by
 unfold Lib.TabIs World.var? at ht ⊢
 cases hg : P.globalNamed nm with
 | none => rw [hg] at ht; cases ht
 | some g =>
   rw [hg, Option.bind_some] at ht
   rw [Option.bind_some]
   have hlt : g < w.heap.size := by
    rcases Nat.lt_or_ge g w.heap.size with h | h
    ·exact h
    rw [Array.getElem?_eq_none h] at ht; cases ht
   rw [h.block g hlt]; exact ht
theorem qkw (s : ByteArray) (hs : s.size ≤ 281474976710656) : Fn Tryd.prog G 50 [.str s] (.bool (J4 s.data.toList)) := by
 refine qfz (fun vs w => by simp) fun w S β n vs hg hv => ?_
 rw [qqp hv]
 obtain ⟨e0, c0, d0⟩ := qph (t := 109) (hg 2)
 obtain ⟨e1, c1, d1⟩ := qph (t := 109) (hg 3)
 have htab : Lib.TabIs Tryd.prog w "internal/strconv.uint64pow10" .u64 Lib.pow10Tab := qxc (g := 4) (by kernel_rfl) (by decide) (hg 4)
 cases h : Lib.atoiAll s.data.toList
 rotate_left
 ·have hr : J4 s.data.toList = false := by simp only [J4, h]
  rw [hr]
  have A := Any.strconv_Atoi_syntax qck s hs h e0 w c0 d0
  go_enter Tryd.func50, Tryd.ntmps50
  go_wp2_with (go_at_call 61; refine (Any.strconv_Atoi_syntax qck s hs h e0 _ c0 d0).mono ?_; rintro e w1 ⟨N, rfl, hN, _, hb⟩)
  go_ret
  exact ⟨⟨_, rfl, fun _ _ _ => .bool _⟩, hb⟩
 ·have hr : J4 s.data.toList = false := by simp only [J4, h]
  rw [hr]
  go_enter Tryd.func50, Tryd.ntmps50
  go_wp2_with (go_at_call 61; refine (Any.strconv_Atoi_range qck s hs h e1 _ c1 d1).mono ?_; rintro e w1 ⟨N, rfl, hN, _, hb⟩)
  go_ret
  exact ⟨⟨_, rfl, fun _ _ _ => .bool _⟩, hb⟩
 rename_i v
 have hr : J4 s.data.toList = (decide (v ≤ 1000000000000) && Lib.itoa v == s.toList) := by simp only [J4, h, ByteArray.toList_eq]
 rw [hr]
 have hv := Lib.atoiAll_bounds h
 go_enter Tryd.func50, Tryd.ntmps50
 by_cases hb : v ≤ 1000000000000
 ·go_wp2_with (first
   | (go_at_call 61; refine (Any.strconv_Atoi_ok qck s (by omega) v h _).mono ?_; rintro e w1 ⟨rfl, hw⟩; have hb1 := qj8 hw; clear hw; have ht1 := Lib.hid (qt9 hb1 htab))
   | (go_at_call 62; refine (Any.strconv_Itoa qwz v hv.1 hv.2 _ (RowKit.Hid.out (by assumption))).mono ?_; rintro e w2 ⟨rfl, k, os, rfl⟩))
  go_ret
  exact ⟨⟨_, rfl, fun _ _ _ => by rw [decide_eq_true hb, Bool.true_and]; exact .bool _⟩, hb1.trans ((qrj w1 k os).mono hb1.size)⟩
 go_wp2_with (go_at_call 61; refine (Any.strconv_Atoi_ok qck s (by omega) v h _).mono ?_; rintro e w1 ⟨rfl, hw⟩; have hb1 := qj8 hw; clear hw)
 go_ret
 exact ⟨⟨_, rfl, fun _ _ _ => by rw [decide_eq_false (by omega), Bool.false_and]; exact .bool _⟩, hb1⟩
end Go.Proofs.YtigmilhpeodhbaaDoorW.Ex.Gr
