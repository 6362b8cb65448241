/- strconv.Atoi and strconv.Itoa as the token layer uses them: an integer of the language. The library's contracts, laid at this program. Conditions: those in each theorem. -/
import Derived.Test.YtimcdpioclioiaaGreatDoorExP
import Derived.Test.YtimcdpioclioiaaGreatDoorGa
import Derived.Shelf.Strconv.AtoiAll
import Derived.Shelf.Strconv.Itoa3
import Derived.Shelf.LaysC
import Derived.Lib.AtoiErrMem
import Derived.KernelRfl
namespace Go.Proofs.YtimcdpioclioiaaGreatDoorW.Ex.Gr
open Go Go.Shelf Go.Proofs.YtimcdpioclioiaaGreatDoorW.Ex Go.RowKit
set_option linter.all false
set_option maxRecDepth 100000
def atoiRen : Go.Shelf.Ren := ⟨fun | 172 => 86 | 244 => 97 | 245 => 98 | 247 => 103 | 279 => 104 | 280 => 105 | 281 => 106 | 282 => 107 | 287 => 112 | 316 => 113 | 171 => 87 | 205 => 114 | 321 => 120 | 322 => 121 | 243 => 99 | 246 => 108 | 283 => 115 | 284 => 116 | 285 => 117 | 286 => 118 | 129 => 123 | 317 => 122 | 318 => 124 | 319 => 125 | 320 => 126 | 337 => 127 | 338 => 128 | n => n, fun | 9 => 9 | 3 => 3 | 75 => 50 | 76 => 52 | 4 => 4 | 5 => 5 | 167 => 101 | 37 => 45 | 0 => 0 | 85 => 102 | 2 => 2 | 168 => 104 | 53 => 111 | 175 => 114 | 46 => 98 | 210 => 118 | 127 => 71 | 145 => 129 | 143 => 127 | 21 => 21 | 171 => 120 | 173 => 123 | 212 => 131 | 51 => 108 | 20 => 20 | 213 => 132 | 232 => 135 | 233 => 136 | 80 => 55 | n => n, fun | 15 => 2 | 16 => 3 | 17 => 4 | 18 => 5 | 19 => 6 | n => n⟩
theorem Jt : Go.Proofs.LaysC.n172 Tryz.prog atoiRen where
 mixed := by kernel_rfl
 f129 := Tryz.func123.trans (congrArg some (by kernel_rfl))
 f171 := Tryz.func87.trans (congrArg some (by kernel_rfl))
 f172 := Tryz.func86.trans (congrArg some (by kernel_rfl))
 f205 := Tryz.func114.trans (congrArg some (by kernel_rfl))
 f243 := Tryz.func99.trans (congrArg some (by kernel_rfl))
 f244 := Tryz.func97.trans (congrArg some (by kernel_rfl))
 f245 := Tryz.func98.trans (congrArg some (by kernel_rfl))
 f246 := Tryz.func108.trans (congrArg some (by kernel_rfl))
 f247 := Tryz.func103.trans (congrArg some (by kernel_rfl))
 f279 := Tryz.func104.trans (congrArg some (by kernel_rfl))
 f280 := Tryz.func105.trans (congrArg some (by kernel_rfl))
 f281 := Tryz.func106.trans (congrArg some (by kernel_rfl))
 f282 := Tryz.func107.trans (congrArg some (by kernel_rfl))
 f283 := Tryz.func115.trans (congrArg some (by kernel_rfl))
 f284 := Tryz.func116.trans (congrArg some (by kernel_rfl))
 f285 := Tryz.func117.trans (congrArg some (by kernel_rfl))
 f286 := Tryz.func118.trans (congrArg some (by kernel_rfl))
 f287 := Tryz.func112.trans (congrArg some (by kernel_rfl))
 f316 := Tryz.func113.trans (congrArg some (by kernel_rfl))
 f317 := Tryz.func122.trans (congrArg some (by kernel_rfl))
 f318 := Tryz.func124.trans (congrArg some (by kernel_rfl))
 f319 := Tryz.func125.trans (congrArg some (by kernel_rfl))
 f320 := Tryz.func126.trans (congrArg some (by kernel_rfl))
 f321 := Tryz.func120.trans (congrArg some (by kernel_rfl))
 f322 := Tryz.func121.trans (congrArg some (by kernel_rfl))
 f337 := Tryz.func127.trans (congrArg some (by kernel_rfl))
 f338 := Tryz.func128.trans (congrArg some (by kernel_rfl))
 t0 := Tryz.underlying0
 a0 := Tryz.isAgg0
 z0 := Tryz.sizeOf0
 v0 := Tryz.zeroValue0
 t2 := Tryz.underlying2
 a2 := Tryz.isAgg2
 z2 := Tryz.sizeOf2
 v2 := Tryz.zeroValue2
 t3 := Tryz.underlying3
 a3 := Tryz.isAgg3
 z3 := Tryz.sizeOf3
 v3 := Tryz.zeroValue3
 t4 := Tryz.underlying4
 a4 := Tryz.isAgg4
 z4 := Tryz.sizeOf4
 v4 := Tryz.zeroValue4
 t5 := Tryz.underlying5
 a5 := Tryz.isAgg5
 z5 := Tryz.sizeOf5
 v5 := Tryz.zeroValue5
 t9 := Tryz.underlying9
 a9 := Tryz.isAgg9
 z9 := Tryz.sizeOf9
 v9 := Tryz.zeroValue9
 t20 := Tryz.underlying20
 a20 := Tryz.isAgg20
 z20 := Tryz.sizeOf20
 v20 := Tryz.zeroValue20
 t21 := Tryz.underlying21
 a21 := Tryz.isAgg21
 z21 := Tryz.sizeOf21
 v21 := Tryz.zeroValue21
 t37 := Tryz.underlying45
 a37 := Tryz.isAgg45
 z37 := Tryz.sizeOf45
 v37 := Tryz.zeroValue45
 t46 := Tryz.underlying98
 a46 := Tryz.isAgg98
 z46 := Tryz.sizeOf98
 v46 := Tryz.zeroValue98
 t51 := Tryz.underlying108
 a51 := Tryz.isAgg108
 z51 := Tryz.sizeOf108
 v51 := Tryz.zeroValue108
 t53 := Tryz.underlying111
 a53 := Tryz.isAgg111
 z53 := Tryz.sizeOf111
 v53 := Tryz.zeroValue111
 t75 := Tryz.underlying50
 a75 := Tryz.isAgg50
 z75 := Tryz.sizeOf50
 v75 := Tryz.zeroValue50
 t76 := Tryz.underlying52
 a76 := Tryz.isAgg52
 z76 := Tryz.sizeOf52
 v76 := Tryz.zeroValue52
 t85 := Tryz.underlying102
 a85 := Tryz.isAgg102
 z85 := Tryz.sizeOf102
 v85 := Tryz.zeroValue102
 t127 := Tryz.underlying71
 a127 := Tryz.isAgg71
 z127 := Tryz.sizeOf71
 v127 := Tryz.zeroValue71
 t143 := Tryz.underlying127
 a143 := Tryz.isAgg127
 z143 := Tryz.sizeOf127
 v143 := Tryz.zeroValue127
 t145 := Tryz.underlying129
 a145 := Tryz.isAgg129
 z145 := Tryz.sizeOf129
 v145 := Tryz.zeroValue129
 t167 := Tryz.underlying101
 a167 := Tryz.isAgg101
 z167 := Tryz.sizeOf101
 v167 := Tryz.zeroValue101
 t168 := Tryz.underlying104
 a168 := Tryz.isAgg104
 z168 := Tryz.sizeOf104
 v168 := Tryz.zeroValue104
 t171 := Tryz.underlying120
 a171 := Tryz.isAgg120
 z171 := Tryz.sizeOf120
 v171 := Tryz.zeroValue120
 t173 := Tryz.underlying123
 a173 := Tryz.isAgg123
 z173 := Tryz.sizeOf123
 v173 := Tryz.zeroValue123
 t175 := Tryz.underlying114
 a175 := Tryz.isAgg114
 z175 := Tryz.sizeOf114
 v175 := Tryz.zeroValue114
 t210 := Tryz.underlying118
 a210 := Tryz.isAgg118
 z210 := Tryz.sizeOf118
 v210 := Tryz.zeroValue118
 t212 := Tryz.underlying131
 a212 := Tryz.isAgg131
 z212 := Tryz.sizeOf131
 v212 := Tryz.zeroValue131
 t213 := Tryz.underlying132
 a213 := Tryz.isAgg132
 z213 := Tryz.sizeOf132
 t232 := Tryz.underlying135
 a232 := Tryz.isAgg135
 z232 := Tryz.sizeOf135
 v232 := Tryz.zeroValue135
 t233 := Tryz.underlying136
 a233 := Tryz.isAgg136
 z233 := Tryz.sizeOf136
 v233 := Tryz.zeroValue136
 g15 := by kernel_rfl
 g16 := by kernel_rfl
 g17 := by kernel_rfl
 g18 := by kernel_rfl
 g19 := by kernel_rfl
 t80 := Tryz.underlying55
 a80 := Tryz.isAgg55
 z80 := Tryz.sizeOf55
 v80 := Tryz.zeroValue55
 i0 := by kernel_rfl
 i2 := by kernel_rfl
 i3 := by kernel_rfl
 i4 := by kernel_rfl
 i5 := by kernel_rfl
 i9 := by kernel_rfl
 i20 := by kernel_rfl
 i21 := by kernel_rfl
 i37 := by kernel_rfl
 i46 := by kernel_rfl
 i51 := by kernel_rfl
 i53 := by kernel_rfl
 i75 := by kernel_rfl
 i76 := by kernel_rfl
 i80 := by kernel_rfl
 i85 := by kernel_rfl
 i127 := by kernel_rfl
 i143 := by kernel_rfl
 i145 := by kernel_rfl
 i167 := by kernel_rfl
 i168 := by kernel_rfl
 i171 := by kernel_rfl
 i173 := by kernel_rfl
 i175 := by kernel_rfl
 i210 := by kernel_rfl
 i212 := by kernel_rfl
 i232 := by kernel_rfl
 i233 := by kernel_rfl
 m15 := by kernel_rfl
 m16 := by kernel_rfl
 m17 := by kernel_rfl
 m18 := by kernel_rfl
 m19 := by kernel_rfl
 c0 := by kernel_rfl
 c2 := by kernel_rfl
 c3 := by kernel_rfl
 c4 := by kernel_rfl
 c5 := by kernel_rfl
 c9 := by kernel_rfl
 c20 := by kernel_rfl
 c21 := by kernel_rfl
 c37 := by kernel_rfl
 c46 := by kernel_rfl
 c51 := by kernel_rfl
 c53 := by kernel_rfl
 c75 := by kernel_rfl
 c76 := by kernel_rfl
 c80 := by kernel_rfl
 c85 := by kernel_rfl
 c127 := by kernel_rfl
 c143 := by kernel_rfl
 c145 := by kernel_rfl
 c167 := by kernel_rfl
 c168 := by kernel_rfl
 c171 := by kernel_rfl
 c173 := by kernel_rfl
 c175 := by kernel_rfl
 c210 := by kernel_rfl
 c212 := by kernel_rfl
 c213 := by kernel_rfl
 c232 := by kernel_rfl
 c233 := by kernel_rfl
def itoaRen : Go.Shelf.Ren := ⟨fun | 171 => 87 | 243 => 99 | 246 => 108 | 283 => 115 | 284 => 116 | 285 => 117 | 286 => 118 | 129 => 123 | 317 => 122 | 318 => 124 | 319 => 125 | 320 => 126 | 337 => 127 | 338 => 128 | n => n, fun | 3 => 3 | 9 => 9 | 2 => 2 | 4 => 4 | 171 => 120 | 0 => 0 | 53 => 111 | 37 => 45 | 5 => 5 | 173 => 123 | 212 => 131 | 51 => 108 | 20 => 20 | 213 => 132 | 46 => 98 | 232 => 135 | 233 => 136 | n => n, fun | 17 => 4 | 18 => 5 | 19 => 6 | n => n⟩
theorem laysItoa : Go.Proofs.LaysM.n171 Tryz.prog itoaRen where
 mixed := by kernel_rfl
 f129 := Tryz.func123.trans (congrArg some (by kernel_rfl))
 f171 := Tryz.func87.trans (congrArg some (by kernel_rfl))
 f243 := Tryz.func99.trans (congrArg some (by kernel_rfl))
 f246 := Tryz.func108.trans (congrArg some (by kernel_rfl))
 f283 := Tryz.func115.trans (congrArg some (by kernel_rfl))
 f284 := Tryz.func116.trans (congrArg some (by kernel_rfl))
 f285 := Tryz.func117.trans (congrArg some (by kernel_rfl))
 f286 := Tryz.func118.trans (congrArg some (by kernel_rfl))
 f317 := Tryz.func122.trans (congrArg some (by kernel_rfl))
 f318 := Tryz.func124.trans (congrArg some (by kernel_rfl))
 f319 := Tryz.func125.trans (congrArg some (by kernel_rfl))
 f320 := Tryz.func126.trans (congrArg some (by kernel_rfl))
 f337 := Tryz.func127.trans (congrArg some (by kernel_rfl))
 f338 := Tryz.func128.trans (congrArg some (by kernel_rfl))
 t0 := Tryz.underlying0
 a0 := Tryz.isAgg0
 z0 := Tryz.sizeOf0
 v0 := Tryz.zeroValue0
 t2 := Tryz.underlying2
 a2 := Tryz.isAgg2
 z2 := Tryz.sizeOf2
 v2 := Tryz.zeroValue2
 t3 := Tryz.underlying3
 a3 := Tryz.isAgg3
 z3 := Tryz.sizeOf3
 v3 := Tryz.zeroValue3
 t4 := Tryz.underlying4
 a4 := Tryz.isAgg4
 z4 := Tryz.sizeOf4
 v4 := Tryz.zeroValue4
 t5 := Tryz.underlying5
 a5 := Tryz.isAgg5
 z5 := Tryz.sizeOf5
 v5 := Tryz.zeroValue5
 t9 := Tryz.underlying9
 a9 := Tryz.isAgg9
 z9 := Tryz.sizeOf9
 v9 := Tryz.zeroValue9
 t20 := Tryz.underlying20
 a20 := Tryz.isAgg20
 z20 := Tryz.sizeOf20
 v20 := Tryz.zeroValue20
 t37 := Tryz.underlying45
 a37 := Tryz.isAgg45
 z37 := Tryz.sizeOf45
 v37 := Tryz.zeroValue45
 t46 := Tryz.underlying98
 a46 := Tryz.isAgg98
 z46 := Tryz.sizeOf98
 v46 := Tryz.zeroValue98
 t51 := Tryz.underlying108
 a51 := Tryz.isAgg108
 z51 := Tryz.sizeOf108
 v51 := Tryz.zeroValue108
 t53 := Tryz.underlying111
 a53 := Tryz.isAgg111
 z53 := Tryz.sizeOf111
 v53 := Tryz.zeroValue111
 t171 := Tryz.underlying120
 a171 := Tryz.isAgg120
 z171 := Tryz.sizeOf120
 v171 := Tryz.zeroValue120
 t173 := Tryz.underlying123
 a173 := Tryz.isAgg123
 z173 := Tryz.sizeOf123
 v173 := Tryz.zeroValue123
 t212 := Tryz.underlying131
 a212 := Tryz.isAgg131
 z212 := Tryz.sizeOf131
 v212 := Tryz.zeroValue131
 t213 := Tryz.underlying132
 a213 := Tryz.isAgg132
 z213 := Tryz.sizeOf132
 t232 := Tryz.underlying135
 a232 := Tryz.isAgg135
 z232 := Tryz.sizeOf135
 v232 := Tryz.zeroValue135
 t233 := Tryz.underlying136
 a233 := Tryz.isAgg136
 z233 := Tryz.sizeOf136
 v233 := Tryz.zeroValue136
 g17 := by kernel_rfl
 g18 := by kernel_rfl
 g19 := by kernel_rfl
 i0 := by kernel_rfl
 i2 := by kernel_rfl
 i3 := by kernel_rfl
 i4 := by kernel_rfl
 i5 := by kernel_rfl
 i9 := by kernel_rfl
 i20 := by kernel_rfl
 i37 := by kernel_rfl
 i46 := by kernel_rfl
 i51 := by kernel_rfl
 i53 := by kernel_rfl
 i171 := by kernel_rfl
 i173 := by kernel_rfl
 i212 := by kernel_rfl
 i232 := by kernel_rfl
 i233 := by kernel_rfl
 m17 := by kernel_rfl
 m18 := by kernel_rfl
 m19 := by kernel_rfl
theorem glob_cell {w : World} {S : Nat → Prop} {β : Nat → Nat} {n g : Nat} {cs : List AV} (h : GV w S β n g cs) {i : Nat} {x : AV} (hi : cs[i]? = some x) : ∃ v, w.cell? ⟨g, i, none⟩ = some v ∧ RV w S β 0 x v := by
 have hr := h.rv
 cases hr with
 | rptr _ _ _ u hS h1 hc hr =>
   have := hc i x hi
   rw [Nat.zero_add] at this
   exact ⟨_, this, hr i x hi⟩
theorem glob_err {w : World} {S : Nat → Prop} {β : Nat → Nat} {n g t : Nat} (h : GV w S β n g [.iface t .undef]) : ∃ ev, w.cell? ⟨g, 0, none⟩ = some ev ∧ (ev = .nilIface ∨ ∃ te pe, ev = .iface te pe) := by
 obtain ⟨v, hv, hr⟩ := glob_cell h (i := 0) rfl
 cases hr with
 | iface _ _ v _ => exact ⟨_, hv, .inr ⟨_, _, rfl⟩⟩
theorem glob_tab {P : Program} {w : World} {S : Nat → Prop} {β : Nat → Nat} {n g : Nat} {k : IntKind} {zs : List Int} {nm : String} (hg : P.globalNamed nm = some g) (hz : zs ≠ []) (h : GV w S β n g (zs.map fun z => .int k z)) : Lib.TabIs P w nm k zs := by
 obtain ⟨e, he⟩ := h.sh (by cases zs with | nil => exact absurd rfl hz | cons a l => simp)
 unfold Lib.TabIs World.var?
 rw [hg, Option.bind_some]
 unfold World.shape? at he
 cases hb : w.heap[g]? with
 | none => rw [hb] at he; cases he
 | some o =>
   rw [hb] at he
   cases o with
   | cells c t fr =>
     simp only [Option.some.injEq, Prod.mk.injEq] at he
     show some c = some _
     congr 1
     apply Array.ext
     ·rw [he.2]; simp
     ·intro i h1 h2
      have hi : i < zs.length := by simpa using h2
      obtain ⟨v, hv, hr⟩ := glob_cell h (i := i) (x := .int k zs[i]) (by rw [List.getElem?_map, List.getElem?_eq_getElem hi]; rfl)
      unfold World.cell? at hv
      rw [hb] at hv
      simp only [Option.isSome_none, Bool.false_eq_true, if_false] at hv
      rw [Array.getElem?_eq_getElem h1, Option.some.injEq] at hv
      cases hr
      rw [hv]; simp
   | _ => cases he
/-- Is it an integer of the language, as the program asks? -/
def ug (l : List UInt8) : Bool := match Lib.atoiAll l with
 | .ok v => decide (v ≤ 1000000000000) && Lib.itoa v == l
 | _ => false
theorem below_grow (w : World) (k : Nat) (os : Array Go.Obj) : Below w.heap.size w (Sort.grow (w.drewN k) os) := by
 refine ⟨rfl, rfl, rfl, ?_, fun i hi => ?_⟩
 ·show w.heap.size ≤ (w.heap ++ os).size
  simp
 ·show (w.heap ++ os)[i]? = w.heap[i]?
  rw [Array.getElem?_append_left hi]
theorem atoi_below {w w1 : World} {t5 : TypeId} (hw : w1 = w ∨ ∃ t, w1 = Lib.bytesWorld w t5 t) : Below w.heap.size w w1 := by
 rcases hw with rfl | ⟨t, rfl⟩
 ·exact Below.refl _ _
 ·exact Lib.bytesWorld_below _ _ _
theorem tab_below {P : Program} {w w' : World} {nm : String} {k : IntKind} {zs : List Int} (h : Below w.heap.size w w') (ht : Lib.TabIs P w nm k zs) : Lib.TabIs P w' nm k zs := by
 unfold Lib.TabIs World.var? at ht ⊢
 cases hg : P.globalNamed nm with
 | none => rw [hg] at ht; cases ht
 | some g =>
   rw [hg, Option.bind_some] at ht
   rw [Option.bind_some]
   have hlt : g < w.heap.size := by
    rcases Nat.lt_or_ge g w.heap.size with h | h
    ·exact h
    ·rw [Array.getElem?_eq_none h] at ht; cases ht
   rw [h.block g hlt]; exact ht
theorem token_integer (s : ByteArray) (hs : s.size ≤ 281474976710656) : Fn Tryz.prog G 68 [.str s] (.bool (ug s.data.toList)) := by
 refine Fn_of_belowG (fun vs w => by simp) fun w S β n vs hg hv => ?_
 rw [vs_str hv]
 obtain ⟨e0, c0, d0⟩ := glob_err (t := 127) (hg 2)
 obtain ⟨e1, c1, d1⟩ := glob_err (t := 127) (hg 3)
 have htab : Lib.TabIs Tryz.prog w "internal/strconv.uint64pow10" .u64 Lib.pow10Tab := glob_tab (g := 4) (by kernel_rfl) (by decide) (hg 4)
 cases h : Lib.atoiAll s.data.toList
 rotate_left
 ·have hr : ug s.data.toList = false := by simp only [ug, h]
  rw [hr]
  have A := Any.strconv_Atoi_syntax Jt s hs h e0 w c0 d0
  go_enter Tryz.func68, Tryz.ntmps68
  go_wp2_with (go_at_call 86; refine (Any.strconv_Atoi_syntax Jt s hs h e0 _ c0 d0).mono ?_; rintro e w1 ⟨N, rfl, hN, _, hb⟩)
  go_ret
  exact ⟨⟨_, rfl, fun _ _ _ => .bool _⟩, hb⟩
 ·have hr : ug s.data.toList = false := by simp only [ug, h]
  rw [hr]
  go_enter Tryz.func68, Tryz.ntmps68
  go_wp2_with (go_at_call 86; refine (Any.strconv_Atoi_range Jt s hs h e1 _ c1 d1).mono ?_; rintro e w1 ⟨N, rfl, hN, _, hb⟩)
  go_ret
  exact ⟨⟨_, rfl, fun _ _ _ => .bool _⟩, hb⟩
 ·rename_i v
  have hr : ug s.data.toList = (decide (v ≤ 1000000000000) && Lib.itoa v == s.toList) := by simp only [ug, h, ByteArray.toList_eq]
  rw [hr]
  have hv := Lib.atoiAll_bounds h
  go_enter Tryz.func68, Tryz.ntmps68
  by_cases hb : v ≤ 1000000000000
  ·go_wp2_with (first
    | (go_at_call 86; refine (Any.strconv_Atoi_ok Jt s (by omega) v h _).mono ?_; rintro e w1 ⟨rfl, hw⟩; have hb1 := atoi_below hw; clear hw; have ht1 := Lib.hid (tab_below hb1 htab))
    | (go_at_call 87; refine (Any.strconv_Itoa laysItoa v hv.1 hv.2 _ (RowKit.Hid.out (by assumption))).mono ?_; rintro e w2 ⟨rfl, k, os, rfl⟩))
   go_ret
   exact ⟨⟨_, rfl, fun _ _ _ => by rw [decide_eq_true hb, Bool.true_and]; exact .bool _⟩, hb1.trans ((below_grow w1 k os).mono hb1.size)⟩
  ·go_wp2_with (go_at_call 86; refine (Any.strconv_Atoi_ok Jt s (by omega) v h _).mono ?_; rintro e w1 ⟨rfl, hw⟩; have hb1 := atoi_below hw; clear hw)
   go_ret
   exact ⟨⟨_, rfl, fun _ _ _ => by rw [decide_eq_false (by omega), Bool.false_and]; exact .bool _⟩, hb1⟩
end Go.Proofs.YtimcdpioclioiaaGreatDoorW.Ex.Gr
