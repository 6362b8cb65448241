/- strconv.Atoi and strconv.Itoa as the token layer uses them: an integer of the language. The library's contracts, laid at this program. Conditions: those in each theorem. -/
import Derived.Test.YtigmilhpeodhbaaGreatDoorExP
import Derived.Test.YtigmilhpeodhbaaGreatDoorGa
import Derived.Shelf.Strconv.AtoiAll
import Derived.Shelf.Strconv.Itoa3
import Derived.Shelf.LaysC
import Derived.Lib.AtoiErrMem
import Derived.KernelRfl
namespace Go.Proofs.YtigmilhpeodhbaaGreatDoorW.Ex.Gr
open Go Go.Shelf Go.Proofs.YtigmilhpeodhbaaGreatDoorW.Ex Go.RowKit
set_option linter.all false
set_option maxRecDepth 100000
def q6b : Go.Shelf.Ren := ⟨fun | 172 => 144 | 244 => 153 | 245 => 154 | 247 => 163 | 279 => 164 | 280 => 165 | 281 => 166 | 282 => 167 | 287 => 174 | 316 => 175 | 171 => 145 | 205 => 176 | 321 => 182 | 322 => 183 | 243 => 155 | 246 => 168 | 283 => 177 | 284 => 178 | 285 => 179 | 286 => 180 | 129 => 185 | 317 => 184 | 318 => 186 | 319 => 187 | 320 => 188 | 337 => 189 | 338 => 190 | n => n, fun | 9 => 9 | 3 => 3 | 75 => 64 | 76 => 66 | 4 => 4 | 5 => 5 | 167 => 128 | 37 => 58 | 0 => 0 | 85 => 129 | 2 => 2 | 168 => 131 | 53 => 138 | 175 => 141 | 46 => 125 | 210 => 145 | 127 => 98 | 145 => 156 | 143 => 154 | 21 => 21 | 171 => 147 | 173 => 150 | 212 => 158 | 51 => 135 | 20 => 20 | 213 => 159 | 232 => 162 | 233 => 163 | 80 => 73 | n => n, fun | 15 => 2 | 16 => 3 | 17 => 4 | 18 => 5 | 19 => 6 | n => n⟩
theorem qfy : Go.Proofs.LaysC.n172 Tryz.prog q6b where
 mixed := by kernel_rfl
 f129 := Tryz.func185.trans (congrArg some (by kernel_rfl))
 f171 := Tryz.func145.trans (congrArg some (by kernel_rfl))
 f172 := Tryz.func144.trans (congrArg some (by kernel_rfl))
 f205 := Tryz.func176.trans (congrArg some (by kernel_rfl))
 f243 := Tryz.func155.trans (congrArg some (by kernel_rfl))
 f244 := Tryz.func153.trans (congrArg some (by kernel_rfl))
 f245 := Tryz.func154.trans (congrArg some (by kernel_rfl))
 f246 := Tryz.func168.trans (congrArg some (by kernel_rfl))
 f247 := Tryz.func163.trans (congrArg some (by kernel_rfl))
 f279 := Tryz.func164.trans (congrArg some (by kernel_rfl))
 f280 := Tryz.func165.trans (congrArg some (by kernel_rfl))
 f281 := Tryz.func166.trans (congrArg some (by kernel_rfl))
 f282 := Tryz.func167.trans (congrArg some (by kernel_rfl))
 f283 := Tryz.func177.trans (congrArg some (by kernel_rfl))
 f284 := Tryz.func178.trans (congrArg some (by kernel_rfl))
 f285 := Tryz.func179.trans (congrArg some (by kernel_rfl))
 f286 := Tryz.func180.trans (congrArg some (by kernel_rfl))
 f287 := Tryz.func174.trans (congrArg some (by kernel_rfl))
 f316 := Tryz.func175.trans (congrArg some (by kernel_rfl))
 f317 := Tryz.func184.trans (congrArg some (by kernel_rfl))
 f318 := Tryz.func186.trans (congrArg some (by kernel_rfl))
 f319 := Tryz.func187.trans (congrArg some (by kernel_rfl))
 f320 := Tryz.func188.trans (congrArg some (by kernel_rfl))
 f321 := Tryz.func182.trans (congrArg some (by kernel_rfl))
 f322 := Tryz.func183.trans (congrArg some (by kernel_rfl))
 f337 := Tryz.func189.trans (congrArg some (by kernel_rfl))
 f338 := Tryz.func190.trans (congrArg some (by kernel_rfl))
 t0 := Tryz.underlying0
 a0 := Tryz.isAgg0
 z0 := Tryz.sizeOf0
 v0 := Tryz.zeroValue0
 t2 := Tryz.underlying2
 a2 := Tryz.isAgg2
 z2 := Tryz.sizeOf2
 v2 := Tryz.zeroValue2
 t3 := Tryz.underlying3
 a3 := Tryz.isAgg3
 z3 := Tryz.sizeOf3
 v3 := Tryz.zeroValue3
 t4 := Tryz.underlying4
 a4 := Tryz.isAgg4
 z4 := Tryz.sizeOf4
 v4 := Tryz.zeroValue4
 t5 := Tryz.underlying5
 a5 := Tryz.isAgg5
 z5 := Tryz.sizeOf5
 v5 := Tryz.zeroValue5
 t9 := Tryz.underlying9
 a9 := Tryz.isAgg9
 z9 := Tryz.sizeOf9
 v9 := Tryz.zeroValue9
 t20 := Tryz.underlying20
 a20 := Tryz.isAgg20
 z20 := Tryz.sizeOf20
 v20 := Tryz.zeroValue20
 t21 := Tryz.underlying21
 a21 := Tryz.isAgg21
 z21 := Tryz.sizeOf21
 v21 := Tryz.zeroValue21
 t37 := Tryz.underlying58
 a37 := Tryz.isAgg58
 z37 := Tryz.sizeOf58
 v37 := Tryz.zeroValue58
 t46 := Tryz.underlying125
 a46 := Tryz.isAgg125
 z46 := Tryz.sizeOf125
 v46 := Tryz.zeroValue125
 t51 := Tryz.underlying135
 a51 := Tryz.isAgg135
 z51 := Tryz.sizeOf135
 v51 := Tryz.zeroValue135
 t53 := Tryz.underlying138
 a53 := Tryz.isAgg138
 z53 := Tryz.sizeOf138
 v53 := Tryz.zeroValue138
 t75 := Tryz.underlying64
 a75 := Tryz.isAgg64
 z75 := Tryz.sizeOf64
 v75 := Tryz.zeroValue64
 t76 := Tryz.underlying66
 a76 := Tryz.isAgg66
 z76 := Tryz.sizeOf66
 v76 := Tryz.zeroValue66
 t85 := Tryz.underlying129
 a85 := Tryz.isAgg129
 z85 := Tryz.sizeOf129
 v85 := Tryz.zeroValue129
 t127 := Tryz.underlying98
 a127 := Tryz.isAgg98
 z127 := Tryz.sizeOf98
 v127 := Tryz.zeroValue98
 t143 := Tryz.underlying154
 a143 := Tryz.isAgg154
 z143 := Tryz.sizeOf154
 v143 := Tryz.zeroValue154
 t145 := Tryz.underlying156
 a145 := Tryz.isAgg156
 z145 := Tryz.sizeOf156
 v145 := Tryz.zeroValue156
 t167 := Tryz.underlying128
 a167 := Tryz.isAgg128
 z167 := Tryz.sizeOf128
 v167 := Tryz.zeroValue128
 t168 := Tryz.underlying131
 a168 := Tryz.isAgg131
 z168 := Tryz.sizeOf131
 v168 := Tryz.zeroValue131
 t171 := Tryz.underlying147
 a171 := Tryz.isAgg147
 z171 := Tryz.sizeOf147
 v171 := Tryz.zeroValue147
 t173 := Tryz.underlying150
 a173 := Tryz.isAgg150
 z173 := Tryz.sizeOf150
 v173 := Tryz.zeroValue150
 t175 := Tryz.underlying141
 a175 := Tryz.isAgg141
 z175 := Tryz.sizeOf141
 v175 := Tryz.zeroValue141
 t210 := Tryz.underlying145
 a210 := Tryz.isAgg145
 z210 := Tryz.sizeOf145
 v210 := Tryz.zeroValue145
 t212 := Tryz.underlying158
 a212 := Tryz.isAgg158
 z212 := Tryz.sizeOf158
 v212 := Tryz.zeroValue158
 t213 := Tryz.underlying159
 a213 := Tryz.isAgg159
 z213 := Tryz.sizeOf159
 t232 := Tryz.underlying162
 a232 := Tryz.isAgg162
 z232 := Tryz.sizeOf162
 v232 := Tryz.zeroValue162
 t233 := Tryz.underlying163
 a233 := Tryz.isAgg163
 z233 := Tryz.sizeOf163
 v233 := Tryz.zeroValue163
 g15 := by kernel_rfl
 g16 := by kernel_rfl
 g17 := by kernel_rfl
 g18 := by kernel_rfl
 g19 := by kernel_rfl
 t80 := Tryz.underlying73
 a80 := Tryz.isAgg73
 z80 := Tryz.sizeOf73
 v80 := Tryz.zeroValue73
 i0 := by kernel_rfl
 i2 := by kernel_rfl
 i3 := by kernel_rfl
 i4 := by kernel_rfl
 i5 := by kernel_rfl
 i9 := by kernel_rfl
 i20 := by kernel_rfl
 i21 := by kernel_rfl
 i37 := by kernel_rfl
 i46 := by kernel_rfl
 i51 := by kernel_rfl
 i53 := by kernel_rfl
 i75 := by kernel_rfl
 i76 := by kernel_rfl
 i80 := by kernel_rfl
 i85 := by kernel_rfl
 i127 := by kernel_rfl
 i143 := by kernel_rfl
 i145 := by kernel_rfl
 i167 := by kernel_rfl
 i168 := by kernel_rfl
 i171 := by kernel_rfl
 i173 := by kernel_rfl
 i175 := by kernel_rfl
 i210 := by kernel_rfl
 i212 := by kernel_rfl
 i232 := by kernel_rfl
 i233 := by kernel_rfl
 m15 := by kernel_rfl
 m16 := by kernel_rfl
 m17 := by kernel_rfl
 m18 := by kernel_rfl
 m19 := by kernel_rfl
 c0 := by kernel_rfl
 c2 := by kernel_rfl
 c3 := by kernel_rfl
 c4 := by kernel_rfl
 c5 := by kernel_rfl
 c9 := by kernel_rfl
 c20 := by kernel_rfl
 c21 := by kernel_rfl
 c37 := by kernel_rfl
 c46 := by kernel_rfl
 c51 := by kernel_rfl
 c53 := by kernel_rfl
 c75 := by kernel_rfl
 c76 := by kernel_rfl
 c80 := by kernel_rfl
 c85 := by kernel_rfl
 c127 := by kernel_rfl
 c143 := by kernel_rfl
 c145 := by kernel_rfl
 c167 := by kernel_rfl
 c168 := by kernel_rfl
 c171 := by kernel_rfl
 c173 := by kernel_rfl
 c175 := by kernel_rfl
 c210 := by kernel_rfl
 c212 := by kernel_rfl
 c213 := by kernel_rfl
 c232 := by kernel_rfl
 c233 := by kernel_rfl
def q5u : Go.Shelf.Ren := ⟨fun | 171 => 145 | 243 => 155 | 246 => 168 | 283 => 177 | 284 => 178 | 285 => 179 | 286 => 180 | 129 => 185 | 317 => 184 | 318 => 186 | 319 => 187 | 320 => 188 | 337 => 189 | 338 => 190 | n => n, fun | 3 => 3 | 9 => 9 | 2 => 2 | 4 => 4 | 171 => 147 | 0 => 0 | 53 => 138 | 37 => 58 | 5 => 5 | 173 => 150 | 212 => 158 | 51 => 135 | 20 => 20 | 213 => 159 | 46 => 125 | 232 => 162 | 233 => 163 | n => n, fun | 17 => 4 | 18 => 5 | 19 => 6 | n => n⟩
theorem q3a : Go.Proofs.LaysM.n171 Tryz.prog q5u where
 mixed := by kernel_rfl
 f129 := Tryz.func185.trans (congrArg some (by kernel_rfl))
 f171 := Tryz.func145.trans (congrArg some (by kernel_rfl))
 f243 := Tryz.func155.trans (congrArg some (by kernel_rfl))
 f246 := Tryz.func168.trans (congrArg some (by kernel_rfl))
 f283 := Tryz.func177.trans (congrArg some (by kernel_rfl))
 f284 := Tryz.func178.trans (congrArg some (by kernel_rfl))
 f285 := Tryz.func179.trans (congrArg some (by kernel_rfl))
 f286 := Tryz.func180.trans (congrArg some (by kernel_rfl))
 f317 := Tryz.func184.trans (congrArg some (by kernel_rfl))
 f318 := Tryz.func186.trans (congrArg some (by kernel_rfl))
 f319 := Tryz.func187.trans (congrArg some (by kernel_rfl))
 f320 := Tryz.func188.trans (congrArg some (by kernel_rfl))
 f337 := Tryz.func189.trans (congrArg some (by kernel_rfl))
 f338 := Tryz.func190.trans (congrArg some (by kernel_rfl))
 t0 := Tryz.underlying0
 a0 := Tryz.isAgg0
 z0 := Tryz.sizeOf0
 v0 := Tryz.zeroValue0
 t2 := Tryz.underlying2
 a2 := Tryz.isAgg2
 z2 := Tryz.sizeOf2
 v2 := Tryz.zeroValue2
 t3 := Tryz.underlying3
 a3 := Tryz.isAgg3
 z3 := Tryz.sizeOf3
 v3 := Tryz.zeroValue3
 t4 := Tryz.underlying4
 a4 := Tryz.isAgg4
 z4 := Tryz.sizeOf4
 v4 := Tryz.zeroValue4
 t5 := Tryz.underlying5
 a5 := Tryz.isAgg5
 z5 := Tryz.sizeOf5
 v5 := Tryz.zeroValue5
 t9 := Tryz.underlying9
 a9 := Tryz.isAgg9
 z9 := Tryz.sizeOf9
 v9 := Tryz.zeroValue9
 t20 := Tryz.underlying20
 a20 := Tryz.isAgg20
 z20 := Tryz.sizeOf20
 v20 := Tryz.zeroValue20
 t37 := Tryz.underlying58
 a37 := Tryz.isAgg58
 z37 := Tryz.sizeOf58
 v37 := Tryz.zeroValue58
 t46 := Tryz.underlying125
 a46 := Tryz.isAgg125
 z46 := Tryz.sizeOf125
 v46 := Tryz.zeroValue125
 t51 := Tryz.underlying135
 a51 := Tryz.isAgg135
 z51 := Tryz.sizeOf135
 v51 := Tryz.zeroValue135
 t53 := Tryz.underlying138
 a53 := Tryz.isAgg138
 z53 := Tryz.sizeOf138
 v53 := Tryz.zeroValue138
 t171 := Tryz.underlying147
 a171 := Tryz.isAgg147
 z171 := Tryz.sizeOf147
 v171 := Tryz.zeroValue147
 t173 := Tryz.underlying150
 a173 := Tryz.isAgg150
 z173 := Tryz.sizeOf150
 v173 := Tryz.zeroValue150
 t212 := Tryz.underlying158
 a212 := Tryz.isAgg158
 z212 := Tryz.sizeOf158
 v212 := Tryz.zeroValue158
 t213 := Tryz.underlying159
 a213 := Tryz.isAgg159
 z213 := Tryz.sizeOf159
 t232 := Tryz.underlying162
 a232 := Tryz.isAgg162
 z232 := Tryz.sizeOf162
 v232 := Tryz.zeroValue162
 t233 := Tryz.underlying163
 a233 := Tryz.isAgg163
 z233 := Tryz.sizeOf163
 v233 := Tryz.zeroValue163
 g17 := by kernel_rfl
 g18 := by kernel_rfl
 g19 := by kernel_rfl
 i0 := by kernel_rfl
 i2 := by kernel_rfl
 i3 := by kernel_rfl
 i4 := by kernel_rfl
 i5 := by kernel_rfl
 i9 := by kernel_rfl
 i20 := by kernel_rfl
 i37 := by kernel_rfl
 i46 := by kernel_rfl
 i51 := by kernel_rfl
 i53 := by kernel_rfl
 i171 := by kernel_rfl
 i173 := by kernel_rfl
 i212 := by kernel_rfl
 i232 := by kernel_rfl
 i233 := by kernel_rfl
 m17 := by kernel_rfl
 m18 := by kernel_rfl
 m19 := by kernel_rfl
theorem qq4 {w : World} {S : Nat → Prop} {β : Nat → Nat} {n g : Nat} {cs : List AV} (h : GV w S β n g cs) {i : Nat} {x : AV} (hi : cs[i]? = some x) : ∃ v, w.cell? ⟨g, i, none⟩ = some v ∧ RV w S β 0 x v := by
 have hr := h.rv
 cases hr with
 | rptr _ _ _ u hS h1 hc hr =>
   have := hc i x hi
   rw [Nat.zero_add] at this
   exact ⟨_, this, hr i x hi⟩
theorem qvf {w : World} {S : Nat → Prop} {β : Nat → Nat} {n g t : Nat} (h : GV w S β n g [.iface t .undef]) : ∃ ev, w.cell? ⟨g, 0, none⟩ = some ev ∧ (ev = .nilIface ∨ ∃ te pe, ev = .iface te pe) := by
 obtain ⟨v, hv, hr⟩ := qq4 h (i := 0) rfl
 cases hr with
 | iface _ _ v _ => exact ⟨_, hv, .inr ⟨_, _, rfl⟩⟩
theorem q3k {P : Program} {w : World} {S : Nat → Prop} {β : Nat → Nat} {n g : Nat} {k : IntKind} {zs : List Int} {nm : String} (hg : P.globalNamed nm = some g) (hz : zs ≠ []) (h : GV w S β n g (zs.map fun z => .int k z)) : Lib.TabIs P w nm k zs := by
 obtain ⟨e, he⟩ := h.sh (by cases zs with | nil => exact absurd rfl hz | cons a l => simp)
 unfold Lib.TabIs World.var?
 rw [hg, Option.bind_some]
 unfold World.shape? at he
 cases hb : w.heap[g]? with
 | none => rw [hb] at he; cases he
 | some o =>
   rw [hb] at he
   cases o with
   | cells c t fr =>
     simp only [Option.some.injEq, Prod.mk.injEq] at he
     show some c = some _
     congr 1
     apply Array.ext
     ·rw [he.2]; simp
     intro i h1 h2
     have hi : i < zs.length := by simpa using h2
     obtain ⟨v, hv, hr⟩ := qq4 h (i := i) (x := .int k zs[i]) (by rw [List.getElem?_map, List.getElem?_eq_getElem hi]; rfl)
     unfold World.cell? at hv
     rw [hb] at hv
     simp only [Option.isSome_none, Bool.false_eq_true, if_false] at hv
     rw [Array.getElem?_eq_getElem h1, Option.some.injEq] at hv
     cases hr
     rw [hv]; simp
   | _ => cases he
def Kx (l : List UInt8) : Bool := match Lib.atoiAll l with
 | .ok v => decide (v ≤ 1000000000000) && Lib.itoa v == l
 | _ => false
theorem qxl (w : World) (k : Nat) (os : Array Go.Obj) : Below w.heap.size w (Sort.grow (w.drewN k) os) := by
 refine ⟨rfl, rfl, rfl, ?_, fun i hi => ?_⟩
 ·show w.heap.size ≤ (w.heap ++ os).size
  simp
 show (w.heap ++ os)[i]? = w.heap[i]?
 rw [Array.getElem?_append_left hi]
theorem qoz {w w1 : World} {t5 : TypeId} (hw : w1 = w ∨ ∃ t, w1 = Lib.bytesWorld w t5 t) : Below w.heap.size w w1 := by
 rcases hw with rfl | ⟨t, rfl⟩
 ·exact Below.refl _ _
 exact Lib.bytesWorld_below _ _ _
theorem q0j {P : Program} {w w' : World} {nm : String} {k : IntKind} {zs : List Int} (h : Below w.heap.size w w') (ht : Lib.TabIs P w nm k zs) : Lib.TabIs P w' nm k zs := by
 unfold Lib.TabIs World.var? at ht ⊢
 cases hg : P.globalNamed nm with
 | none => rw [hg] at ht; cases ht
 | some g =>
   rw [hg, Option.bind_some] at ht
   rw [Option.bind_some]
   have hlt : g < w.heap.size := by
    rcases Nat.lt_or_ge g w.heap.size with h | h
    ·exact h
    rw [Array.getElem?_eq_none h] at ht; cases ht
   rw [h.block g hlt]; exact ht
theorem qpx (s : ByteArray) (hs : s.size ≤ 281474976710656) : Fn Tryz.prog G 129 [.str s] (.bool (Kx s.data.toList)) := by
 refine qjt (fun vs w => by simp) fun w S β n vs hg hv => ?_
 rw [qwq hv]
 obtain ⟨e0, c0, d0⟩ := qvf (t := 154) (hg 2)
 obtain ⟨e1, c1, d1⟩ := qvf (t := 154) (hg 3)
 have htab : Lib.TabIs Tryz.prog w "internal/strconv.uint64pow10" .u64 Lib.pow10Tab := q3k (g := 4) (by kernel_rfl) (by decide) (hg 4)
 cases h : Lib.atoiAll s.data.toList
 rotate_left
 ·have hr : Kx s.data.toList = false := by simp only [Kx, h]
  rw [hr]
  have A := Any.strconv_Atoi_syntax qfy s hs h e0 w c0 d0
  go_enter Tryz.func129, Tryz.ntmps129
  go_wp2_with (go_at_call 144; refine (Any.strconv_Atoi_syntax qfy s hs h e0 _ c0 d0).mono ?_; rintro e w1 ⟨N, rfl, hN, _, hb⟩)
  go_ret
  exact ⟨⟨_, rfl, fun _ _ _ => .bool _⟩, hb⟩
 ·have hr : Kx s.data.toList = false := by simp only [Kx, h]
  rw [hr]
  go_enter Tryz.func129, Tryz.ntmps129
  go_wp2_with (go_at_call 144; refine (Any.strconv_Atoi_range qfy s hs h e1 _ c1 d1).mono ?_; rintro e w1 ⟨N, rfl, hN, _, hb⟩)
  go_ret
  exact ⟨⟨_, rfl, fun _ _ _ => .bool _⟩, hb⟩
 rename_i v
 have hr : Kx s.data.toList = (decide (v ≤ 1000000000000) && Lib.itoa v == s.toList) := by simp only [Kx, h, ByteArray.toList_eq]
 rw [hr]
 have hv := Lib.atoiAll_bounds h
 go_enter Tryz.func129, Tryz.ntmps129
 by_cases hb : v ≤ 1000000000000
 ·go_wp2_with (first
   | (go_at_call 144; refine (Any.strconv_Atoi_ok qfy s (by omega) v h _).mono ?_; rintro e w1 ⟨rfl, hw⟩; have hb1 := qoz hw; clear hw; have ht1 := Lib.hid (q0j hb1 htab))
   | (go_at_call 145; refine (Any.strconv_Itoa q3a v hv.1 hv.2 _ (RowKit.Hid.out (by assumption))).mono ?_; rintro e w2 ⟨rfl, k, os, rfl⟩))
  go_ret
  exact ⟨⟨_, rfl, fun _ _ _ => by rw [decide_eq_true hb, Bool.true_and]; exact .bool _⟩, hb1.trans ((qxl w1 k os).mono hb1.size)⟩
 go_wp2_with (go_at_call 144; refine (Any.strconv_Atoi_ok qfy s (by omega) v h _).mono ?_; rintro e w1 ⟨rfl, hw⟩; have hb1 := qoz hw; clear hw)
 go_ret
 exact ⟨⟨_, rfl, fun _ _ _ => by rw [decide_eq_false (by omega), Bool.false_and]; exact .bool _⟩, hb1⟩
end Go.Proofs.YtigmilhpeodhbaaGreatDoorW.Ex.Gr
