/- strconv.Atoi and strconv.Itoa as the token layer uses them: an integer of the language. The library's contracts, laid at this program. Conditions: those in each theorem. -/
import Derived.Test.YtimdjillcaichaaDoorExP
import Derived.Test.YtimdjillcaichaaDoorSa
import Derived.Shelf.Strconv.AtoiAll
import Derived.Shelf.Strconv.Itoa3
import Derived.Shelf.LaysC
import Derived.Lib.AtoiErrMem
import Derived.KernelRfl
namespace Go.Proofs.YtimdjillcaichaaDoorW.Ex.Gr
open Go Go.Shelf Go.Proofs.YtimdjillcaichaaDoorW.Ex Go.RowKit
set_option linter.all false
set_option maxRecDepth 100000
def atoiRen : Go.Shelf.Ren := ⟨fun | 172 => 109 | 244 => 126 | 245 => 127 | 247 => 135 | 279 => 136 | 280 => 137 | 281 => 138 | 282 => 139 | 287 => 145 | 316 => 146 | 171 => 110 | 205 => 147 | 321 => 152 | 322 => 153 | 243 => 128 | 246 => 140 | 283 => 148 | 284 => 149 | 285 => 150 | 286 => 151 | 129 => 155 | 317 => 154 | 318 => 156 | 319 => 157 | 320 => 158 | 337 => 159 | 338 => 160 | n => n, fun | 9 => 9 | 3 => 3 | 75 => 90 | 76 => 91 | 4 => 4 | 5 => 5 | 167 => 114 | 37 => 86 | 0 => 0 | 85 => 115 | 2 => 2 | 168 => 117 | 53 => 123 | 175 => 124 | 46 => 126 | 210 => 129 | 127 => 107 | 145 => 139 | 143 => 137 | 21 => 21 | 171 => 131 | 173 => 134 | 212 => 141 | 51 => 142 | 20 => 20 | 213 => 143 | 232 => 146 | 233 => 147 | 80 => 93 | n => n, fun | 15 => 2 | 16 => 3 | 17 => 4 | 18 => 5 | 19 => 6 | n => n⟩
theorem laysAtoi : Go.Proofs.LaysC.n172 Tryd.prog atoiRen where
  mixed := by kernel_rfl
  f129 := Tryd.func155.trans (congrArg some (by kernel_rfl))
  f171 := Tryd.func110.trans (congrArg some (by kernel_rfl))
  f172 := Tryd.func109.trans (congrArg some (by kernel_rfl))
  f205 := Tryd.func147.trans (congrArg some (by kernel_rfl))
  f243 := Tryd.func128.trans (congrArg some (by kernel_rfl))
  f244 := Tryd.func126.trans (congrArg some (by kernel_rfl))
  f245 := Tryd.func127.trans (congrArg some (by kernel_rfl))
  f246 := Tryd.func140.trans (congrArg some (by kernel_rfl))
  f247 := Tryd.func135.trans (congrArg some (by kernel_rfl))
  f279 := Tryd.func136.trans (congrArg some (by kernel_rfl))
  f280 := Tryd.func137.trans (congrArg some (by kernel_rfl))
  f281 := Tryd.func138.trans (congrArg some (by kernel_rfl))
  f282 := Tryd.func139.trans (congrArg some (by kernel_rfl))
  f283 := Tryd.func148.trans (congrArg some (by kernel_rfl))
  f284 := Tryd.func149.trans (congrArg some (by kernel_rfl))
  f285 := Tryd.func150.trans (congrArg some (by kernel_rfl))
  f286 := Tryd.func151.trans (congrArg some (by kernel_rfl))
  f287 := Tryd.func145.trans (congrArg some (by kernel_rfl))
  f316 := Tryd.func146.trans (congrArg some (by kernel_rfl))
  f317 := Tryd.func154.trans (congrArg some (by kernel_rfl))
  f318 := Tryd.func156.trans (congrArg some (by kernel_rfl))
  f319 := Tryd.func157.trans (congrArg some (by kernel_rfl))
  f320 := Tryd.func158.trans (congrArg some (by kernel_rfl))
  f321 := Tryd.func152.trans (congrArg some (by kernel_rfl))
  f322 := Tryd.func153.trans (congrArg some (by kernel_rfl))
  f337 := Tryd.func159.trans (congrArg some (by kernel_rfl))
  f338 := Tryd.func160.trans (congrArg some (by kernel_rfl))
  t0 := Tryd.underlying0
  a0 := Tryd.isAgg0
  z0 := Tryd.sizeOf0
  v0 := Tryd.zeroValue0
  t2 := Tryd.underlying2
  a2 := Tryd.isAgg2
  z2 := Tryd.sizeOf2
  v2 := Tryd.zeroValue2
  t3 := Tryd.underlying3
  a3 := Tryd.isAgg3
  z3 := Tryd.sizeOf3
  v3 := Tryd.zeroValue3
  t4 := Tryd.underlying4
  a4 := Tryd.isAgg4
  z4 := Tryd.sizeOf4
  v4 := Tryd.zeroValue4
  t5 := Tryd.underlying5
  a5 := Tryd.isAgg5
  z5 := Tryd.sizeOf5
  v5 := Tryd.zeroValue5
  t9 := Tryd.underlying9
  a9 := Tryd.isAgg9
  z9 := Tryd.sizeOf9
  v9 := Tryd.zeroValue9
  t20 := Tryd.underlying20
  a20 := Tryd.isAgg20
  z20 := Tryd.sizeOf20
  v20 := Tryd.zeroValue20
  t21 := Tryd.underlying21
  a21 := Tryd.isAgg21
  z21 := Tryd.sizeOf21
  v21 := Tryd.zeroValue21
  t37 := Tryd.underlying86
  a37 := Tryd.isAgg86
  z37 := Tryd.sizeOf86
  v37 := Tryd.zeroValue86
  t46 := Tryd.underlying126
  a46 := Tryd.isAgg126
  z46 := Tryd.sizeOf126
  v46 := Tryd.zeroValue126
  t51 := Tryd.underlying142
  a51 := Tryd.isAgg142
  z51 := Tryd.sizeOf142
  v51 := Tryd.zeroValue142
  t53 := Tryd.underlying123
  a53 := Tryd.isAgg123
  z53 := Tryd.sizeOf123
  v53 := Tryd.zeroValue123
  t75 := Tryd.underlying90
  a75 := Tryd.isAgg90
  z75 := Tryd.sizeOf90
  v75 := Tryd.zeroValue90
  t76 := Tryd.underlying91
  a76 := Tryd.isAgg91
  z76 := Tryd.sizeOf91
  v76 := Tryd.zeroValue91
  t85 := Tryd.underlying115
  a85 := Tryd.isAgg115
  z85 := Tryd.sizeOf115
  v85 := Tryd.zeroValue115
  t127 := Tryd.underlying107
  a127 := Tryd.isAgg107
  z127 := Tryd.sizeOf107
  v127 := Tryd.zeroValue107
  t143 := Tryd.underlying137
  a143 := Tryd.isAgg137
  z143 := Tryd.sizeOf137
  v143 := Tryd.zeroValue137
  t145 := Tryd.underlying139
  a145 := Tryd.isAgg139
  z145 := Tryd.sizeOf139
  v145 := Tryd.zeroValue139
  t167 := Tryd.underlying114
  a167 := Tryd.isAgg114
  z167 := Tryd.sizeOf114
  v167 := Tryd.zeroValue114
  t168 := Tryd.underlying117
  a168 := Tryd.isAgg117
  z168 := Tryd.sizeOf117
  v168 := Tryd.zeroValue117
  t171 := Tryd.underlying131
  a171 := Tryd.isAgg131
  z171 := Tryd.sizeOf131
  v171 := Tryd.zeroValue131
  t173 := Tryd.underlying134
  a173 := Tryd.isAgg134
  z173 := Tryd.sizeOf134
  v173 := Tryd.zeroValue134
  t175 := Tryd.underlying124
  a175 := Tryd.isAgg124
  z175 := Tryd.sizeOf124
  v175 := Tryd.zeroValue124
  t210 := Tryd.underlying129
  a210 := Tryd.isAgg129
  z210 := Tryd.sizeOf129
  v210 := Tryd.zeroValue129
  t212 := Tryd.underlying141
  a212 := Tryd.isAgg141
  z212 := Tryd.sizeOf141
  v212 := Tryd.zeroValue141
  t213 := Tryd.underlying143
  a213 := Tryd.isAgg143
  z213 := Tryd.sizeOf143
  t232 := Tryd.underlying146
  a232 := Tryd.isAgg146
  z232 := Tryd.sizeOf146
  v232 := Tryd.zeroValue146
  t233 := Tryd.underlying147
  a233 := Tryd.isAgg147
  z233 := Tryd.sizeOf147
  v233 := Tryd.zeroValue147
  g15 := by kernel_rfl
  g16 := by kernel_rfl
  g17 := by kernel_rfl
  g18 := by kernel_rfl
  g19 := by kernel_rfl
  t80 := Tryd.underlying93
  a80 := Tryd.isAgg93
  z80 := Tryd.sizeOf93
  v80 := Tryd.zeroValue93
  i0 := by kernel_rfl
  i2 := by kernel_rfl
  i3 := by kernel_rfl
  i4 := by kernel_rfl
  i5 := by kernel_rfl
  i9 := by kernel_rfl
  i20 := by kernel_rfl
  i21 := by kernel_rfl
  i37 := by kernel_rfl
  i46 := by kernel_rfl
  i51 := by kernel_rfl
  i53 := by kernel_rfl
  i75 := by kernel_rfl
  i76 := by kernel_rfl
  i80 := by kernel_rfl
  i85 := by kernel_rfl
  i127 := by kernel_rfl
  i143 := by kernel_rfl
  i145 := by kernel_rfl
  i167 := by kernel_rfl
  i168 := by kernel_rfl
  i171 := by kernel_rfl
  i173 := by kernel_rfl
  i175 := by kernel_rfl
  i210 := by kernel_rfl
  i212 := by kernel_rfl
  i232 := by kernel_rfl
  i233 := by kernel_rfl
  m15 := by kernel_rfl
  m16 := by kernel_rfl
  m17 := by kernel_rfl
  m18 := by kernel_rfl
  m19 := by kernel_rfl
  c0 := by kernel_rfl
  c2 := by kernel_rfl
  c3 := by kernel_rfl
  c4 := by kernel_rfl
  c5 := by kernel_rfl
  c9 := by kernel_rfl
  c20 := by kernel_rfl
  c21 := by kernel_rfl
  c37 := by kernel_rfl
  c46 := by kernel_rfl
  c51 := by kernel_rfl
  c53 := by kernel_rfl
  c75 := by kernel_rfl
  c76 := by kernel_rfl
  c80 := by kernel_rfl
  c85 := by kernel_rfl
  c127 := by kernel_rfl
  c143 := by kernel_rfl
  c145 := by kernel_rfl
  c167 := by kernel_rfl
  c168 := by kernel_rfl
  c171 := by kernel_rfl
  c173 := by kernel_rfl
  c175 := by kernel_rfl
  c210 := by kernel_rfl
  c212 := by kernel_rfl
  c213 := by kernel_rfl
  c232 := by kernel_rfl
  c233 := by kernel_rfl
def itoaRen : Go.Shelf.Ren := ⟨fun | 171 => 110 | 243 => 128 | 246 => 140 | 283 => 148 | 284 => 149 | 285 => 150 | 286 => 151 | 129 => 155 | 317 => 154 | 318 => 156 | 319 => 157 | 320 => 158 | 337 => 159 | 338 => 160 | n => n, fun | 3 => 3 | 9 => 9 | 2 => 2 | 4 => 4 | 171 => 131 | 0 => 0 | 53 => 123 | 37 => 86 | 5 => 5 | 173 => 134 | 212 => 141 | 51 => 142 | 20 => 20 | 213 => 143 | 46 => 126 | 232 => 146 | 233 => 147 | n => n, fun | 17 => 4 | 18 => 5 | 19 => 6 | n => n⟩
theorem laysItoa : Go.Proofs.LaysM.n171 Tryd.prog itoaRen where
  mixed := by kernel_rfl
  f129 := Tryd.func155.trans (congrArg some (by kernel_rfl))
  f171 := Tryd.func110.trans (congrArg some (by kernel_rfl))
  f243 := Tryd.func128.trans (congrArg some (by kernel_rfl))
  f246 := Tryd.func140.trans (congrArg some (by kernel_rfl))
  f283 := Tryd.func148.trans (congrArg some (by kernel_rfl))
  f284 := Tryd.func149.trans (congrArg some (by kernel_rfl))
  f285 := Tryd.func150.trans (congrArg some (by kernel_rfl))
  f286 := Tryd.func151.trans (congrArg some (by kernel_rfl))
  f317 := Tryd.func154.trans (congrArg some (by kernel_rfl))
  f318 := Tryd.func156.trans (congrArg some (by kernel_rfl))
  f319 := Tryd.func157.trans (congrArg some (by kernel_rfl))
  f320 := Tryd.func158.trans (congrArg some (by kernel_rfl))
  f337 := Tryd.func159.trans (congrArg some (by kernel_rfl))
  f338 := Tryd.func160.trans (congrArg some (by kernel_rfl))
  t0 := Tryd.underlying0
  a0 := Tryd.isAgg0
  z0 := Tryd.sizeOf0
  v0 := Tryd.zeroValue0
  t2 := Tryd.underlying2
  a2 := Tryd.isAgg2
  z2 := Tryd.sizeOf2
  v2 := Tryd.zeroValue2
  t3 := Tryd.underlying3
  a3 := Tryd.isAgg3
  z3 := Tryd.sizeOf3
  v3 := Tryd.zeroValue3
  t4 := Tryd.underlying4
  a4 := Tryd.isAgg4
  z4 := Tryd.sizeOf4
  v4 := Tryd.zeroValue4
  t5 := Tryd.underlying5
  a5 := Tryd.isAgg5
  z5 := Tryd.sizeOf5
  v5 := Tryd.zeroValue5
  t9 := Tryd.underlying9
  a9 := Tryd.isAgg9
  z9 := Tryd.sizeOf9
  v9 := Tryd.zeroValue9
  t20 := Tryd.underlying20
  a20 := Tryd.isAgg20
  z20 := Tryd.sizeOf20
  v20 := Tryd.zeroValue20
  t37 := Tryd.underlying86
  a37 := Tryd.isAgg86
  z37 := Tryd.sizeOf86
  v37 := Tryd.zeroValue86
  t46 := Tryd.underlying126
  a46 := Tryd.isAgg126
  z46 := Tryd.sizeOf126
  v46 := Tryd.zeroValue126
  t51 := Tryd.underlying142
  a51 := Tryd.isAgg142
  z51 := Tryd.sizeOf142
  v51 := Tryd.zeroValue142
  t53 := Tryd.underlying123
  a53 := Tryd.isAgg123
  z53 := Tryd.sizeOf123
  v53 := Tryd.zeroValue123
  t171 := Tryd.underlying131
  a171 := Tryd.isAgg131
  z171 := Tryd.sizeOf131
  v171 := Tryd.zeroValue131
  t173 := Tryd.underlying134
  a173 := Tryd.isAgg134
  z173 := Tryd.sizeOf134
  v173 := Tryd.zeroValue134
  t212 := Tryd.underlying141
  a212 := Tryd.isAgg141
  z212 := Tryd.sizeOf141
  v212 := Tryd.zeroValue141
  t213 := Tryd.underlying143
  a213 := Tryd.isAgg143
  z213 := Tryd.sizeOf143
  t232 := Tryd.underlying146
  a232 := Tryd.isAgg146
  z232 := Tryd.sizeOf146
  v232 := Tryd.zeroValue146
  t233 := Tryd.underlying147
  a233 := Tryd.isAgg147
  z233 := Tryd.sizeOf147
  v233 := Tryd.zeroValue147
  g17 := by kernel_rfl
  g18 := by kernel_rfl
  g19 := by kernel_rfl
  i0 := by kernel_rfl
  i2 := by kernel_rfl
  i3 := by kernel_rfl
  i4 := by kernel_rfl
  i5 := by kernel_rfl
  i9 := by kernel_rfl
  i20 := by kernel_rfl
  i37 := by kernel_rfl
  i46 := by kernel_rfl
  i51 := by kernel_rfl
  i53 := by kernel_rfl
  i171 := by kernel_rfl
  i173 := by kernel_rfl
  i212 := by kernel_rfl
  i232 := by kernel_rfl
  i233 := by kernel_rfl
  m17 := by kernel_rfl
  m18 := by kernel_rfl
  m19 := by kernel_rfl

/-- The variables of the package's level that are read. -/
def Gt : Nat → List AV := fun g => if g = 2 then [.iface 137 .undef] else if g = 3 then [.iface 137 .undef] else if g = 4 then Lib.pow10Tab.map (fun z => .int .u64 z) else []
theorem glob_cell {w : World} {S : Nat → Prop} {β : Nat → Nat} {n g : Nat} {cs : List AV} (h : GV w S β n g cs) {i : Nat} {x : AV} (hi : cs[i]? = some x) : ∃ v, w.cell? ⟨g, i, none⟩ = some v ∧ RV w S β 0 x v := by
  have hr := h.rv
  cases hr with
  | rptr _ _ _ u hS h1 hc hr =>
    have := hc i x hi
    rw [Nat.zero_add] at this
    exact ⟨_, this, hr i x hi⟩
theorem glob_err {w : World} {S : Nat → Prop} {β : Nat → Nat} {n g t : Nat} (h : GV w S β n g [.iface t .undef]) : ∃ ev, w.cell? ⟨g, 0, none⟩ = some ev ∧ (ev = .nilIface ∨ ∃ te pe, ev = .iface te pe) := by
  obtain ⟨v, hv, hr⟩ := glob_cell h (i := 0) rfl
  cases hr with
  | iface _ _ v _ => exact ⟨_, hv, .inr ⟨_, _, rfl⟩⟩
theorem glob_tab {P : Program} {w : World} {S : Nat → Prop} {β : Nat → Nat} {n g : Nat} {k : IntKind} {zs : List Int} {nm : String} (hg : P.globalNamed nm = some g) (hz : zs ≠ []) (h : GV w S β n g (zs.map fun z => .int k z)) : Lib.TabIs P w nm k zs := by
  obtain ⟨e, he⟩ := h.sh (by cases zs with | nil => exact absurd rfl hz | cons a l => simp)
  unfold Lib.TabIs World.var?
  rw [hg, Option.bind_some]
  unfold World.shape? at he
  cases hb : w.heap[g]? with
  | none => rw [hb] at he; cases he
  | some o =>
    rw [hb] at he
    cases o with
    | cells c t fr =>
      simp only [Option.some.injEq, Prod.mk.injEq] at he
      show some c = some _
      congr 1
      apply Array.ext
      · rw [he.2]; simp
      · intro i h1 h2
        have hi : i < zs.length := by simpa using h2
        obtain ⟨v, hv, hr⟩ := glob_cell h (i := i) (x := .int k zs[i]) (by rw [List.getElem?_map, List.getElem?_eq_getElem hi]; rfl)
        unfold World.cell? at hv
        rw [hb] at hv
        simp only [Option.isSome_none, Bool.false_eq_true, if_false] at hv
        rw [Array.getElem?_eq_getElem h1, Option.some.injEq] at hv
        cases hr
        rw [hv]; simp
    | _ => cases he
/-- Is it an integer of the language, as the program asks? -/
def tokInt (l : List UInt8) : Bool := match Lib.atoiAll l with
  | .ok v => decide (v ≤ 1000000000000) && Lib.itoa v == l
  | _ => false
theorem below_grow (w : World) (k : Nat) (os : Array Go.Obj) : Below w.heap.size w (Sort.grow (w.drewN k) os) := by
  refine ⟨rfl, rfl, rfl, ?_, fun i hi => ?_⟩
  · show w.heap.size ≤ (w.heap ++ os).size
    simp
  · show (w.heap ++ os)[i]? = w.heap[i]?
    rw [Array.getElem?_append_left hi]
theorem atoi_below {w w1 : World} {t5 : TypeId} (hw : w1 = w ∨ ∃ t, w1 = Lib.bytesWorld w t5 t) : Below w.heap.size w w1 := by
  rcases hw with rfl | ⟨t, rfl⟩
  · exact Below.refl _ _
  · exact Lib.bytesWorld_below _ _ _
theorem tab_below {P : Program} {w w' : World} {nm : String} {k : IntKind} {zs : List Int} (h : Below w.heap.size w w') (ht : Lib.TabIs P w nm k zs) : Lib.TabIs P w' nm k zs := by
  unfold Lib.TabIs World.var? at ht ⊢
  cases hg : P.globalNamed nm with
  | none => rw [hg] at ht; cases ht
  | some g =>
    rw [hg, Option.bind_some] at ht
    rw [Option.bind_some]
    have hlt : g < w.heap.size := by
      rcases Nat.lt_or_ge g w.heap.size with h | h
      · exact h
      · rw [Array.getElem?_eq_none h] at ht; cases ht
    rw [h.block g hlt]; exact ht
theorem token_integer (s : ByteArray) (hs : s.size ≤ 281474976710656) : Fn Tryd.prog Gt 92 [.str s] (.bool (tokInt s.data.toList)) := by
  refine Fn_of_belowG (fun vs w => by simp) fun w S β n vs hg hv => ?_
  rw [vs_str hv]
  obtain ⟨e0, c0, d0⟩ := glob_err (t := 137) (hg 2)
  obtain ⟨e1, c1, d1⟩ := glob_err (t := 137) (hg 3)
  have htab : Lib.TabIs Tryd.prog w "internal/strconv.uint64pow10" .u64 Lib.pow10Tab := glob_tab (g := 4) (by kernel_rfl) (by decide) (hg 4)
  cases h : Lib.atoiAll s.data.toList
  rotate_left
  · have hr : tokInt s.data.toList = false := by simp only [tokInt, h]
    rw [hr]
    have A := Any.strconv_Atoi_syntax laysAtoi s hs h e0 w c0 d0
    go_enter Tryd.func92, Tryd.ntmps92
    go_wp2_with (go_at_call 109; refine (Any.strconv_Atoi_syntax laysAtoi s hs h e0 _ c0 d0).mono ?_; rintro e w1 ⟨N, rfl, hN, _, hb⟩)
    go_ret
    exact ⟨⟨_, rfl, fun _ _ _ => .bool _⟩, hb⟩
  · have hr : tokInt s.data.toList = false := by simp only [tokInt, h]
    rw [hr]
    go_enter Tryd.func92, Tryd.ntmps92
    go_wp2_with (go_at_call 109; refine (Any.strconv_Atoi_range laysAtoi s hs h e1 _ c1 d1).mono ?_; rintro e w1 ⟨N, rfl, hN, _, hb⟩)
    go_ret
    exact ⟨⟨_, rfl, fun _ _ _ => .bool _⟩, hb⟩
  · rename_i v
    have hr : tokInt s.data.toList = (decide (v ≤ 1000000000000) && Lib.itoa v == s.toList) := by simp only [tokInt, h, ByteArray.toList_eq]
    rw [hr]
    have hv := Lib.atoiAll_bounds h
    go_enter Tryd.func92, Tryd.ntmps92
    by_cases hb : v ≤ 1000000000000
    · go_wp2_with (first
        | (go_at_call 109; refine (Any.strconv_Atoi_ok laysAtoi s (by omega) v h _).mono ?_; rintro e w1 ⟨rfl, hw⟩; have hb1 := atoi_below hw; clear hw; have ht1 := Lib.hid (tab_below hb1 htab))
        | (go_at_call 110; refine (Any.strconv_Itoa laysItoa v hv.1 hv.2 _ (RowKit.Hid.out (by assumption))).mono ?_; rintro e w2 ⟨rfl, k, os, rfl⟩))
      go_ret
      exact ⟨⟨_, rfl, fun _ _ _ => by rw [decide_eq_true hb, Bool.true_and]; exact .bool _⟩, hb1.trans ((below_grow w1 k os).mono hb1.size)⟩
    · go_wp2_with (go_at_call 109; refine (Any.strconv_Atoi_ok laysAtoi s (by omega) v h _).mono ?_; rintro e w1 ⟨rfl, hw⟩; have hb1 := atoi_below hw; clear hw)
      go_ret
      exact ⟨⟨_, rfl, fun _ _ _ => by rw [decide_eq_false (by omega), Bool.false_and]; exact .bool _⟩, hb1⟩
end Go.Proofs.YtimdjillcaichaaDoorW.Ex.Gr
