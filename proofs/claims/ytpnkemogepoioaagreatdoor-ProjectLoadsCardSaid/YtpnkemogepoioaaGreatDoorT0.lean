/- strconv.Atoi and strconv.Itoa as the token layer uses them: an integer of the language. The library's contracts, laid at this program. Conditions: those in each theorem. -/
import Derived.Test.YtpnkemogepoioaaGreatDoorExP
import Derived.Test.YtpnkemogepoioaaGreatDoorGa
import Derived.Shelf.Strconv.AtoiAll
import Derived.Shelf.Strconv.Itoa3
import Derived.Shelf.LaysC
import Derived.Lib.AtoiErrMem
import Derived.KernelRfl
namespace Go.Proofs.YtpnkemogepoioaaGreatDoorW.Ex.Gr
open Go Go.Shelf Go.Proofs.YtpnkemogepoioaaGreatDoorW.Ex Go.RowKit
set_option linter.all false
set_option maxRecDepth 100000
def q7j:Go.Shelf.Ren:=⟨fun | 172=>176 | 244=>192 | 245=>193 | 247=>202 | 279=>203 | 280=>204 | 281=>205 | 282=>206 | 287=>209 | 316=>210 | 171=>177 | 205=>211 | 321=>216 | 322=>217 | 243=>194 | 246=>207 | 283=>212 | 284=>213 | 285=>214 | 286=>215 | 129=>219 | 317=>218 | 318=>220 | 319=>221 | 320=>222 | 337=>223 | 338=>224 | n=>n,fun | 9=>9 | 3=>3 | 75=>90 | 76=>92 | 4=>4 | 5=>5 | 167=>189 | 37=>84 | 0=>0 | 85=>190 | 2=>2 | 168=>192 | 53=>186 | 175=>197 | 46=>179 | 210=>201 | 127=>126 | 145=>211 | 143=>209 | 21=>21 | 171=>203 | 173=>206 | 212=>213 | 51=>183 | 20=>20 | 213=>214 | 232=>217 | 233=>218 | 80=>99 | n=>n,fun | 15=>2 | 16=>3 | 17=>4 | 18=>5 | 19=>6 | n=>n⟩
theorem qhs:Go.Proofs.LaysC.n172 Tryz.prog q7j where
 mixed:=by kernel_rfl
 f129:=Tryz.func219.trans (congrArg some (by kernel_rfl))
 f171:=Tryz.func177.trans (congrArg some (by kernel_rfl))
 f172:=Tryz.func176.trans (congrArg some (by kernel_rfl))
 f205:=Tryz.func211.trans (congrArg some (by kernel_rfl))
 f243:=Tryz.func194.trans (congrArg some (by kernel_rfl))
 f244:=Tryz.func192.trans (congrArg some (by kernel_rfl))
 f245:=Tryz.func193.trans (congrArg some (by kernel_rfl))
 f246:=Tryz.func207.trans (congrArg some (by kernel_rfl))
 f247:=Tryz.func202.trans (congrArg some (by kernel_rfl))
 f279:=Tryz.func203.trans (congrArg some (by kernel_rfl))
 f280:=Tryz.func204.trans (congrArg some (by kernel_rfl))
 f281:=Tryz.func205.trans (congrArg some (by kernel_rfl))
 f282:=Tryz.func206.trans (congrArg some (by kernel_rfl))
 f283:=Tryz.func212.trans (congrArg some (by kernel_rfl))
 f284:=Tryz.func213.trans (congrArg some (by kernel_rfl))
 f285:=Tryz.func214.trans (congrArg some (by kernel_rfl))
 f286:=Tryz.func215.trans (congrArg some (by kernel_rfl))
 f287:=Tryz.func209.trans (congrArg some (by kernel_rfl))
 f316:=Tryz.func210.trans (congrArg some (by kernel_rfl))
 f317:=Tryz.func218.trans (congrArg some (by kernel_rfl))
 f318:=Tryz.func220.trans (congrArg some (by kernel_rfl))
 f319:=Tryz.func221.trans (congrArg some (by kernel_rfl))
 f320:=Tryz.func222.trans (congrArg some (by kernel_rfl))
 f321:=Tryz.func216.trans (congrArg some (by kernel_rfl))
 f322:=Tryz.func217.trans (congrArg some (by kernel_rfl))
 f337:=Tryz.func223.trans (congrArg some (by kernel_rfl))
 f338:=Tryz.func224.trans (congrArg some (by kernel_rfl))
 t0:=Tryz.underlying0
 a0:=Tryz.isAgg0
 z0:=Tryz.sizeOf0
 v0:=Tryz.zeroValue0
 t2:=Tryz.underlying2
 a2:=Tryz.isAgg2
 z2:=Tryz.sizeOf2
 v2:=Tryz.zeroValue2
 t3:=Tryz.underlying3
 a3:=Tryz.isAgg3
 z3:=Tryz.sizeOf3
 v3:=Tryz.zeroValue3
 t4:=Tryz.underlying4
 a4:=Tryz.isAgg4
 z4:=Tryz.sizeOf4
 v4:=Tryz.zeroValue4
 t5:=Tryz.underlying5
 a5:=Tryz.isAgg5
 z5:=Tryz.sizeOf5
 v5:=Tryz.zeroValue5
 t9:=Tryz.underlying9
 a9:=Tryz.isAgg9
 z9:=Tryz.sizeOf9
 v9:=Tryz.zeroValue9
 t20:=Tryz.underlying20
 a20:=Tryz.isAgg20
 z20:=Tryz.sizeOf20
 v20:=Tryz.zeroValue20
 t21:=Tryz.underlying21
 a21:=Tryz.isAgg21
 z21:=Tryz.sizeOf21
 v21:=Tryz.zeroValue21
 t37:=Tryz.underlying84
 a37:=Tryz.isAgg84
 z37:=Tryz.sizeOf84
 v37:=Tryz.zeroValue84
 t46:=Tryz.underlying179
 a46:=Tryz.isAgg179
 z46:=Tryz.sizeOf179
 v46:=Tryz.zeroValue179
 t51:=Tryz.underlying183
 a51:=Tryz.isAgg183
 z51:=Tryz.sizeOf183
 v51:=Tryz.zeroValue183
 t53:=Tryz.underlying186
 a53:=Tryz.isAgg186
 z53:=Tryz.sizeOf186
 v53:=Tryz.zeroValue186
 t75:=Tryz.underlying90
 a75:=Tryz.isAgg90
 z75:=Tryz.sizeOf90
 v75:=Tryz.zeroValue90
 t76:=Tryz.underlying92
 a76:=Tryz.isAgg92
 z76:=Tryz.sizeOf92
 v76:=Tryz.zeroValue92
 t85:=Tryz.underlying190
 a85:=Tryz.isAgg190
 z85:=Tryz.sizeOf190
 v85:=Tryz.zeroValue190
 t127:=Tryz.underlying126
 a127:=Tryz.isAgg126
 z127:=Tryz.sizeOf126
 v127:=Tryz.zeroValue126
 t143:=Tryz.underlying209
 a143:=Tryz.isAgg209
 z143:=Tryz.sizeOf209
 v143:=Tryz.zeroValue209
 t145:=Tryz.underlying211
 a145:=Tryz.isAgg211
 z145:=Tryz.sizeOf211
 v145:=Tryz.zeroValue211
 t167:=Tryz.underlying189
 a167:=Tryz.isAgg189
 z167:=Tryz.sizeOf189
 v167:=Tryz.zeroValue189
 t168:=Tryz.underlying192
 a168:=Tryz.isAgg192
 z168:=Tryz.sizeOf192
 v168:=Tryz.zeroValue192
 t171:=Tryz.underlying203
 a171:=Tryz.isAgg203
 z171:=Tryz.sizeOf203
 v171:=Tryz.zeroValue203
 t173:=Tryz.underlying206
 a173:=Tryz.isAgg206
 z173:=Tryz.sizeOf206
 v173:=Tryz.zeroValue206
 t175:=Tryz.underlying197
 a175:=Tryz.isAgg197
 z175:=Tryz.sizeOf197
 v175:=Tryz.zeroValue197
 t210:=Tryz.underlying201
 a210:=Tryz.isAgg201
 z210:=Tryz.sizeOf201
 v210:=Tryz.zeroValue201
 t212:=Tryz.underlying213
 a212:=Tryz.isAgg213
 z212:=Tryz.sizeOf213
 v212:=Tryz.zeroValue213
 t213:=Tryz.underlying214
 a213:=Tryz.isAgg214
 z213:=Tryz.sizeOf214
 t232:=Tryz.underlying217
 a232:=Tryz.isAgg217
 z232:=Tryz.sizeOf217
 v232:=Tryz.zeroValue217
 t233:=Tryz.underlying218
 a233:=Tryz.isAgg218
 z233:=Tryz.sizeOf218
 v233:=Tryz.zeroValue218
 g15:=by kernel_rfl
 g16:=by kernel_rfl
 g17:=by kernel_rfl
 g18:=by kernel_rfl
 g19:=by kernel_rfl
 t80:=Tryz.underlying99
 a80:=Tryz.isAgg99
 z80:=Tryz.sizeOf99
 v80:=Tryz.zeroValue99
 i0:=by kernel_rfl
 i2:=by kernel_rfl
 i3:=by kernel_rfl
 i4:=by kernel_rfl
 i5:=by kernel_rfl
 i9:=by kernel_rfl
 i20:=by kernel_rfl
 i21:=by kernel_rfl
 i37:=by kernel_rfl
 i46:=by kernel_rfl
 i51:=by kernel_rfl
 i53:=by kernel_rfl
 i75:=by kernel_rfl
 i76:=by kernel_rfl
 i80:=by kernel_rfl
 i85:=by kernel_rfl
 i127:=by kernel_rfl
 i143:=by kernel_rfl
 i145:=by kernel_rfl
 i167:=by kernel_rfl
 i168:=by kernel_rfl
 i171:=by kernel_rfl
 i173:=by kernel_rfl
 i175:=by kernel_rfl
 i210:=by kernel_rfl
 i212:=by kernel_rfl
 i232:=by kernel_rfl
 i233:=by kernel_rfl
 m15:=by kernel_rfl
 m16:=by kernel_rfl
 m17:=by kernel_rfl
 m18:=by kernel_rfl
 m19:=by kernel_rfl
 c0:=by kernel_rfl
 c2:=by kernel_rfl
 c3:=by kernel_rfl
 c4:=by kernel_rfl
 c5:=by kernel_rfl
 c9:=by kernel_rfl
 c20:=by kernel_rfl
 c21:=by kernel_rfl
 c37:=by kernel_rfl
 c46:=by kernel_rfl
 c51:=by kernel_rfl
 c53:=by kernel_rfl
 c75:=by kernel_rfl
 c76:=by kernel_rfl
 c80:=by kernel_rfl
 c85:=by kernel_rfl
 c127:=by kernel_rfl
 c143:=by kernel_rfl
 c145:=by kernel_rfl
 c167:=by kernel_rfl
 c168:=by kernel_rfl
 c171:=by kernel_rfl
 c173:=by kernel_rfl
 c175:=by kernel_rfl
 c210:=by kernel_rfl
 c212:=by kernel_rfl
 c213:=by kernel_rfl
 c232:=by kernel_rfl
 c233:=by kernel_rfl
def q64:Go.Shelf.Ren:=⟨fun | 171=>177 | 243=>194 | 246=>207 | 283=>212 | 284=>213 | 285=>214 | 286=>215 | 129=>219 | 317=>218 | 318=>220 | 319=>221 | 320=>222 | 337=>223 | 338=>224 | n=>n,fun | 3=>3 | 9=>9 | 2=>2 | 4=>4 | 171=>203 | 0=>0 | 53=>186 | 37=>84 | 5=>5 | 173=>206 | 212=>213 | 51=>183 | 20=>20 | 213=>214 | 46=>179 | 232=>217 | 233=>218 | n=>n,fun | 17=>4 | 18=>5 | 19=>6 | n=>n⟩
theorem q4m:Go.Proofs.LaysM.n171 Tryz.prog q64 where
 mixed:=by kernel_rfl
 f129:=Tryz.func219.trans (congrArg some (by kernel_rfl))
 f171:=Tryz.func177.trans (congrArg some (by kernel_rfl))
 f243:=Tryz.func194.trans (congrArg some (by kernel_rfl))
 f246:=Tryz.func207.trans (congrArg some (by kernel_rfl))
 f283:=Tryz.func212.trans (congrArg some (by kernel_rfl))
 f284:=Tryz.func213.trans (congrArg some (by kernel_rfl))
 f285:=Tryz.func214.trans (congrArg some (by kernel_rfl))
 f286:=Tryz.func215.trans (congrArg some (by kernel_rfl))
 f317:=Tryz.func218.trans (congrArg some (by kernel_rfl))
 f318:=Tryz.func220.trans (congrArg some (by kernel_rfl))
 f319:=Tryz.func221.trans (congrArg some (by kernel_rfl))
 f320:=Tryz.func222.trans (congrArg some (by kernel_rfl))
 f337:=Tryz.func223.trans (congrArg some (by kernel_rfl))
 f338:=Tryz.func224.trans (congrArg some (by kernel_rfl))
 t0:=Tryz.underlying0
 a0:=Tryz.isAgg0
 z0:=Tryz.sizeOf0
 v0:=Tryz.zeroValue0
 t2:=Tryz.underlying2
 a2:=Tryz.isAgg2
 z2:=Tryz.sizeOf2
 v2:=Tryz.zeroValue2
 t3:=Tryz.underlying3
 a3:=Tryz.isAgg3
 z3:=Tryz.sizeOf3
 v3:=Tryz.zeroValue3
 t4:=Tryz.underlying4
 a4:=Tryz.isAgg4
 z4:=Tryz.sizeOf4
 v4:=Tryz.zeroValue4
 t5:=Tryz.underlying5
 a5:=Tryz.isAgg5
 z5:=Tryz.sizeOf5
 v5:=Tryz.zeroValue5
 t9:=Tryz.underlying9
 a9:=Tryz.isAgg9
 z9:=Tryz.sizeOf9
 v9:=Tryz.zeroValue9
 t20:=Tryz.underlying20
 a20:=Tryz.isAgg20
 z20:=Tryz.sizeOf20
 v20:=Tryz.zeroValue20
 t37:=Tryz.underlying84
 a37:=Tryz.isAgg84
 z37:=Tryz.sizeOf84
 v37:=Tryz.zeroValue84
 t46:=Tryz.underlying179
 a46:=Tryz.isAgg179
 z46:=Tryz.sizeOf179
 v46:=Tryz.zeroValue179
 t51:=Tryz.underlying183
 a51:=Tryz.isAgg183
 z51:=Tryz.sizeOf183
 v51:=Tryz.zeroValue183
 t53:=Tryz.underlying186
 a53:=Tryz.isAgg186
 z53:=Tryz.sizeOf186
 v53:=Tryz.zeroValue186
 t171:=Tryz.underlying203
 a171:=Tryz.isAgg203
 z171:=Tryz.sizeOf203
 v171:=Tryz.zeroValue203
 t173:=Tryz.underlying206
 a173:=Tryz.isAgg206
 z173:=Tryz.sizeOf206
 v173:=Tryz.zeroValue206
 t212:=Tryz.underlying213
 a212:=Tryz.isAgg213
 z212:=Tryz.sizeOf213
 v212:=Tryz.zeroValue213
 t213:=Tryz.underlying214
 a213:=Tryz.isAgg214
 z213:=Tryz.sizeOf214
 t232:=Tryz.underlying217
 a232:=Tryz.isAgg217
 z232:=Tryz.sizeOf217
 v232:=Tryz.zeroValue217
 t233:=Tryz.underlying218
 a233:=Tryz.isAgg218
 z233:=Tryz.sizeOf218
 v233:=Tryz.zeroValue218
 g17:=by kernel_rfl
 g18:=by kernel_rfl
 g19:=by kernel_rfl
 i0:=by kernel_rfl
 i2:=by kernel_rfl
 i3:=by kernel_rfl
 i4:=by kernel_rfl
 i5:=by kernel_rfl
 i9:=by kernel_rfl
 i20:=by kernel_rfl
 i37:=by kernel_rfl
 i46:=by kernel_rfl
 i51:=by kernel_rfl
 i53:=by kernel_rfl
 i171:=by kernel_rfl
 i173:=by kernel_rfl
 i212:=by kernel_rfl
 i232:=by kernel_rfl
 i233:=by kernel_rfl
 m17:=by kernel_rfl
 m18:=by kernel_rfl
 m19:=by kernel_rfl
theorem qso {w:World} {S:Nat→Prop} {β:Nat→Nat} {n g:Nat} {cs:List AV} (h:GV w S β n g cs) {i:Nat} {x:AV} (hi:cs[i]? =some x):∃v,w.cell? ⟨g,i,none⟩=some v∧RV w S β 0 x v:=by
 have hr:=h.rv
 cases hr with
 | rptr _ _ _ u hS h1 hc hr=>
   have:=hc i x hi
   rw [AN] at this
   exact ⟨_,this,hr i x hi⟩
theorem qws {w:World} {S:Nat→Prop} {β:Nat→Nat} {n g t:Nat} (h:GV w S β n g [.iface t .undef]):∃ev,w.cell? ⟨g,0,none⟩=some ev∧(ev= .nilIface∨∃te pe,ev= .iface te pe):=by
 obtain ⟨v,hv,hr⟩:=qso h (i:=0) rfl
 cases hr with
 | iface _ _ v _=>exact ⟨_,hv, .inr ⟨_,_,rfl⟩⟩
theorem q4z {P:Program} {w:World} {S:Nat→Prop} {β:Nat→Nat} {n g:Nat} {k:IntKind} {zs:List Int} {nm:String} (hg:P.globalNamed nm=some g) (hz:zs≠ []) (h:GV w S β n g (zs.map fun z=> .int k z)):Lib.TabIs P w nm k zs:=by
 obtain ⟨e,he⟩:=h.sh (by cases zs with | nil=>exact absurd rfl hz | cons a l=>simp)
 unfold Lib.TabIs World.var?
 rw [hg,Bt]
 unfold World.shape? at he
 cases hb:w.heap[g]? with
 | none=>rw [hb] at he;cases he
 | some o=>
   rw [hb] at he
   cases o with
   | cells c t fr=>
     simp only [Ab,Al] at he
     show some c=some _
     congr 1
     apply Array.ext
     ·rw [he.2];simp
     intro i h1 h2
     have hi:i < zs.length:=by simpa using h2
     obtain ⟨v,hv,hr⟩:=qso h (i:=i) (x:= .int k zs[i]) (by rw [Av,Ak hi];rfl)
     unfold World.cell? at hv
     rw [hb] at hv
     simp only [Option.isSome_none,AA,if_false] at hv
     rw [AP h1,Ab] at hv
     cases hr
     rw [hv];simp
   | _=>cases he
def qae (l:List UInt8):Bool:=match Lib.atoiAll l with
 | .ok v=>decide (v≤1000000000000) && Lib.itoa v==l
 | _=>false
theorem qyy (w:World) (k:Nat) (os:Array Go.Obj):Below w.heap.size w (Sort.grow (w.drewN k) os):=by
 refine ⟨rfl,rfl,rfl,?_,fun i hi=> ?_⟩
 ·show w.heap.size≤(w.heap++os).size
  simp
 show (w.heap++os)[i]? =w.heap[i]?
 rw [Array.getElem?_append_left hi]
theorem qqh {w w1:World} {t5:TypeId} (hw:w1=w∨∃t,w1=Lib.bytesWorld w t5 t):Below w.heap.size w w1:=by
 rcases hw with rfl | ⟨t,rfl⟩
 ·exact Below.refl _ _
 exact Lib.bytesWorld_below _ _ _
theorem q1r {P:Program} {w w':World} {nm:String} {k:IntKind} {zs:List Int} (h:Below w.heap.size w w') (ht:Lib.TabIs P w nm k zs):Lib.TabIs P w' nm k zs:=by
 unfold Lib.TabIs World.var? at ht ⊢
 cases hg:P.globalNamed nm with
 | none=>rw [hg] at ht;cases ht
 | some g=>
   rw [hg,Bt] at ht
   rw [Bt]
   have hlt:g < w.heap.size:=by
    rcases Br g w.heap.size with h | h
    ·exact h
    rw [BN h] at ht;cases ht
   rw [h.block g hlt];exact ht
theorem qq9 (s:ByteArray) (hs:s.size≤281474976710656):Fn Tryz.prog G 152 [.str s] (.bool (qae s.data.toList)):=by
 refine qlv (fun vs w=>by simp) fun w S β n vs hg hv=> ?_
 rw [qtd hv]
 obtain ⟨e0,c0,d0⟩:=qws (t:=209) (hg 2)
 obtain ⟨e1,c1,d1⟩:=qws (t:=209) (hg 3)
 have htab:Lib.TabIs Tryz.prog w "internal/strconv.uint64pow10" .u64 Lib.pow10Tab:=q4z (g:=4) (by kernel_rfl) (by decide) (hg 4)
 cases h:Lib.atoiAll s.data.toList
 rotate_left
 ·have hr:qae s.data.toList=false:=by simp only [qae,h]
  rw [hr]
  have A:=Any.strconv_Atoi_syntax qhs s hs h e0 w c0 d0
  go_enter Tryz.func152,Tryz.ntmps152
  go_wp2_with (go_at_call 176;refine (Any.strconv_Atoi_syntax qhs s hs h e0 _ c0 d0).mono ?_;rintro e w1 ⟨N,rfl,hN,_,hb⟩)
  go_ret
  exact ⟨⟨_,rfl,fun _ _ _=> .bool _⟩,hb⟩
 ·have hr:qae s.data.toList=false:=by simp only [qae,h]
  rw [hr]
  go_enter Tryz.func152,Tryz.ntmps152
  go_wp2_with (go_at_call 176;refine (Any.strconv_Atoi_range qhs s hs h e1 _ c1 d1).mono ?_;rintro e w1 ⟨N,rfl,hN,_,hb⟩)
  go_ret
  exact ⟨⟨_,rfl,fun _ _ _=> .bool _⟩,hb⟩
 rename_i v
 have hr:qae s.data.toList=(decide (v≤1000000000000) && Lib.itoa v==s.toList):=by simp only [qae,h,ByteArray.toList_eq]
 rw [hr]
 have hv:=Lib.atoiAll_bounds h
 go_enter Tryz.func152,Tryz.ntmps152
 by_cases hb:v≤1000000000000
 ·go_wp2_with (first
   | (go_at_call 176;refine (Any.strconv_Atoi_ok qhs s (by omega) v h _).mono ?_;rintro e w1 ⟨rfl,hw⟩;have hb1:=qqh hw;clear hw;have ht1:=Lib.hid (q1r hb1 htab))
   | (go_at_call 177;refine (Any.strconv_Itoa q4m v hv.1 hv.2 _ (RowKit.Hid.out (by assumption))).mono ?_;rintro e w2 ⟨rfl,k,os,rfl⟩))
  go_ret
  exact ⟨⟨_,rfl,fun _ _ _=>by rw [decide_eq_true hb,Bv];exact .bool _⟩,hb1.trans ((qyy w1 k os).mono hb1.size)⟩
 go_wp2_with (go_at_call 176;refine (Any.strconv_Atoi_ok qhs s (by omega) v h _).mono ?_;rintro e w1 ⟨rfl,hw⟩;have hb1:=qqh hw;clear hw)
 go_ret
 exact ⟨⟨_,rfl,fun _ _ _=>by rw [decide_eq_false (by omega),Cf];exact .bool _⟩,hb1⟩
end Go.Proofs.YtpnkemogepoioaaGreatDoorW.Ex.Gr
