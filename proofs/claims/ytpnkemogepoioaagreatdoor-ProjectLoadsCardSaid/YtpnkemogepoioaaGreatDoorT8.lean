/- strings.Builder's methods as contracts on the objects that they are handed (the builder, its row of bytes); strings.Repeat. The library's contracts, laid at this program. Conditions: those in each theorem. -/
import Derived.Test.YtpnkemogepoioaaGreatDoorExR
import Derived.Test.YtpnkemogepoioaaGreatDoorExF
import Derived.Test.YtpnkemogepoioaaGreatDoorSa
import Derived.Shelf.Strings.Repeat
import Derived.WalkKit
import Derived.BigCall
import Derived.KernelRfl
namespace Go.Proofs.YtpnkemogepoioaaGreatDoorW.Ex.Gr
open Go Go.Shelf Go.Proofs.YtpnkemogepoioaaGreatDoorW.Ex Go.RowKit
set_option linter.all false
set_option maxRecDepth 100000
def q7y:Go.Shelf.Ren:=⟨fun | 166=>49 | 240=>73 | 276=>113 | n=>n,fun | 70=>83 | 9=>9 | 3=>3 | 75=>90 | 0=>0 | 72=>86 | 37=>84 | 4=>4 | 164=>146 | 80=>99 | 5=>5 | n=>n,fun | n=>n⟩
theorem qyi:Go.Proofs.Lays.n166 Tryz.prog q7y where
 mixed:=by kernel_rfl
 f166:=Tryz.func49.trans (congrArg some (by kernel_rfl))
 f240:=Tryz.func73.trans (congrArg some (by kernel_rfl))
 f276:=Tryz.func113.trans (congrArg some (by kernel_rfl))
 t0:=Tryz.underlying0
 a0:=Tryz.isAgg0
 z0:=Tryz.sizeOf0
 v0:=Tryz.zeroValue0
 t3:=Tryz.underlying3
 a3:=Tryz.isAgg3
 z3:=Tryz.sizeOf3
 v3:=Tryz.zeroValue3
 t4:=Tryz.underlying4
 a4:=Tryz.isAgg4
 z4:=Tryz.sizeOf4
 v4:=Tryz.zeroValue4
 t9:=Tryz.underlying9
 a9:=Tryz.isAgg9
 z9:=Tryz.sizeOf9
 v9:=Tryz.zeroValue9
 t20:=Tryz.underlying20
 a20:=Tryz.isAgg20
 z20:=Tryz.sizeOf20
 v20:=Tryz.zeroValue20
 t37:=Tryz.underlying84
 a37:=Tryz.isAgg84
 z37:=Tryz.sizeOf84
 v37:=Tryz.zeroValue84
 t70:=Tryz.underlying83
 a70:=Tryz.isAgg83
 z70:=Tryz.sizeOf83
 v70:=Tryz.zeroValue83
 t72:=Tryz.underlying86
 a72:=Tryz.isAgg86
 z72:=Tryz.sizeOf86
 v72:=Tryz.zeroValue86
 t75:=Tryz.underlying90
 a75:=Tryz.isAgg90
 z75:=Tryz.sizeOf90
 v75:=Tryz.zeroValue90
 t164:=Tryz.underlying146
 a164:=Tryz.isAgg146
 z164:=Tryz.sizeOf146
 v164:=Tryz.zeroValue146
def q3s:Go.Shelf.Ren:=⟨fun | 105=>175 | 212=>190 | 99=>47 | 165=>191 | 166=>49 | 170=>51 | 169=>52 | 263=>199 | 264=>200 | 206=>72 | 240=>73 | 241=>201 | 276=>113 | 277=>208 | n=>n,fun | 9=>9 | 3=>3 | 4=>4 | 20=>20 | 0=>0 | 46=>179 | 109=>180 | 5=>5 | 72=>86 | 76=>92 | 51=>183 | 146=>184 | 53=>186 | 148=>187 | 70=>83 | 37=>84 | 75=>90 | 127=>126 | 164=>146 | 80=>99 | n=>n,fun | n=>n⟩
theorem q60:Go.Proofs.Lays.n105 Tryz.prog q3s where
 mixed:=by kernel_rfl
 f99:=Tryz.func47.trans (congrArg some (by kernel_rfl))
 f105:=Tryz.func175.trans (congrArg some (by kernel_rfl))
 f165:=Tryz.func191.trans (congrArg some (by kernel_rfl))
 f166:=Tryz.func49.trans (congrArg some (by kernel_rfl))
 f169:=Tryz.func52.trans (congrArg some (by kernel_rfl))
 f170:=Tryz.func51.trans (congrArg some (by kernel_rfl))
 f206:=Tryz.func72.trans (congrArg some (by kernel_rfl))
 f212:=Tryz.func190.trans (congrArg some (by kernel_rfl))
 f240:=Tryz.func73.trans (congrArg some (by kernel_rfl))
 f241:=Tryz.func201.trans (congrArg some (by kernel_rfl))
 f263:=Tryz.func199.trans (congrArg some (by kernel_rfl))
 f264:=Tryz.func200.trans (congrArg some (by kernel_rfl))
 f276:=Tryz.func113.trans (congrArg some (by kernel_rfl))
 f277:=Tryz.func208.trans (congrArg some (by kernel_rfl))
 t0:=Tryz.underlying0
 a0:=Tryz.isAgg0
 z0:=Tryz.sizeOf0
 v0:=Tryz.zeroValue0
 t3:=Tryz.underlying3
 a3:=Tryz.isAgg3
 z3:=Tryz.sizeOf3
 v3:=Tryz.zeroValue3
 t4:=Tryz.underlying4
 a4:=Tryz.isAgg4
 z4:=Tryz.sizeOf4
 v4:=Tryz.zeroValue4
 t5:=Tryz.underlying5
 a5:=Tryz.isAgg5
 z5:=Tryz.sizeOf5
 v5:=Tryz.zeroValue5
 t9:=Tryz.underlying9
 a9:=Tryz.isAgg9
 z9:=Tryz.sizeOf9
 v9:=Tryz.zeroValue9
 t20:=Tryz.underlying20
 a20:=Tryz.isAgg20
 z20:=Tryz.sizeOf20
 v20:=Tryz.zeroValue20
 t37:=Tryz.underlying84
 a37:=Tryz.isAgg84
 z37:=Tryz.sizeOf84
 v37:=Tryz.zeroValue84
 t46:=Tryz.underlying179
 a46:=Tryz.isAgg179
 z46:=Tryz.sizeOf179
 v46:=Tryz.zeroValue179
 t51:=Tryz.underlying183
 a51:=Tryz.isAgg183
 z51:=Tryz.sizeOf183
 v51:=Tryz.zeroValue183
 t53:=Tryz.underlying186
 a53:=Tryz.isAgg186
 z53:=Tryz.sizeOf186
 v53:=Tryz.zeroValue186
 t70:=Tryz.underlying83
 a70:=Tryz.isAgg83
 z70:=Tryz.sizeOf83
 v70:=Tryz.zeroValue83
 t72:=Tryz.underlying86
 a72:=Tryz.isAgg86
 z72:=Tryz.sizeOf86
 v72:=Tryz.zeroValue86
 t75:=Tryz.underlying90
 a75:=Tryz.isAgg90
 z75:=Tryz.sizeOf90
 v75:=Tryz.zeroValue90
 t76:=Tryz.underlying92
 a76:=Tryz.isAgg92
 z76:=Tryz.sizeOf92
 v76:=Tryz.zeroValue92
 t109:=Tryz.underlying180
 a109:=Tryz.isAgg180
 z109:=Tryz.sizeOf180
 v109:=Tryz.zeroValue180
 t127:=Tryz.underlying126
 a127:=Tryz.isAgg126
 z127:=Tryz.sizeOf126
 v127:=Tryz.zeroValue126
 t146:=Tryz.underlying184
 a146:=Tryz.isAgg184
 z146:=Tryz.sizeOf184
 v146:=Tryz.zeroValue184
 t148:=Tryz.underlying187
 a148:=Tryz.isAgg187
 z148:=Tryz.sizeOf187
 v148:=Tryz.zeroValue187
 t164:=Tryz.underlying146
 a164:=Tryz.isAgg146
 z164:=Tryz.sizeOf146
 v164:=Tryz.zeroValue146
theorem qug:Builder.Extra Tryz.prog q7y where
 sizeBuilder:=by kernel_rfl
 liesBuilder:=by kernel_rfl
 t5:=Tryz.underlying5
 a5:=Tryz.isAgg5
 z5:=Tryz.sizeOf5
 v5:=Tryz.zeroValue5
 infoByte:=by kernel_rfl
 cellsByte:=by kernel_rfl
 sizeByte:=by kernel_rfl
 neB5:=by decide
theorem q48:Builder.Extra Tryz.prog q3s where
 sizeBuilder:=by kernel_rfl
 liesBuilder:=by kernel_rfl
 t5:=Tryz.underlying5
 a5:=Tryz.isAgg5
 z5:=Tryz.sizeOf5
 v5:=Tryz.zeroValue5
 infoByte:=by kernel_rfl
 cellsByte:=by kernel_rfl
 sizeByte:=by kernel_rfl
 neB5:=by decide
theorem strings_Repeat {G:Nat→List AV} (s:ByteArray) (i:Int) (h0:0≤i) (h1:i≤9223372036854775807) (h2:s.size*i.toNat≤140737488355328):Fn Tryz.prog G 175 [.str s, .int .i64 i] (.str ⟨(Lib.repeatL s.data.toList i.toNat).toArray⟩):=
 qcd (fun vs w=>by simp) fun w S β n vs hv=>by
  rw [qoj hv]
  have e:i=(i.toNat:Int):=(Int.toNat_of_nonneg h0).symm
  rw [show Value.int .i64 i= .int .i64 (i.toNat:Int) by rw [←e]]
  refine (Any.strings_Repeat q60 q48 s i.toNat w (by omega) h2).mono ?_
  rintro e w' ⟨rfl,hb⟩
  exact ⟨⟨_,rfl,fun _ _ _=> .str _⟩,hb⟩
def c8 (x:UInt8):List AV:= [.int .u8 x.toNat]
theorem zr:CellsOk c8 1:=⟨fun _=>rfl,by decide,fun a z hz=>by
 simp only [c8,AE,Bw,or_false] at hz
 subst hz
 exact ⟨rfl,rfl⟩⟩
variable {G:Nat→List AV}
theorem q3a {w:World} {S:Nat→Prop} {β:Nat→Nat} {n id s o:Nat} {vs:Array Value} (h:RVs w S β n [.ptr id s o] vs):vs= #[.pointer (some ⟨β s,o,none⟩)]:=by
 obtain ⟨h1,h2⟩:=h
 have a:=h2 0 _ rfl
 have e:vs= #[vs.getD 0 Go.undef]:=by
  apply Array.ext
  ·simpa using h1
  intro i h3 h4
  obtain rfl:i=0:=by simp at h4;omega
  simp [Ag,h3]
 generalize vs.getD 0 Go.undef=v at a e
 cases a
 exact e
theorem qp9 (len:Nat) (cs:List AV):ACalls Tryz.prog G 73 [.ptr 0 0 0] ⟨2, [(0, .var 86 [.optr 0 0 0, .bs 1 1 1 0 len]),(1, .row 5 cs)]⟩ (.tup []) ⟨2, [(0, .var 86 [.optr 0 0 0, .bs 1 1 1 0 len]),(1, .row 5 cs)]⟩:=by
 intro w S F β vs hH hv
 rw [q3a hv]
 obtain ⟨c,h1,h2,h3,h4,h5⟩:=hH.obj 0 0 _ rfl
 have c0:w.cell? ⟨β 0,0,none⟩=some (c.getD 0 Go.undef):=by
  rw [Lib.cell_of_heap h1,AP (by rw [h2];exact Nat.zero_lt_succ _)]
  simp [Array.getD,h2]
 have hsh:w.shape? (β 0)=some (86,2):=by simp [World.shape?,h1,h2]
 rw [show (callFunc 73 #[.pointer (some ⟨β 0,0,none⟩)]).run Tryz.prog w= .ok (.enter 73 #[.pointer (some ⟨β 0,0,none⟩)]) w by simp]
 show Calls Tryz.prog 73 _ w _
 have hv0:=(h5 0 _ rfl).2
 generalize hg:c.getD 0 Go.undef=v0 at c0 hv0
 cases hv0 with
 | optr _ _ _ _ hs hv0=>
   rcases hv0 with rfl | rfl
   ·refine (Any.Builder_copyCheck_fresh (P:=Tryz.prog) {qyi with} qug.toX72 (β 0) w c0 hsh (Lib.frozen_of_heap h1 0)).mono ?_
    rintro e w' ⟨rfl,rfl⟩
    have hheap:(w.setCell ⟨β 0,0,none⟩ (.pointer (some ⟨β 0,0,none⟩))).heap[β 0]? =some (.cells (c.setIfInBounds 0 (.pointer (some ⟨β 0,0,none⟩))) 86 (0,0)):=by
     simp [World.setCell,Ce,h1]
    obtain ⟨hx,hH2⟩:=hH.turn (id:=0) (s:=0) (o:= .var 86 [.optr 0 0 0, .bs 1 1 1 0 len]) (o':= .var 86 [.optr 0 0 0, .bs 1 1 1 0 len]) rfl rfl (w':=w.setCell ⟨β 0,0,none⟩ (.pointer (some ⟨β 0,0,none⟩))) rfl rfl rfl (by simp [World.setCell])
     (fun k hk=>by simp [World.setCell,Ce,Ne.symm hk]) (fun x hx=>by
       rw [hsh] at hx
       rw [←hx]
       simp [World.shape?,hheap,h2]) (fun up=>⟨_,hheap,by simp [h2],h3,h4,fun i x hi=>by
       match i,hi with
       | 0,hi=>
         simp only [Aq,Ab] at hi
         subst hi
         refine ⟨rfl,?_⟩
         simp only [Ag,Array.getElem?_setIfInBounds]
         rw [if_pos trivial,if_pos (by rw [h2];exact Nat.zero_lt_succ _)]
         exact .optr _ _ _ _ hs (.inr rfl)
       | 1,hi=>
         have h51:=h5 1 x hi
         refine ⟨h51.1,?_⟩
         have e1:(c.setIfInBounds 0 (.pointer (some ⟨β 0,0,none⟩))).getD 1 Go.undef=c.getD 1 Go.undef:=by
          simp only [Ag,Array.getElem?_setIfInBounds]
          rw [if_neg (by decide)]
         rw [e1]
         exact up _ _ h51.2
       | i+2,hi=>simp at hi⟩)
    exact ⟨_,rfl,S,β,hx,hH2, .tup [] #[] rfl (by simp)⟩
   refine (Any.Builder_copyCheck_used (P:=Tryz.prog) {qyi with} qug.toX72 (β 0) w c0).mono ?_
   rintro e w' ⟨rfl,rfl⟩
   exact ⟨_,rfl,S,β, .refl ..,hH, .tup [] #[] rfl (by simp)⟩
theorem qud (w:World) (a:Addr) (n k:Nat) (h:k≠a.block):(w.freeze a n).heap[k]? =w.heap[k]? :=by
 unfold World.freeze
 split
 ·rfl
 simp [Ce,Ne.symm h]
theorem quc (w:World) (a:Addr) (n k:Nat) (x:TypeId × Nat) (h:w.shape? k=some x):(w.freeze a n).shape? k=some x:=by
 unfold World.freeze
 split
 ·exact h
 unfold World.shape? at*
 simp only [Ce]
 by_cases e:a.block=k
 ·subst e
  rw [if_pos rfl]
  cases hh:w.heap[a.block]? with
  | none=>rw [hh] at h;cases h
  | some o=>
    rw [hh] at h
    cases o with
    | cells c e f=>exact h
    | _=>cases h
 rw [if_neg e];exact h
theorem qwu (w:World) (a:Addr) (n:Nat):(w.freeze a n).heap.size=w.heap.size:=by
 unfold World.freeze
 split
 ·rfl
 simp
theorem q4u {G:Nat→List AV} {w w':World} {S F:Nat→Prop} {β:Nat→Nat} {H:Hp} (hH:HR G w S F β H) (hn:H.n=2) (hx:Ext w S F β 2 w' S β 2):HR G w' S F β ⟨2, [(0, .dead),(1, .dead)]⟩:=by
 refine ⟨fun k hk=>AU (hH.lts k hk) hx.size,fun k hk=>AU (hH.ltf k hk) hx.size,fun g=>by
  have:=(hH.glob g)
  rw [hn] at this
  exact this.ext hx,fun i s o hi=> ?_,fun i j si sj oi oj hi hj hne l1 l2=> ?_,fun i s o hi=> ?_⟩
 ·match i,hi with
  | 0,hi=>simp at hi;rw [←hi.1];show 0 < 2;omega
  | 1,hi=>simp at hi;rw [←hi.1];show 1 < 2;omega
  | i+2,hi=>simp at hi
 ·match i,hi with
  | 0,hi=>simp at hi;rw [←hi.2] at l1;cases l1
  | 1,hi=>simp at hi;rw [←hi.2] at l1;cases l1
  | i+2,hi=>simp at hi
 match i,hi with
 | 0,hi=>simp at hi;rw [←hi.2];trivial
 | 1,hi=>simp at hi;rw [←hi.2];trivial
 | i+2,hi=>simp at hi
theorem q9m (l:List UInt8) (j:Nat) (x:UInt8) (h:l[j]? =some x):(l.map c8).flatten[j]? =some (.int .u8 x.toNat):=by
 have:(l.map c8).flatten=l.map fun x=>AV.int .u8 x.toNat:=by
  clear h
  induction l with
  | nil=>rfl
  | cons a l ih=>rw [AX,Bf,ih];rfl
 rw [this,Av,h];rfl
set_option maxHeartbeats 4000000 in
theorem qh2 {w w2 w3:World} {b n cap:Nat} {A p:Option Addr} {s:ByteArray} (c1:w.drew.cell? ⟨b,1,none⟩=some (.slice A n cap)) (c2:w2.cell? ⟨b,1,none⟩=some (.slice A n cap))
 (hSD:(Builtin.unsafeSliceData_ #[84] 126 #[.slice A n cap]).run Tryz.prog w.drew= .ok (.pointer p) w2) (hUS:(Builtin.unsafeString_ #[126,3] 9 #[.pointer p, .int .i64 n]).run Tryz.prog w2= .ok (.string s) w3):
 Calls Tryz.prog 52 #[.pointer (some ⟨b,0,none⟩)] w fun e w'=>e= .returned (.string s)∧w'=w3:=by
 have mixed:=qyi.mixed
 go_enter Tryz.func52,Tryz.ntmps52
 go_wp2
 go_region_o
 all_goals (go_wp2;go_ret;exact ⟨rfl,rfl⟩)
theorem qxd (l:List UInt8):ACalls Tryz.prog G 52 [.ptr 0 0 0] ⟨2, [(0, .var 86 [.optr 0 0 0, .bs 1 1 1 0 l.length]),(1, .row 5 (l.map c8).flatten)]⟩ (.str ⟨l.toArray⟩) ⟨2, [(0, .dead),(1, .dead)]⟩:=by
 intro w S F β vs hH hv
 rw [q3a hv]
 obtain ⟨c,h1,h2,h3,h4,h5⟩:=hH.obj 0 0 _ rfl
 rw [show (callFunc 52 #[.pointer (some ⟨β 0,0,none⟩)]).run Tryz.prog w= .ok (.enter 52 #[.pointer (some ⟨β 0,0,none⟩)]) w by simp]
 show Calls Tryz.prog 52 _ w _
 have c1:w.drew.cell? ⟨β 0,1,none⟩=some (c.getD 1 Go.undef):=by
  rw [Lib.cell_of_heap (w:=w.drew) h1,AP (by rw [h2];exact BT _)]
  simp [Array.getD,h2]
 have hv1:=(h5 1 _ rfl).2
 generalize c.getD 1 Go.undef=v1 at c1 hv1
 -- what is left when the block of bytes has been frozen,or nothing has
 have fin:∀(w':World),w'.os=w.os→w'.tape=w.tape→w'.output=w.output→w.heap.size≤w'.heap.size→(∀k,k < w.heap.size→(S k∨F k)→w'.heap[k]? =w.heap[k]?)→(∀k x,w.shape? k=some x→w'.shape? k=some x)→
  ∃S' β',Ext w S F β 2 w' S' β' 2∧HR G w' S' F β' ⟨2, [(0, .dead),(1, .dead)]⟩∧RV w' S' β' 2 (.str ⟨l.toArray⟩) (.string ⟨l.toArray⟩):=by
  intro w' e1 e2 e3 e4 e5 e6
  have hx:Ext w S F β 2 w' S β 2:=⟨e1,e2,e3,e4,Aj _,fun _ _=>rfl,fun _ h=>h,fun _ h=> .inl h,fun k hk=>e5 k (hH.lts k hk) (.inl hk),fun k hk=>e5 k (hH.ltf k hk) (.inr hk),e6⟩
  exact ⟨S,β,hx,q4u hH rfl hx, .str _⟩
 generalize hln:l.length=ln at hv1
 cases hv1 with
 | bs0 _ _ _ _ A hs hV=>
   have hl:l= []:=AZ.1 hln
   subst hl
   cases A with
   | none=>
     refine (qh2 c1 c1 (Lib.run_unsafeSliceData_nil _ _ _ _ _) (Lib.run_unsafeString_none _ _ _ _ _)).mono ?_
     rintro e w' ⟨rfl,rfl⟩
     exact ⟨_,rfl,fin _ rfl rfl rfl (Aj _) (fun _ _ _=>rfl) (fun _ _ h=>h)⟩
   | some a=>
     obtain ⟨sh,hsh⟩:=BE.1 (hV a rfl)
     have hb:β 0 < w.heap.size:=(Au.1 h1).1
     have c2:(w.drew.alloc (.view a 5)).cell? ⟨β 0,1,none⟩=some (.slice (some a) 0 0):=by
      rw [←c1]
      exact qit (Lib.alloc_old w.drew _ _ hb)
     refine (qh2 c1 c2 (Lib.run_unsafeSliceData_zero (w:=w.drew) _ _ 5 Tryz.underlying126 a 0 sh hsh) (Lib.run_unsafeString_none _ _ _ _ _)).mono ?_
     rintro e w' ⟨rfl,rfl⟩
     exact ⟨_,rfl,fin _ rfl rfl rfl (by show w.heap.size≤(w.heap.push _).size;simp) (fun k hk _=>Lib.alloc_old w.drew _ k hk) (fun k x h=>by
      unfold World.shape? at*
      have hk:k < w.heap.size:=by
       split at h
       ·rename_i hh;exact (Au.1 hh).1
       cases h
      rw [Lib.alloc_old w.drew _ k hk];exact h)⟩
 | bs _ _ _ _ _ cap m e hs hsh hn hl hm h0=>
   subst hln
   have hne:(l.map c8).flatten≠ []:=by
    intro e
    obtain ⟨x,t,rfl⟩:∃x t,l=x::t:=by
     cases l with
     | nil=>simp at h0
     | cons x t=>exact ⟨x,t,rfl⟩
    cases e
   obtain ⟨cc,g1,g2,g3,g4,g5⟩:=hH.obj 1 1 _ rfl hne
   rw [AN,Nat.mul_one] at hn
   subst hn
   have he:e=5∧cap=cc.size:=by
    simp only [World.shape?,g1,Ab,Al] at hsh
    exact ⟨hsh.1.symm,hsh.2.symm⟩
   obtain ⟨rfl,rfl⟩:=he
   have hl0:l≠ []:=by intro e;subst e;simp at h0
   have hcell:∀j x,l[j]? =some x→w.drew.cell? ((⟨β 1,0,none⟩:Addr).add j)=some (.int .u8 x.toNat):=by
    intro j x hx
    have:=(g5 j _ (q9m l j x hx)).2
    have hj:=(Ah.1 hx).1
    rw [Addr.add_lit,AN,Lib.cell_of_heap (w:=w.drew) g1,AP (by omega)]
    simp only [Array.getD,dif_pos (show j < cc.size by omega)] at this
    have e2:∀v,RV w S β 2 (.int .u8 x.toNat) v→v= .int .u8 x.toNat:=by intro v hv;cases hv;rfl
    rw [show cc[j]=_ from e2 _ this]
   have hbg:β 1≠β 0:=(hH.inj 0 1 0 1 _ _ rfl rfl (by decide) rfl (qb1 hne)).symm
   have c2:(w.drew).cell? ⟨β 0,1,none⟩=some (.slice (some ⟨β 1,0,none⟩) l.length cc.size):=c1
   have hcz:cc.size≠0:=by omega
   refine (qh2 c1 c2 (Lib.run_unsafeSliceData_row _ _ _ _ _ _ hcz) (Lib.run_unsafeString_row _ 126 3 9 5 Tryz.underlying126 qug.cellsByte (β 1) cc.size (show w.drew.shape? (β 1)=_ from hsh) l hl0 hl (by omega) hcell)).mono ?_
   rintro e w' ⟨rfl,rfl⟩
   refine ⟨_,rfl,fin _ ?_ ?_ ?_ (by rw [qwu];exact Aj _) (fun k hk hSF=>(qud _ _ _ _ (fun e=> ?_)).trans rfl) (fun k x h=>quc _ _ _ _ _ h)⟩
   ·unfold World.freeze;split <;> rfl
   ·unfold World.freeze;split <;> rfl
   ·unfold World.freeze;split <;> rfl
   rw [e] at hSF;exact hSF.elim g3 g4
theorem qly (l:List UInt8):AC Tryz.prog G 73 [.ptr 0 0 0] 2 [(0, .var 86 [.optr 0 0 0, .bs 1 1 1 0 l.length]),(1, .row 5 (l.map c8).flatten)] (.tup []) 2 [(0, .var 86 [.optr 0 0 0, .bs 1 1 1 0 l.length]),(1, .row 5 (l.map c8).flatten)]:=
 ⟨qp9 _ _,(zm rfl rfl (jn zr rfl j3)),(qj (za zr zg)),(zn rfl (jt zr j6)),(qj (za zr zg)),rfl,rfl,rfl,rfl⟩
theorem q2x (l:List UInt8):AC Tryz.prog G 52 [.ptr 0 0 0] 2 [(0, .var 86 [.optr 0 0 0, .bs 1 1 1 0 l.length]),(1, .row 5 (l.map c8).flatten)] (.str ⟨l.toArray⟩) 2 [(0, .dead),(1, .dead)]:=
 ⟨qxd l,(zm rfl rfl (jn zr rfl j3)),(qj (za zr zg)),⟨rfl,rfl,trivial⟩,⟨trivial,trivial,trivial⟩,rfl,rfl,rfl,rfl⟩
theorem zae (l:List UInt8):AC Tryz.prog G 51 [.ptr 0 0 0] 2 [(0, .var 86 [.optr 0 0 0, .bs 1 1 1 0 l.length]),(1, .row 5 (l.map c8).flatten)] (.int .i64 (l.length:Int)) 2 [(0, .var 86 [.optr 0 0 0, .bs 1 1 1 0 l.length]),(1, .row 5 (l.map c8).flatten)]:=by
 refine ⟨?_,(zm rfl rfl (jn zr rfl j3)),(qj (za zr zg)),(zn rfl (jt zr j6)),(qj (za zr zg)),rfl,rfl,rfl,rfl⟩
 refine ku (T:=tt) (N:=8) (rs:= [.tmp 2]) (fun vs w=>by simp) Tryz.func51 rfl rfl rfl (by kernel_rfl) (by kernel_rfl) ?_
 refine qc5 env [] rfl ?_
 exact yp env rfl rfl (qdi [some 0,some 1] rfl rfl rfl rfl (qe3 rfl rfl (qao rfl rfl (qao rfl rfl Ky)) (qe4 zr rfl rfl q8)) (yf (Yl (qh (zo rfl) rfl) (by simp)) (by simp)))
theorem q9n (l m:List UInt8):(l.map c8).flatten++m.map (fun c=>AV.int .u8 c.toNat)=((l++m).map c8).flatten:=by
 rw [BZ,Cl]
 congr 1
 induction m with
 | nil=>rfl
 | cons a m ih=>rw [AX,AX,Bf,←ih];rfl
theorem quw {Q:Exit→Fr→Hp→Prop} {P:Program} {T:TT} {N p n:Nat} {kn:List Nat} {k:List Item} {fr:FT} {objs:Objs} {d:Bool} {all:Array Oper} {os:List Oper} {u:Tmp} {ty:TypeId} {pos:String} {aft:Array Edge} {a b:Operand} {t t1 e:TypeId} {sz by_ id s0:Nat} {news cs z:List AV} {it ie:TI} (E:Env P T)
 (ha:ev G (frT fr) a= .bs sz id s0 0 0) (ht:T.get t=some it) (he:it.elem=some (e,sz)) (hie:T.get e=some ie) (hz:ie.zero=some z) (hzl:z.length=sz) (h0:0 < sz)
 (hby:qdv P e=some by_) (hn:qcj P t1=true) (hb:wx ⟨n,objs⟩ sz (ev G (frT fr) b)=some (0,news)) (ho:objs[id]? =some (s0, .row e cs))
 (hc:Ok P G T N p Q (.go [(u, .bs sz id s0 0 0)] (.ops d all os::k) (unkn (some u) kn) fr n objs)) (hcp:d=false∨qap a=false:=by first | exact .inl rfl | exact .inr rfl):
 Ok P G T N p Q (.gen ⟨some u, .call ⟨.builtin .append, #[a,b], #[t,t1]⟩,ty,pos,aft,none⟩ d all os k kn fr n objs):=by
 refine qdy (qqi hcp) ?_ hc
 simp only [evalOp,Jx,v6,AX,BU,ha,qau,(ti E.hT ht).elem _ he,hby,(ti E.hT hie).zero _ hz]
 rw [if_pos ⟨h0,hzl,hn⟩]
 simp only [hb,if_true,ho]
 rw [if_neg (fun h=>absurd h.2.2.2.1 (Nat.lt_irrefl 0)),if_pos ⟨trivial,trivial,trivial,trivial⟩]
theorem qq7 (l:List UInt8) (s:ByteArray) (hc:l.length+s.size≤140737488355328):AC Tryz.prog G 49 [.ptr 0 0 0, .str s] 2 [(0, .var 86 [.optr 0 0 0, .bs 1 1 1 0 l.length]),(1, .row 5 (l.map c8).flatten)] (.tup [.int .i64 (s.size:Int), .nili]) 3 [(0, .var 86 [.optr 0 0 0, .bs 1 1 2 0 (l++s.data.toList).length]),(2, .row 5 ((l++s.data.toList).map c8).flatten)]:=by
 refine ⟨?_,(zm rfl rfl (jn zr rfl j3)),(qj (za zr zg)),(zn rfl (jt zr j6)),(qj (za zr zg)),rfl,rfl,rfl,rfl⟩
 refine ku (T:=tt) (N:=19) (rs:= [.tmp 4, .tmp 5]) (fun vs w=>by simp) Tryz.func49 rfl rfl rfl (by kernel_rfl) (by kernel_rfl) ?_
 refine qc5 env [] rfl ?_
 refine qb (AC.go (qly l) [0,1] [0,1] rfl rfl rfl rfl rfl rfl rfl rfl rfl) ?_
 refine qc5 env [] rfl ?_
 have e2:(l++s.data.toList).length=l.length+s.size:=by rw [Ad,AY];rfl
 by_cases h0:l.length+s.size=0
 ·have hl:l= []:=AZ.1 (by omega)
  have hs:s.data.toList= []:=AZ.1 (by rw [AY];show s.size=0;omega)
  subst hl
  have hz:s.size=0:=by simpa using h0
  refine quw (by_:=1) (news:=s.data.toList.map fun c=>AV.int .u8 c.toNat) (cs:= []) env rfl rfl rfl rfl rfl rfl (by decide) rfl rfl (show wx _ 1 (.str s)=_ by simp only [wx,if_true];rw [hz]) rfl ?_
  refine qc5 env [] rfl ?_
  rw [hs]
  exact yp env rfl rfl (qdi [some 0,some 1] rfl rfl rfl rfl (qe3 rfl rfl (qao rfl rfl (qao rfl rfl Ky)) (qe4 (x:= []) zr rfl rfl q8)) (jy (qf6 (Yl (qh (zo rfl) rfl) (by simp)) (qf6 (Yl (y:= .nili) (x:= .nili) (qh (Y9 (Q4 _) (by simp)) rfl) (by simp)) jf))))
 refine qrh (by_:=1) (news:=s.data.toList.map fun c=>AV.int .u8 c.toNat) (m:=s.size) env rfl rfl rfl rfl rfl rfl (by decide) rfl rfl (show wx _ 1 (.str s)=_ by simp only [wx,if_true]) rfl (by rw [qdt (C:=c8) (sz:=1) (fun _=>rfl) l]) (by omega) (by omega) (by omega) ?_
 rw [q9n,←e2]
 refine qc5 env [] rfl ?_
 exact yp env rfl rfl (qdi [some 0,some 1] rfl rfl rfl rfl (qe3 rfl rfl (qao rfl rfl (qao rfl rfl Ky)) (qe4 zr rfl rfl q8)) (jy (qf6 (Yl (qh (zo rfl) rfl) (by simp)) (qf6 (Yl (y:= .nili) (x:= .nili) (qh (Y9 (Q4 _) (by simp)) rfl) (by simp)) jf))))
theorem zaq {c:Int} (h0:0≤c) (h1:c < 256):c8 c.toNat.toUInt8= [.int .u8 c]:=by
 have:((c.toNat.toUInt8).toNat:Int)=c:=by
  rw [Nat.toUInt8_eq,UInt8.toNat_ofNat']
  omega
 unfold c8
 rw [this]
theorem qu6 (l:List UInt8) (c:Int) (hc:l.length+1≤140737488355328∧0≤c∧c < 256):AC Tryz.prog G 48 [.ptr 0 0 0, .int .u8 c] 2 [(0, .var 86 [.optr 0 0 0, .bs 1 1 1 0 l.length]),(1, .row 5 (l.map c8).flatten)] .nili 3 [(0, .var 86 [.optr 0 0 0, .bs 1 1 2 0 (l++ [c.toNat.toUInt8]).length]),(2, .row 5 ((l++ [c.toNat.toUInt8]).map c8).flatten)]:=by
 refine ⟨?_,(zm rfl rfl (jn zr rfl j3)),(qj (za zr zg)),(zn rfl (jt zr j6)),(qj (za zr zg)),rfl,rfl,rfl,rfl⟩
 refine ku (T:=tt) (N:=17) (rs:= [.tmp 4]) (fun vs w=>by simp) Tryz.func48 rfl rfl rfl (by kernel_rfl) (by kernel_rfl) ?_
 refine qc5 env [] rfl ?_
 refine qb (AC.go (qly l) [0,1] [0,1] rfl rfl rfl rfl rfl rfl rfl rfl rfl) ?_
 refine qc5 env [] rfl ?_
 have hx:app 1 l [c.toNat.toUInt8]=some (l++ [c.toNat.toUInt8]):=by
  unfold app
  rw [if_pos ⟨by simp;omega,by simp;omega⟩]
 refine qbv (C:=c8) env hx rfl (by rw [AX,zaq hc.2.1 hc.2.2];rfl) (by simp) (fun _=>rfl) rfl rfl rfl rfl rfl (by decide) rfl rfl rfl ?_
 refine qc5 env [] rfl ?_
 exact yp env rfl rfl (qdi [some 0,some 1] rfl rfl rfl rfl (qe3 rfl rfl (qao rfl rfl (qao rfl rfl Ky)) (qe4 zr rfl rfl q8)) (yf (Yl (y:= .nili) (x:= .nili) (qh (Y9 (Q4 _) (by simp)) rfl) (by simp)) (by simp)))
end Go.Proofs.YtpnkemogepoioaaGreatDoorW.Ex.Gr
