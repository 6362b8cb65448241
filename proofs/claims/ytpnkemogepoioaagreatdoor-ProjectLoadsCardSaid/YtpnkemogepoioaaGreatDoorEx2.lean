/- A symbolic executor for the machine's code, part 1: abstract values, an abstract heap, and what they say of a world. General over the program; no conditions beside those in each theorem. AV: a value without addresses: a slice that is only read bears its elements ('sl'), a pointer or a slice into memory of the call's own names an object of the abstract heap by its stamp ('ptr', 'bs'; the first number is but the object's place in the list). Relation: RV w S β n x v: in world w the value v is x; S: blocks that never change again; β: the block of each stamp below n. F: blocks that were there when the call began: the call leaves them alone. A symbolic executor for the machine's code, part 2: what each operation does to abstract values, and that it is so. General over the program; no conditions beside those in each theorem. -/
import Derived.Calls
import Derived.Orders
import Derived.Tactics
import Derived.Below
import Derived.Laws.AppendOwn
import Derived.Deep.MidRow
import Derived.ChangeKeysEq
import Derived.Great.BuildSlice
namespace Go.Proofs.YtpnkemogepoioaaGreatDoorW.Ex
set_option linter.all false
open Go
def Aa:=@Bool.not_false
def Ab:=@Option.some.injEq
def Ac:=@Bool.not_true
def Ad:=@List.length_append
def Ae:=@List.length_cons
def Af:=@List.mem_of_getElem?
def Ag:=@Array.getD_eq_getD_getElem?
def Ah:=@List.getElem?_eq_some_iff
def Ai:=@List.length_singleton
def Aj:=@Nat.le_refl
def Ak:=@List.getElem?_eq_getElem
def Al:=@Prod.mk.injEq
def Am:=@Option.map_eq_some_iff
def An:=@Bool.and_eq_true
def Ao:=@Nat.le_of_ble_eq_true
def Ap:=@List.append_assoc
def Aq:=@List.getElem?_cons_zero
def Ar:=@List.length_nil
def As:=@List.length_map
def Au:=@Array.getElem?_eq_some_iff
def Av:=@List.getElem?_map
def Aw:=@List.all_eq_true
def Ax:=@List.getD_eq_getElem?_getD
def Ay:=@List.mem_cons_of_mem
def Az:=@List.append_nil
def AA:=@Bool.false_eq_true
def AB:=@List.getElem?_of_mem
def AD:=@Nat.zero_le
def AE:=@List.mem_cons
def AF:=@Nat.eq_of_beq_eq_true
def AH:=@List.getElem?_append
def AJ:=@List.cons_append
def AK:=@List.mem_cons_self
def AM:=@Or.inr
def AN:=@Nat.zero_add
def AO:=@List.mem_singleton
def AP:=@Array.getElem?_eq_getElem
def AQ:=@List.nil_append
def AU:=@Nat.lt_of_lt_of_le
def AW:=@List.drop_of_length_le
def AX:=@List.map_cons
def AY:=@Array.length_toList
def AZ:=@List.length_eq_zero_iff
def Ba:=@Option.map_some
def Bb:=@Nat.ne_of_beq_eq_false
def Bc:=@List.getElem?_cons_succ
def Bd:=@And.intro
def Be:=@List.drop_eq_getElem_cons
def Bf:=@List.flatten_cons
def Bg:=@List.getElem?_drop
def Bh:=@Option.some.inj
def Bi:=@List.take_of_length_le
def Bj:=@Int.toNat_natCast
def Bk:=@Array.getElem?_toList
def Bl:=@List.getElem?_take
def Bm:=@Bool.and_self
def Bn:=@Nat.add_mul
def Bo:=@Option.getD_some
def Bp:=@Bool.or_eq_true
def Bq:=@Array.getElem?_setIfInBounds_self_of_lt
def Br:=@Nat.lt_or_ge
def Bs:=@List.length_take
def Bt:=@Option.bind_some
def Bu:=@List.getElem?_append_right
def Bv:=@Bool.true_and
def Bw:=@List.not_mem_nil
def Bx:=@List.getElem?_append_left
def Bz:=@List.getElem?_set_self
def BB:=@Nat.add_assoc
def BC:=@Bool.false_or
def BD:=@Nat.le_trans
def BE:=@Option.isSome_iff_exists
def BF:=@List.getElem?_set_ne
def BG:=@List.mem_map
def BH:=@List.length_drop
def BI:=@List.suffix_refl
def BJ:=@Nat.add_zero
def BL:=@Int.natCast_nonneg
def BM:=@List.suffix_cons
def BN:=@Array.getElem?_eq_none
def BO:=@Nat.lt_succ_of_lt
def BP:=@Nat.add_sub_cancel_left
def BQ:=@List.take_succ_cons
def BR:=@List.drop_zero
def BS:=@List.mem_range
def BT:=@Nat.lt_succ_self
def BU:=@List.map_nil
def BV:=@List.mem_filterMap
def BW:=@Nat.not_lt_zero
def BX:=@List.length_replicate
def BZ:=@List.map_append
def B0:=@Array.size_append
def B1:=@List.mem_append_left
def B2:=@List.extract_eq_take_drop
def B3:=@Array.size_setIfInBounds
def B4:=@List.length_pos_iff
def B5:=@Array.getElem?_setIfInBounds_ne
def B6:=@List.cons.inj
def B7:=@List.cons.injEq
def B8:=@UInt8.toNat_inj
def B9:=@List.length_set
def Ca:=@ByteArray.data_extract
def Cb:=@List.push_toArray
def Cc:=@List.getElem?_toArray
def Cd:=@Array.mem_of_getElem?
def Ce:=@Array.getElem?_modify
def Cf:=@Bool.false_and
def Cg:=@Nat.mul_le_mul_right
def Ch:=@Array.toList_extract
def Ci:=@List.getElem_mem
def Cj:=@Nat.le_succ
def Ck:=@List.mem_map_of_mem
def Cl:=@List.flatten_append
inductive AV where
 | undef
 | bool (b:Bool)
 | int (k:IntKind) (n:Int)
 | str (s:ByteArray)
 | nilp
 | ptr (id s off:Nat)
 | optr (id s off:Nat)
 | rptr (cs:List AV)
 | bs (sz id s off len:Nat)
 | sl (sz:Nat) (full:Bool) (l:List (List AV))
 | fn (f:FuncId) (caps:List AV)
 | nilf
 | agg (cs:List AV)
 | tup (vs:List AV)
 | iface (t:TypeId) (v:AV)
 | nili
 | mp (kk vk:IntKind) (l:List (Int × Int))
 deriving Inhabited
def AV.one:AV→Bool
 | .agg _ | .tup _ | .undef=>false
 | _=>true
inductive RV (w:World) (S:Nat→Prop) (β:Nat→Nat):Nat→AV→Value→Prop
 | undef {n:Nat} (v:Value):RV w S β n .undef v
 | bool {n:Nat} (b:Bool):RV w S β n (.bool b) (.bool b)
 | int {n:Nat} (k:IntKind) (m:Int):RV w S β n (.int k m) (.int k m)
 | str {n:Nat} (s:ByteArray):RV w S β n (.str s) (.string s)
 | nilp {n:Nat}:RV w S β n .nilp (.pointer none)
 | ptr {n:Nat} (id s off:Nat) (hs:s < n):RV w S β n (.ptr id s off) (.pointer (some ⟨β s,off,none⟩))
 | optr {n:Nat} (id s off:Nat) (v:Value) (hs:s < n) (hv:v= .pointer none∨v= .pointer (some ⟨β s,off,none⟩)):RV w S β n (.optr id s off) v
 | rptr {n:Nat} (cs:List AV) (b o:Nat) (u:Nat→Value) (hS:cs≠ []→S b) (h1:∀(i:Nat) (x:AV),cs[i]? =some x→x.one=true)
    (hc:∀(i:Nat) (x:AV),cs[i]? =some x→w.cell? ⟨b,o+i,none⟩=some (u i)) (hr:∀(i:Nat) (x:AV),cs[i]? =some x→RV w S β 0 x (u i)):RV w S β n (.rptr cs) (.pointer (some ⟨b,o,none⟩))
 | bs {n:Nat} (sz id s off len cap m:Nat) (e:TypeId) (hs:s < n) (hsh:w.shape? (β s)=some (e,m)) (hn:off+cap*sz=m) (hl:len≤cap) (hm:cap≤9223372036854775807) (h0:0 < len):
    RV w S β n (.bs sz id s off len) (.slice (some ⟨β s,off,none⟩) len cap)
 | bs0 {n:Nat} (sz id s off:Nat) (A:Option Addr) (hs:s < n) (hV:∀a,A=some a→(w.shape? a.block).isSome=true):RV w S β n (.bs sz id s off 0) (.slice A 0 0)
 | sl {n:Nat} (sz:Nat) (full:Bool) (l:List (List AV)) (A:Option Addr) (cap:Nat) (u:Nat→Nat→Value) (hl:l.length≤cap) (hm:cap≤9223372036854775807) (hf:full=true→cap=l.length)
    (hA:l≠ []→∀a,A=some a→a.spot=none) (hA1:l≠ []→A.isSome=true) (hS:∀b o,A=some ⟨b,o,none⟩→l≠ []→S b) (hsz:∀c∈l,c.length=sz) (h1:∀c∈l,∀x∈c,AV.one x=true)
    (hc:∀b o,A=some ⟨b,o,none⟩→∀(j:Nat) (c:List AV) (i:Nat) (x:AV),l[j]? =some c→c[i]? =some x→w.cell? ⟨b,o+(j*sz+i),none⟩=some (u j i))
    (hr:∀(j:Nat) (c:List AV) (i:Nat) (x:AV),l[j]? =some c→c[i]? =some x→RV w S β 0 x (u j i)) (hV:full=true→sz=0→∀a,A=some a→(w.shape? a.block).isSome=true):RV w S β n (.sl sz full l) (.slice A l.length cap)
 | fn {n:Nat} (f:FuncId) (caps:List AV) (vs:Array Value) (hs:vs.size=caps.length) (hr:∀(i:Nat) (x:AV),caps[i]? =some x→RV w S β n x (vs.getD i Go.undef)):RV w S β n (.fn f caps) (.func (.func f) #[] vs)
 | nilf {n:Nat}:RV w S β n .nilf .nilFunc
 | agg {n:Nat} (cs:List AV) (vs:Array Value) (hs:vs.size=cs.length) (h1:∀x∈cs,AV.one x=true) (hr:∀(i:Nat) (x:AV),cs[i]? =some x→RV w S β n x (vs.getD i Go.undef)):RV w S β n (.agg cs) (.agg vs)
 | tup {n:Nat} (cs:List AV) (vs:Array Value) (hs:vs.size=cs.length) (hr:∀(i:Nat) (x:AV),cs[i]? =some x→RV w S β n x (vs.getD i Go.undef)):RV w S β n (.tup cs) (.tuple vs)
 | iface {n:Nat} (t:TypeId) (x:AV) (v:Value) (hr:RV w S β n x v):RV w S β n (.iface t x) (.iface t v)
 | nili {n:Nat}:RV w S β n .nili .nilIface
 | mp {n:Nat} (kk vk:IntKind) (l:List (Int × Int)) (b clk:Nat) (es:Array MapEntry) (hS:S b) (hh:w.heap[b]? =some (.map es clk)) (he:es.toList.map (fun e=>(e.key,e.val))=l.map fun p=>(Value.int kk p.1,Value.int vk p.2)):
    RV w S β n (.mp kk vk l) (.map (some b))
theorem RV.one {w:World} {S:Nat→Prop} {β:Nat→Nat} {n:Nat} {x:AV} {v:Value} (h:RV w S β n x v) (h1:x.one=true):v.oneCell'=true:=by
 cases h <;> first | rfl | (rename_i hv;rcases hv with rfl | rfl <;> rfl) | cases h1
inductive Obj where
 | dead
 | var (t:TypeId) (cs:List AV)
 | row (t:TypeId) (cs:List AV)
 | froz (t:TypeId) (cs:List AV)
 deriving Inhabited
structure Hp where
 n:Nat
 objs:List (Nat × Obj)
def Obj.live:Obj→Bool
 | .var _ _=>true
 | .row _ cs=> !cs.isEmpty
 | _=>false
def OR (w:World) (S F:Nat→Prop) (β:Nat→Nat) (n:Nat) (b:Nat):Obj→Prop
 | .dead=>True
 | .var t cs=>∃c,w.heap[b]? =some (.cells c t (0,0))∧c.size=cs.length∧¬S b∧¬F b∧∀(i:Nat) (x:AV),cs[i]? =some x→x.one=true∧RV w S β n x (c.getD i Go.undef)
 | .row t cs=>cs≠ []→∃c,w.heap[b]? =some (.cells c t (0,0))∧cs.length≤c.size∧¬S b∧¬F b∧∀(i:Nat) (x:AV),cs[i]? =some x→x.one=true∧RV w S β n x (c.getD i Go.undef)
 | .froz t cs=>∃c fr,w.heap[b]? =some (.cells c t fr)∧cs.length≤c.size∧S b∧∀(i:Nat) (x:AV),cs[i]? =some x→x.one=true∧RV w S β n x (c.getD i Go.undef)
structure GV (w:World) (S:Nat→Prop) (β:Nat→Nat) (n:Nat) (g:Nat) (cs:List AV):Prop where
 rv:RV w S β n (.rptr cs) (.pointer (some ⟨g,0,none⟩))
 sh:cs≠ []→∃e,w.shape? g=some (e,cs.length)
structure HR (G:Nat→List AV) (w:World) (S F:Nat→Prop) (β:Nat→Nat) (H:Hp):Prop where
 lts:∀k,S k→k < w.heap.size
 ltf:∀k,F k→k < w.heap.size
 glob:∀g,GV w S β H.n g (G g)
 ltn:∀(i s:Nat) (o:Obj),H.objs[i]? =some (s,o)→s < H.n
 inj:∀(i j si sj:Nat) (oi oj:Obj),H.objs[i]? =some (si,oi)→H.objs[j]? =some (sj,oj)→i≠j→oi.live=true→oj.live=true→β si≠β sj
 obj:∀(i s:Nat) (o:Obj),H.objs[i]? =some (s,o)→OR w S F β H.n (β s) o
structure Ext (w:World) (S F:Nat→Prop) (β:Nat→Nat) (n:Nat) (w':World) (S':Nat→Prop) (β':Nat→Nat) (n':Nat):Prop where
 os:w'.os=w.os
 tape:w'.tape=w.tape
 output:w'.output=w.output
 size:w.heap.size≤w'.heap.size
 le:n≤n'
 beta:∀s,s < n→β' s=β s
 sub:∀k,S k→S' k
 new:∀k,S' k→S k∨¬F k
 same:∀k,S k→w'.heap[k]? =w.heap[k]?
 fsame:∀k,F k→w'.heap[k]? =w.heap[k]?
 shape:∀k x,w.shape? k=some x→w'.shape? k=some x
theorem Ext.refl (w:World) (S F:Nat→Prop) (β:Nat→Nat) (n:Nat):Ext w S F β n w S β n:=
 ⟨rfl,rfl,rfl,Aj _,Aj _,fun _ _=>rfl,fun _ h=>h,fun _ h=> .inl h,fun _ _=>rfl,fun _ _=>rfl,fun _ _ h=>h⟩
theorem Ext.trans {w w1 w2:World} {S S1 S2 F:Nat→Prop} {β β1 β2:Nat→Nat} {n n1 n2:Nat} (h:Ext w S F β n w1 S1 β1 n1) (k:Ext w1 S1 F β1 n1 w2 S2 β2 n2):Ext w S F β n w2 S2 β2 n2:=
 ⟨k.os.trans h.os,k.tape.trans h.tape,k.output.trans h.output,BD h.size k.size,BD h.le k.le,fun s hs=>(k.beta s (AU hs h.le)).trans (h.beta s hs),fun q hq=>k.sub q (h.sub q hq),
   fun q hq=>(k.new q hq).elim (h.new q) .inr,fun q hq=>(k.same q (h.sub q hq)).trans (h.same q hq),fun q hq=>(k.fsame q hq).trans (h.fsame q hq),fun q x hx=>k.shape q x (h.shape q x hx)⟩
theorem qit {w w':World} {b o:Nat} (h:w'.heap[b]? =w.heap[b]?):w'.cell? ⟨b,o,none⟩=w.cell? ⟨b,o,none⟩:=by
 simp [World.cell?,h]
theorem RV.to {w w':World} {S S':Nat→Prop} {β β':Nat→Nat} {n n':Nat} (hle:n≤n') (hb:∀s,s < n→β' s=β s) (hs:∀k,S k→S' k) (hw:∀k,S k→w'.heap[k]? =w.heap[k]?)
 (hsh:∀(b:Nat),True→∀x,w.shape? b=some x→w'.shape? b=some x) {x:AV} {v:Value} (h:RV w S β n x v):RV w' S' β' n' x v:=by
 have hva:∀(A:Option Addr),(∀a,A=some a→(w.shape? a.block).isSome=true)→∀a,A=some a→(w'.shape? a.block).isSome=true:=fun A h a ha=>by
  obtain ⟨x,hx⟩:=BE.1 (h a ha)
  rw [hsh _ trivial _ hx];rfl
 induction h generalizing n' with
 | undef v=>exact .undef v
 | bool b=>exact .bool b
 | int k n=>exact .int k n
 | str s=>exact .str s
 | nilp=>exact .nilp
 | ptr id s off h=>rw [←hb s h];exact .ptr id s off (AU h hle)
 | optr id s off v h hv=>rw [←hb s h] at hv;exact .optr id s off v (AU h hle) hv
 | rptr cs b o u hS h1 hc _ ih=>
   refine .rptr cs b o u (fun h=>hs _ (hS h)) h1 (fun i x hi=> ?_) (fun i x hi=>ih i x hi (Aj 0) (fun s h=>absurd h (BW s)))
   rw [qit (hw b (hS (by intro e;subst e;simp at hi)))]
   exact hc i x hi
 | bs sz id s off len cap m e h hsh' hn hl hm h0=>
   rw [←hb s h]
   exact .bs sz id s off len cap m e (AU h hle) (by rw [hb s h];exact hsh _ trivial _ hsh') hn hl hm h0
 | bs0 sz id s off A h hV=>exact .bs0 sz id s off A (AU h hle) (hva A hV)
 | sl sz full l A cap u hl hm hf hA hA1 hS hsz h1 hc _ hV ih=>
   refine .sl sz full l A cap u hl hm hf hA hA1 (fun b o h hn=>hs _ (hS b o h hn)) hsz h1 (fun b o h j c i x hj hi=> ?_) (fun j c i x hj hi=>ih j c i x hj hi (Aj 0) (fun s h=>absurd h (BW s))) (fun h h0=>hva A (hV h h0))
   rw [qit (hw b (hS b o h (by intro e;subst e;simp at hj)))]
   exact hc b o h j c i x hj hi
 | fn f caps vs hs _ ih=>exact .fn f caps vs hs (fun i x hi=>ih i x hi hle hb)
 | nilf=>exact .nilf
 | agg cs vs hs h1 _ ih=>exact .agg cs vs hs h1 (fun i x hi=>ih i x hi hle hb)
 | tup cs vs hs _ ih=>exact .tup cs vs hs (fun i x hi=>ih i x hi hle hb)
 | iface t x v _ ih=>exact .iface t x v (ih hle hb)
 | nili=>exact .nili
 | mp kk vk l b clk es hS hh he=>exact .mp kk vk l b clk es (hs _ hS) ((hw b hS).trans hh) he
theorem RV.ext {w w':World} {S S' F:Nat→Prop} {β β':Nat→Nat} {n n':Nat} (hx:Ext w S F β n w' S' β' n') {x:AV} {v:Value} (h:RV w S β n x v):RV w' S' β' n' x v:=
 h.to hx.le hx.beta hx.sub hx.same (fun _ _=>hx.shape _)
theorem GV.ext {w w':World} {S S' F:Nat→Prop} {β β':Nat→Nat} {n n' g:Nat} {cs:List AV} (h:GV w S β n g cs) (hx:Ext w S F β n w' S' β' n'):GV w' S' β' n' g cs:=
 ⟨h.rv.ext hx,fun hc=>let ⟨e,he⟩:=h.sh hc;⟨e,hx.shape _ _ he⟩⟩
inductive Pure:AV→Prop
 | undef:Pure .undef
 | bool (b:Bool):Pure (.bool b)
 | int (k:IntKind) (n:Int):Pure (.int k n)
 | str (s:ByteArray):Pure (.str s)
 | nilp:Pure .nilp
 | rptr (cs:List AV):Pure (.rptr cs)
 | sl (sz:Nat) (full:Bool) (l:List (List AV)):Pure (.sl sz full l)
 | nilf:Pure .nilf
 | agg (cs:List AV) (h:∀x∈cs,Pure x):Pure (.agg cs)
 | tup (cs:List AV) (h:∀x∈cs,Pure x):Pure (.tup cs)
 | iface (t:TypeId) (x:AV) (h:Pure x):Pure (.iface t x)
 | nili:Pure .nili
 | mp (kk vk:IntKind) (l:List (Int × Int)):Pure (.mp kk vk l)
 | fn (f:FuncId) (caps:List AV) (h:∀x∈caps,Pure x):Pure (.fn f caps)
theorem RV.zero {w:World} {S:Nat→Prop} {β β':Nat→Nat} {n':Nat} {x:AV} {v:Value} (h:RV w S β 0 x v):RV w S β' n' x v:=
 h.to (AD _) (fun s h=>absurd h (BW s)) (fun _ h=>h) (fun _ _=>rfl) (fun _ _ _ h=>h)
theorem RV.pure {w:World} {S:Nat→Prop} {β β':Nat→Nat} {n n':Nat} {x:AV} {v:Value} (h:RV w S β n x v):Pure x→RV w S β' n' x v:=by
 induction h with
 | undef v=>exact fun _=> .undef v
 | bool b=>exact fun _=> .bool b
 | int k n=>exact fun _=> .int k n
 | str s=>exact fun _=> .str s
 | nilp=>exact fun _=> .nilp
 | ptr id s off hb=>intro h;cases h
 | optr id s off v hb hv=>intro h;cases h
 | rptr cs b o u hS h1 hc hr _=>exact fun _=> .rptr cs b o u hS h1 hc (fun i x hi=>(hr i x hi).zero)
 | bs sz id s off len cap m e hb hsh hn hl hm h0=>intro h;cases h
 | bs0 sz id s off A hb hV=>intro h;cases h
 | sl sz full l A cap u hl hm hf hA hA1 hS hsz h1 hc hr hV _=>exact fun _=> .sl sz full l A cap u hl hm hf hA hA1 hS hsz h1 hc (fun j c i x hj hi=>(hr j c i x hj hi).zero) hV
 | fn f caps vs hs' _ ih=>
   intro h
   cases h with
   | fn _ _ h=>exact .fn f caps vs hs' (fun i x hi=>ih i x hi (h x (Af hi)))
 | nilf=>exact fun _=> .nilf
 | agg cs vs hs' h1 _ ih=>
   intro h
   cases h with
   | agg _ h=>exact .agg cs vs hs' h1 (fun i x hi=>ih i x hi (h x (Af hi)))
 | tup cs vs hs' _ ih=>
   intro h
   cases h with
   | tup _ h=>exact .tup cs vs hs' (fun i x hi=>ih i x hi (h x (Af hi)))
 | iface t x v _ ih=>
   intro h
   cases h with
   | iface _ _ h=>exact .iface t x v (ih h)
 | nili=>exact fun _=> .nili
 | mp kk vk l b clk es hS hh he=>exact fun _=> .mp kk vk l b clk es hS hh he
theorem GV.pure {w:World} {S:Nat→Prop} {β β':Nat→Nat} {n n' g:Nat} {cs:List AV} (h:GV w S β n g cs) (hp:Pure (.rptr cs)):GV w S β' n' g cs:=⟨h.rv.pure hp,h.sh⟩
inductive Under (m:Nat):AV→Prop
 | undef:Under m .undef
 | bool (b:Bool):Under m (.bool b)
 | int (k:IntKind) (n:Int):Under m (.int k n)
 | str (s:ByteArray):Under m (.str s)
 | nilp:Under m .nilp
 | ptr (id s off:Nat) (h:s < m):Under m (.ptr id s off)
 | optr (id s off:Nat) (h:s < m):Under m (.optr id s off)
 | rptr (cs:List AV):Under m (.rptr cs)
 | bs (sz id s off len:Nat) (h:s < m):Under m (.bs sz id s off len)
 | sl (sz:Nat) (full:Bool) (l:List (List AV)):Under m (.sl sz full l)
 | nilf:Under m .nilf
 | agg (cs:List AV) (h:∀x∈cs,Under m x):Under m (.agg cs)
 | tup (cs:List AV) (h:∀x∈cs,Under m x):Under m (.tup cs)
 | iface (t:TypeId) (x:AV) (h:Under m x):Under m (.iface t x)
 | nili:Under m .nili
 | mp (kk vk:IntKind) (l:List (Int × Int)):Under m (.mp kk vk l)
 | fn (f:FuncId) (caps:List AV) (h:∀x∈caps,Under m x):Under m (.fn f caps)
theorem RV.lower {w:World} {S:Nat→Prop} {β:Nat→Nat} {n m:Nat} {x:AV} {v:Value} (h:RV w S β n x v):Under m x→RV w S β m x v:=by
 induction h with
 | undef v=>exact fun _=> .undef v
 | bool b=>exact fun _=> .bool b
 | int k n=>exact fun _=> .int k n
 | str s=>exact fun _=> .str s
 | nilp=>exact fun _=> .nilp
 | ptr id s off hb=>intro h;cases h with | ptr _ _ _ h=>exact .ptr id s off h
 | optr id s off v hb hv=>intro h;cases h with | optr _ _ _ h=>exact .optr id s off v h hv
 | rptr cs b o u hS h1 hc hr _=>exact fun _=> .rptr cs b o u hS h1 hc hr
 | bs sz id s off len cap m e hb hsh hn hl hm h0=>intro h;cases h with | bs _ _ _ _ _ h=>exact .bs sz id s off len cap m e h hsh hn hl hm h0
 | bs0 sz id s off A hb hV=>intro h;cases h with | bs _ _ _ _ _ h=>exact .bs0 sz id s off A h hV
 | sl sz full l A cap u hl hm hf hA hA1 hS hsz h1 hc hr hV _=>exact fun _=> .sl sz full l A cap u hl hm hf hA hA1 hS hsz h1 hc hr hV
 | fn f caps vs hs' _ ih=>
   intro h
   cases h with
   | fn _ _ h=>exact .fn f caps vs hs' (fun i x hi=>ih i x hi (h x (Af hi)))
 | nilf=>exact fun _=> .nilf
 | agg cs vs hs' h1 _ ih=>
   intro h
   cases h with
   | agg _ h=>exact .agg cs vs hs' h1 (fun i x hi=>ih i x hi (h x (Af hi)))
 | tup cs vs hs' _ ih=>
   intro h
   cases h with
   | tup _ h=>exact .tup cs vs hs' (fun i x hi=>ih i x hi (h x (Af hi)))
 | iface t x v _ ih=>
   intro h
   cases h with
   | iface _ _ h=>exact .iface t x v (ih h)
 | nili=>exact fun _=> .nili
 | mp kk vk l b clk es hS hh he=>exact fun _=> .mp kk vk l b clk es hS hh he
def AV.closed:AV→Bool
 | .ptr _ _ _ | .optr _ _ _ | .bs _ _ _ _ _ | .agg _ | .tup _=>false
 | .fn _ caps=>caps.isEmpty
 | .iface _ x=>x.closed
 | _=>true
theorem j9:∀x:AV,x.closed=true→Pure x
 | .undef,_=> .undef
 | .bool b,_=> .bool b
 | .int k n,_=> .int k n
 | .str s,_=> .str s
 | .nilp,_=> .nilp
 | .ptr _ _ _,h=>by simp [AV.closed] at h
 | .optr _ _ _,h=>by simp [AV.closed] at h
 | .rptr cs,_=> .rptr cs
 | .bs _ _ _ _ _,h=>by simp [AV.closed] at h
 | .sl a b c,_=> .sl a b c
 | .fn f caps,h=>by
   simp [AV.closed] at h
   subst h
   exact .fn f [] (by simp)
 | .nilf,_=> .nilf
 | .agg _,h=>by simp [AV.closed] at h
 | .tup _,h=>by simp [AV.closed] at h
 | .iface t x,h=> .iface t x (j9 x (by simpa [AV.closed] using h))
 | .nili,_=> .nili
 | .mp kk vk l,_=> .mp kk vk l
theorem OR.to {w w':World} {S S' F F':Nat→Prop} {β β':Nat→Nat} {n n' b:Nat} (hr:∀x v,RV w S β n x v→RV w' S' β' n' x v) (hh:w'.heap[b]? =w.heap[b]?)
 (hS:¬S b→¬S' b) (hS':S b→S' b) (hF:¬F b→¬F' b) {o:Obj} (h:OR w S F β n b o):OR w' S' F' β' n' b o:=by
 cases o with
 | dead=>trivial
 | var t cs=>obtain ⟨c,h1,h2,h3,h4,h5⟩:=h;exact ⟨c,hh.trans h1,h2,hS h3,hF h4,fun i x hi=>⟨(h5 i x hi).1,hr _ _ (h5 i x hi).2⟩⟩
 | row t cs=>intro hne;obtain ⟨c,h1,h2,h3,h4,h5⟩:=h hne;exact ⟨c,hh.trans h1,h2,hS h3,hF h4,fun i x hi=>⟨(h5 i x hi).1,hr _ _ (h5 i x hi).2⟩⟩
 | froz t cs=>obtain ⟨c,fr,h1,h2,h3,h5⟩:=h;exact ⟨c,fr,hh.trans h1,h2,hS' h3,fun i x hi=>⟨(h5 i x hi).1,hr _ _ (h5 i x hi).2⟩⟩
theorem OR.nil {w:World} {S F:Nat→Prop} {β:Nat→Nat} {n b:Nat} {t:TypeId} {cs:List AV} (hl:(Obj.row t cs).live=false):OR w S F β n b (.row t cs):=
 fun hne=>absurd (by simpa [Obj.live] using hl) hne
theorem qz3 {t:TypeId} {cs:List AV} (hl:(Obj.row t cs).live=true):cs≠ []:=by
 intro e;subst e;cases hl
theorem qb1 {t:TypeId} {cs:List AV} (h:cs≠ []):(Obj.row t cs).live=true:=by
 cases cs with
 | nil=>exact absurd rfl h
 | cons=>rfl
theorem OR.lt {w:World} {S F:Nat→Prop} {β:Nat→Nat} {n b:Nat} {o:Obj} (h:OR w S F β n b o) (hl:o.live=true):b < w.heap.size:=by
 cases o with
 | dead=>cases hl
 | froz t cs=>cases hl
 | var t cs=>obtain ⟨c,h1,_⟩:=h;exact (Au.1 h1).1
 | row t cs=>obtain ⟨c,h1,_⟩:=h (qz3 hl);exact (Au.1 h1).1
theorem OR.notS {w:World} {S F:Nat→Prop} {β:Nat→Nat} {n b:Nat} {o:Obj} (h:OR w S F β n b o) (hl:o.live=true):¬S b∧¬F b:=by
 cases o with
 | dead=>cases hl
 | froz t cs=>cases hl
 | var t cs=>obtain ⟨c,_,_,h1,h2,_⟩:=h;exact ⟨h1,h2⟩
 | row t cs=>obtain ⟨c,_,_,h1,h2,_⟩:=h (qz3 hl);exact ⟨h1,h2⟩
theorem HR.after {G:Nat→List AV} {w w':World} {S S' F:Nat→Prop} {β β':Nat→Nat} {n':Nat} {H:Hp} (h:HR G w S F β H) (hx:Ext w S (· < w.heap.size) β H.n w' S' β' n') (hlt:∀k,S' k→k < w'.heap.size):
 HR G w' S' F β' ⟨n',H.objs⟩:=by
 refine ⟨hlt,fun k hk=>AU (h.ltf k hk) hx.size,fun g=>(h.glob g).ext hx,fun i s o hi=>AU (h.ltn i s o hi) hx.le,fun i j si sj oi oj hi hj hne h1 h2=> ?_,fun i s o hi=> ?_⟩
 ·rw [hx.beta _ (h.ltn i si oi hi),hx.beta _ (h.ltn j sj oj hj)]
  exact h.inj i j si sj oi oj hi hj hne h1 h2
 rw [hx.beta _ (h.ltn i s o hi)]
 have ho:=h.obj i s o hi
 cases hl:o.live with
 | false=>
   cases o with
   | dead=>trivial
   | var t cs=>cases hl
   | row t cs=>exact OR.nil hl
   | froz t cs=>
     have hS:=ho
     obtain ⟨_,_,_,_,hS,_⟩:=hS
     exact ho.to (fun _ _=>RV.ext hx) (hx.same _ hS) (fun h=>absurd hS h) (hx.sub _) (fun h=>h)
 | true=>
   have hb:=ho.lt hl
   exact ho.to (fun _ _=>RV.ext hx) (hx.fsame _ hb) (fun hS hS'=>(hx.new _ hS').elim hS (fun h=>h hb)) (hx.sub _) (fun h=>h)
theorem Ext.callee {w w':World} {S S' F:Nat→Prop} {β β':Nat→Nat} {n n':Nat} (hx:Ext w S (· < w.heap.size) β n w' S' β' n') (hf:∀k,F k→k < w.heap.size):Ext w S F β n w' S' β' n':=
 ⟨hx.os,hx.tape,hx.output,hx.size,hx.le,hx.beta,hx.sub,fun k hk=>(hx.new k hk).imp id (fun h hF=>h (hf k hF)),hx.same,fun k hk=>hx.fsame k (hf k hk),hx.shape⟩
end Go.Proofs.YtpnkemogepoioaaGreatDoorW.Ex

namespace Go.Proofs.YtpnkemogepoioaaGreatDoorW.Ex
set_option linter.all false
open Go
variable {D:List Deferred}
def szP (P:Program) (t:TypeId):Option Nat:=(P.info? t).map (·.size)
def aggP (P:Program) (t:TypeId):Option Bool:=(P.underlying t).map fun d=>match d with | .struct _ | .array _ _=>true | _=>false
def elemP (P:Program) (t:TypeId):Option (TypeId × Nat):=
 match P.underlying t with
 | some (.slice e)=>(szP P e).map (e, ·)
 | _=>none
def arrP (P:Program) (t:TypeId):Option (Nat × TypeId × Nat):=
 match P.underlying t with
 | some (.array len e)=>(szP P e).map (len,e, ·)
 | _=>none
def fieldP (P:Program) (t:TypeId) (f:Nat):Option (TypeId × Nat × Nat):=
 match P.underlying t with
 | some (.struct fs)=>(fs[f]?).bind fun x=>(szP P x.type).map (x.type,x.offset, ·)
 | _=>none
def strP (P:Program) (t:TypeId):Bool:=match P.underlying t with | some .string=>true | _=>false
def intP (P:Program) (t:TypeId):Option IntKind:=match P.underlying t with | some (.int k)=>some k | _=>none
theorem Kv {P:Program} {t:TypeId} {k:Nat} (h:szP P t=some k) (w:World):(sizeOf t).run P w= .ok k w:=by
 unfold szP at h
 cases hi:P.info? t with
 | none=>simp [hi] at h
 | some i=>simp [hi] at h;simp [sizeOf,typeInfo,hi,h]
theorem qfj {P:Program} {t:TypeId} {b:Bool} (h:aggP P t=some b) (w:World):(isAgg t).run P w= .ok b w:=by
 unfold aggP at h
 cases hu:P.underlying t with
 | none=>simp [hu] at h
 | some d=>
   simp [hu] at h
   unfold isAgg
   rw [Sem.run_bind,run_underlying hu w]
   cases d <;> simp_all
def ofV1:Value→AV
 | .bool b=> .bool b
 | .int k n=> .int k n
 | .string s=> .str s
 | .slice none 0 0=> .sl 0 true []
 | .pointer none=> .nilp
 | .nilFunc=> .nilf
 | .nilIface=> .nili
 | _=> .undef
def ofV:Value→AV
 | .agg vs=>bif (vs.toList.map ofV1).all AV.one then .agg (vs.toList.map ofV1) else .undef
 | v=>ofV1 v
variable {G:Nat→List AV} {P:Program} {w:World} {S F:Nat→Prop} {β:Nat→Nat} {n:Nat}
theorem RV.nilSl (sz:Nat) (full:Bool):RV w S β n (.sl sz full []) (.slice none 0 0):=
 .sl sz full [] none 0 (fun _ _=>Go.undef) (Aj _) (by decide) (fun _=>rfl) (by simp) (by simp) (by simp) (by simp) (by simp) (by simp) (by simp) (by simp)
theorem qzv (v:Value):RV w S β n (ofV1 v) v:=by
 unfold ofV1
 split <;> first | exact RV.nilSl _ _ | constructor
theorem qyf (v:Value):RV w S β n (ofV v) v:=by
 unfold ofV
 split
 ·rename_i vs
  cases hb:(vs.toList.map ofV1).all AV.one with
  | false=>exact .undef _
  | true=>
    refine .agg _ vs (by simp) (fun x hx=>Aw.1 hb x hx) (fun i x hi=> ?_)
    rw [Av,Am] at hi
    obtain ⟨y,hy,rfl⟩:=hi
    have:vs.getD i Go.undef=y:=by
     rw [Ag,←Bk,hy];rfl
    rw [this]
    exact qzv y
 exact qzv v
abbrev Fr:=Nat→AV
def put (d:Option Tmp) (x:AV) (fr:Fr):Fr:=match d with | none=>fr | some t=>fun i=>if i=t then x else fr i
theorem q31 (x:AV) (fr:Fr):put none x fr=fr:=rfl
theorem ur (d:Tmp) (x:AV) (fr:Fr) (i:Nat):put (some d) x fr i=if i=d then x else fr i:=rfl
def ev (G:Nat→List AV) (fr:Fr):Operand→AV
 | .tmp t=>fr t
 | .const v=>ofV v
 | .global g=> .rptr (G g)
 | .func f=> .fn f []
structure FRx (D:List Deferred) (w:World) (S:Nat→Prop) (β:Nat→Nat) (n N:Nat) (fr:Fr) (a:Act):Prop where
 size:a.tmps.size=N
 defers:a.defers=D
 val:∀t,RV w S β n (fr t) (a.tmps.getD t Go.undef)
theorem FRx.ext {w':World} {S':Nat→Prop} {β':Nat→Nat} {n' N:Nat} {fr:Fr} {a:Act} (hx:Ext w S F β n w' S' β' n') (h:FRx D w S β n N fr a):FRx D w' S' β' n' N fr a:=
 ⟨h.size,h.defers,fun t=>(h.val t).ext hx⟩
theorem FRx.put {N:Nat} {fr:Fr} {a:Act} (h:FRx D w S β n N fr a) {d:Option Tmp} (hd:d.all (· < N)=true) {x:AV} {v:Value} (hv:RV w S β n x v):FRx D w S β n N (put d x fr) (a.put d v):=by
 cases d with
 | none=>exact h
 | some t=>
   refine ⟨by simp [Act.put,h.size],h.defers,fun i=> ?_⟩
   have ht:t < a.tmps.size:=by rw [h.size];simpa using hd
   by_cases hi:i=t
   ·subst hi
    simp only [ur,if_true,Act.put]
    rw [Ag,Bq ht]
    exact hv
   simp only [ur,if_neg hi,Act.put]
   rw [Ag,B5 (Ne.symm hi),←Ag]
   exact h.val i
theorem qja {N:Nat} {fr:Fr} {a:Act} {H:Hp} (hH:HR G w S F β H) (h:FRx D w S β H.n N fr a) (x:Operand):RV w S β H.n (ev G fr x) (a.eval x):=by
 cases x with
 | tmp t=>exact h.val t
 | const v=>exact qyf v
 | global g=>exact (hH.glob g).rv
 | func f=>exact .fn f [] #[] rfl (by simp)
def Js (H:Hp):AV→Option (List AV)
 | .rptr cs=>some cs
 | .ptr id s off=>match H.objs[id]? with
   | some (s', .var _ cs) | some (s', .row _ cs) | some (s', .froz _ cs)=>if s'=s then some (cs.drop off) else none
   | _=>none
 | _=>none
def qjp (P:Program) (t:TypeId) (cs:List AV):Option AV:=
 match aggP P t,szP P t with
 | some true,some k=>if k≤cs.length then some (.agg (cs.take k)) else none
 | some false,_=>cs.head?
 | _,_=>none
def qxe (w:World) (S:Nat→Prop) (β:Nat→Nat) (n:Nat) (v:Value) (cs:List AV):Prop:=
 ∃b o,v= .pointer (some ⟨b,o,none⟩)∧∀(i:Nat) (y:AV),cs[i]? =some y→y.one=true∧∃u,w.cell? ⟨b,o+i,none⟩=some u∧RV w S β n y u
theorem qxe.drop {v:Value} {cs:List AV} (h:qxe w S β n v cs) (k:Nat):∃b o,v= .pointer (some ⟨b,o,none⟩)∧qxe w S β n (.pointer (some ⟨b,o+k,none⟩)) (cs.drop k):=by
 obtain ⟨b,o,rfl,h⟩:=h
 refine ⟨b,o,rfl,b,o+k,rfl,fun i y hy=> ?_⟩
 rw [Bg] at hy
 have:=h (k+i) y hy
 rwa [←BB] at this
theorem qj4 {H:Hp} (hH:HR G w S F β H) {x:AV} {v:Value} (h:RV w S β H.n x v) {cs:List AV} (hc:Js H x=some cs):qxe w S β H.n v cs:=by
 cases h with
 | rptr cs' b o u hS h1 hcell hr=>
   simp only [Js,Ab] at hc
   subst hc
   exact ⟨b,o,rfl,fun i y hy=>⟨h1 i y hy,u i,hcell i y hy,(hr i y hy).zero⟩⟩
 | ptr id s off hs=>
   refine ⟨β s,off,rfl,fun i y hy=> ?_⟩
   simp only [Js] at hc
   have key:∀(s':Nat) (o:Obj) (cs0:List AV) (c:Array Value) (fr:Nat × Nat) (t:TypeId),H.objs[id]? =some (s',o)→s'=s→w.heap[β s]? =some (.cells c t fr)→cs0.length≤c.size→
    (∀(i:Nat) (x:AV),cs0[i]? =some x→x.one=true∧RV w S β H.n x (c.getD i Go.undef))→cs0.drop off=cs→
    y.one=true∧∃u,w.cell? ⟨β s,off+i,none⟩=some u∧RV w S β H.n y u:=by
    intro s' o cs0 c fr t _ _ hb hlen hall hd
    subst hd
    rw [Bg] at hy
    obtain ⟨h1,h2⟩:=hall _ _ hy
    have hlt:=(Ah.1 hy).1
    refine ⟨h1,c.getD (off+i) Go.undef,?_,h2⟩
    simp only [World.cell?,hb]
    simp [Ag,show off+i < c.size by omega]
   split at hc
   ·rename_i s' t cs0 ho
    split at hc
    ·rename_i e;simp only [Ab] at hc
     obtain ⟨c,h1,h2,_,_,h5⟩:=hH.obj _ _ _ ho
     subst e
     exact key _ _ cs0 c _ _ ho rfl h1 (by omega) h5 hc
    cases hc
   ·rename_i s' t cs0 ho
    split at hc
    ·rename_i e;simp only [Ab] at hc
     obtain ⟨c,h1,h2,_,_,h5⟩:=hH.obj _ _ _ ho (by intro e;subst e;rw [List.drop_nil] at hc;subst hc;simp at hy)
     subst e
     exact key _ _ cs0 c _ _ ho rfl h1 (by omega) h5 hc
    cases hc
   ·rename_i s' t cs0 ho
    split at hc
    ·rename_i e;simp only [Ab] at hc
     obtain ⟨c,fr,h1,h2,_,h5⟩:=hH.obj _ _ _ ho
     subst e
     exact key _ _ cs0 c _ _ ho rfl h1 (by omega) h5 hc
    cases hc
   cases hc
 | _=>simp [Js] at hc
theorem qse {v:Value} {cs:List AV} (h:qxe w S β n v cs) {t:TypeId} {x:AV} (hx:qjp P t cs=some x):
 ∃v',(Instr.loadAt t v).run P w= .ok v' w∧RV w S β n x v':=by
 obtain ⟨b,o,rfl,h⟩:=h
 unfold qjp at hx
 split at hx
 ·rename_i k hagg hsz
  split at hx
  ·rename_i hk
   simp only [Ab] at hx
   subst hx
   let us:List Value:=(List.range k).map fun i=>(w.cell? ⟨b,o+i,none⟩).getD Go.undef
   have hat:w.rangeAt b o us:=by
    intro j u hj
    have hlt:=(Ah.1 hj).1
    simp only [us,As,List.length_range] at hlt
    obtain ⟨y,hy⟩:∃y,cs[j]? =some y:=⟨cs[j],by rw [Ak]⟩
    obtain ⟨_,u',hu',_⟩:=h j y hy
    simp [us,hlt,hu'] at hj
    rw [←hj];exact hu'
   cases hu:P.underlying t with
   | none=>simp [aggP,hu] at hagg
   | some d=>
     have hrun:=run_loadVar_mid (P:=P) w b o t us d hat hu (by simp [aggP,hu] at hagg;cases d <;> simp_all [TypeDesc.isRow]) (by simpa [szP,us] using hsz)
     refine ⟨.agg us.toArray,by simp only [Instr.loadAt,Instr.sureAddr,Sem.run_bind,Sem.run_pure,Result.andThen_ok,hrun], .agg _ _ (by simp [us];omega) (fun x hx=> ?_) (fun i x hi=> ?_)⟩
     ·obtain ⟨i,hi⟩:=AB hx
      rw [Bl] at hi
      split at hi
      ·exact (h i x hi).1
      cases hi
     rw [Bl] at hi
     split at hi
     ·rename_i hik
      obtain ⟨_,u,hu,hr⟩:=h i x hi
      simpa [us,Ag,hik,hu] using hr
     cases hi
  cases hx
 ·rename_i hagg
  rw [List.head?_eq_getElem?] at hx
  obtain ⟨_,u,hu,hr⟩:=h 0 x hx
  refine ⟨u,?_,hr⟩
  simp only [BJ] at hu
  simp [Instr.loadAt,Instr.sureAddr,loadVar,qfj hagg,hu]
 cases hx
def W8 (P:Program) (s:TypeId) (x:AV) (f:Nat):Option AV:=
 match fieldP P s f with
 | some (_,o,k+1)=>match x with
   | .rptr cs=>some (.rptr (cs.drop o))
   | .ptr id s off=>some (.ptr id s (off+o))
   | _=>none
 | _=>none
theorem RV.rptr_drop {cs:List AV} {b o:Nat} (h:RV w S β n (.rptr cs) (.pointer (some ⟨b,o,none⟩))) (k:Nat):RV w S β n (.rptr (cs.drop k)) (.pointer (some ⟨b,o+k,none⟩)):=by
 cases h with
 | rptr _ _ _ u hS h1 hc hr=>
   refine .rptr _ _ _ (fun i=>u (k+i)) (fun hne=>hS (by intro e;subst e;simp at hne)) (fun i x hi=>h1 (k+i) x (by rwa [Bg] at hi)) (fun i x hi=> ?_) (fun i x hi=>hr (k+i) x (by rwa [Bg] at hi))
   rw [Bg] at hi
   rw [BB]
   exact hc (k+i) x hi
theorem RV.rptr_take {cs:List AV} {b o:Nat} (h:RV w S β n (.rptr cs) (.pointer (some ⟨b,o,none⟩))) (k:Nat):RV w S β n (.rptr (cs.take k)) (.pointer (some ⟨b,o,none⟩)):=by
 cases h with
 | rptr _ _ _ u hS h1 hc hr=>
   have key:∀(i:Nat) (x:AV),(cs.take k)[i]? =some x→cs[i]? =some x:=by
    intro i x hi
    rw [Bl] at hi
    split at hi
    ·exact hi
    cases hi
   exact .rptr _ _ _ u (fun hne=>hS (by intro e;subst e;simp at hne)) (fun i x hi=>h1 i x (key i x hi)) (fun i x hi=>hc i x (key i x hi)) (fun i x hi=>hr i x (key i x hi))
theorem quf {s:TypeId} {f:Nat} {x x':AV} {v:Value} (h:RV w S β n x v) (hx:W8 P s x f=some x'):∃v',(Instr.fieldAt s v f).run P w= .ok v' w∧RV w S β n x' v':=by
 unfold W8 at hx
 split at hx
 ·rename_i o k hf
  unfold fieldP at hf
  cases hu:P.underlying s with
  | none=>simp [hu] at hf
  | some d =>
    cases d with
    | struct fs=>
      simp only [hu] at hf
      cases hfs:fs[f]? with
      | none=>simp [hfs] at hf
      | some fd=>
        simp only [hfs,Bt,Am,Al] at hf
        obtain ⟨k',hk',_,ho,rfl⟩:=hf
        cases h with
        | rptr cs b oo u hS h1 hc hr=>
          simp only [Ab] at hx
          subst hx
          refine ⟨.pointer (some ⟨b,oo+o,none⟩),?_,RV.rptr_drop (.rptr cs b oo u hS h1 hc hr) o⟩
          simp [Instr.fieldAt,run_underlying hu,hfs,Instr.sureAddr,fieldPlace,Kv hk',Addr.add_lit,ho]
        | ptr id st off hs=>
          simp only [Ab] at hx
          subst hx
          refine ⟨.pointer (some ⟨β st,off+o,none⟩),?_, .ptr id st _ hs⟩
          simp [Instr.fieldAt,run_underlying hu,hfs,Instr.sureAddr,fieldPlace,Kv hk',Addr.add_lit,ho]
        | _=>simp at hx
    | _=>simp [hu] at hf
 cases hx
def Kc (P:Program) (t:TypeId) (x:AV) (i:AV):Option AV:=
 match i with
 | .int _ i=>if 0≤i then match x with
   | .sl sz _ l=>match elemP P t with
     | some (_,k)=>if sz=k then (l[i.toNat]?).map .rptr else none
     | none=>none
   | .bs sz id s off len=>match elemP P t with
     | some (_,k)=>if sz=k∧i.toNat < len then some (.ptr id s (off+i.toNat*k)) else none
     | none=>none
   | .rptr cs=>match arrP P t with
     | some (len,_,k)=>if i.toNat < len then some (.rptr ((cs.drop (i.toNat*k)).take k)) else none
     | none=>none
   | .ptr id s off=>match arrP P t with
     | some (len,_,k)=>if i.toNat < len then some (.ptr id s (off+i.toNat*k)) else none
     | none=>none
   | _=>none
   else none
 | _=>none
theorem Qh {t:TypeId} {e:TypeId} {k:Nat} (h:elemP P t=some (e,k)):P.underlying t=some (.slice e)∧szP P e=some k:=by
 unfold elemP at h
 split at h
 ·rename_i e' hu
  simp only [Am,Al] at h
  obtain ⟨k',h1,rfl,rfl⟩:=h
  exact ⟨hu,h1⟩
 cases h
theorem qiv {t:TypeId} {e:TypeId} {m k:Nat} (h:arrP P t=some (m,e,k)):P.underlying t=some (.array m e)∧szP P e=some k:=by
 unfold arrP at h
 split at h
 ·rename_i e' hu
  simp only [Am,Al] at h
  obtain ⟨k',h1,rfl,rfl,rfl⟩:=h
  exact ⟨hu,h1⟩
 cases h
theorem qt7 {t:TypeId} {x i x':AV} {v iv:Value} (h:RV w S β n x v) (hi:RV w S β n i iv) (hx:Kc P t x i=some x'):∃v',(Instr.indexAt t v iv).run P w= .ok v' w∧RV w S β n x' v':=by
 unfold Kc at hx
 split at hx
 ·rename_i ki i
  cases hi
  split at hx
  ·rename_i h0
   split at hx
   ·rename_i sz full l
    split at hx
    ·rename_i e k he
     obtain ⟨hu,hk⟩:=Qh he
     split at hx
     ·rename_i hsz
      subst hsz
      simp only [Am] at hx
      obtain ⟨c,hc,rfl⟩:=hx
      have hlt:=(Ah.1 hc).1
      have hne:l≠ []:=by intro e;subst e;simp at hc
      cases h with
      | sl _ _ _ A cap u hl hm hf hA hA1 hS hsz h1 hcell hr=>
        obtain ⟨⟨b,o,sp⟩,rfl⟩:=BE.1 (hA1 hne)
        have hsp:=hA hne _ rfl
        simp only at hsp
        subst hsp
        refine ⟨.pointer (some ⟨b,o+i.toNat*sz,none⟩),?_, .rptr c b _ (u i.toNat) (fun _=>hS b o rfl hne) (fun j y hy=>h1 c (Af hc) y (Af hy)) (fun j y hy=> ?_) (fun j y hy=>hr _ _ _ _ hc hy)⟩
        ·have:i < (l.length:Int):=by omega
         simp [Instr.indexAt,asIntOf,run_underlying hu,Kv hk,h0,this,Addr.add_lit]
        rw [BB];exact hcell b o rfl _ _ _ _ hc hy
     cases hx
    cases hx
   ·rename_i sz id s off len
    split at hx
    ·rename_i e k he
     obtain ⟨hu,hk⟩:=Qh he
     split at hx
     ·rename_i hsz
      obtain ⟨rfl,hlt⟩:=hsz
      simp only [Ab] at hx
      subst hx
      cases h with
      | bs0=>exact absurd hlt (BW _)
      | bs _ _ _ _ _ cap m e' hs hsh hn hl hm=>
        refine ⟨.pointer (some ⟨β s,off+i.toNat*sz,none⟩),?_, .ptr id s _ hs⟩
        have:i < (len:Int):=by omega
        simp [Instr.indexAt,asIntOf,run_underlying hu,Kv hk,h0,this,Addr.add_lit]
     cases hx
    cases hx
   ·rename_i cs
    split at hx
    ·rename_i len e k he
     obtain ⟨hu,hk⟩:=qiv he
     split at hx
     ·rename_i hlt
      simp only [Ab] at hx
      subst hx
      cases h with
      | rptr _ b o u hS h1 hc hr=>
        refine ⟨.pointer (some ⟨b,o+i.toNat*k,none⟩),?_,RV.rptr_take (RV.rptr_drop (.rptr cs b o u hS h1 hc hr) _) _⟩
        have:i < (len:Int):=by omega
        simp [Instr.indexAt,asIntOf,run_underlying hu,Kv hk,h0,this,Addr.add_lit,Instr.sureAddr]
     cases hx
    cases hx
   ·rename_i id s off
    split at hx
    ·rename_i len e k he
     obtain ⟨hu,hk⟩:=qiv he
     split at hx
     ·rename_i hlt
      simp only [Ab] at hx
      subst hx
      cases h with
      | ptr _ _ _ hs=>
        refine ⟨.pointer (some ⟨β s,off+i.toNat*k,none⟩),?_, .ptr id s _ hs⟩
        have:i < (len:Int):=by omega
        simp [Instr.indexAt,asIntOf,run_underlying hu,Kv hk,h0,this,Addr.add_lit,Instr.sureAddr]
     cases hx
    cases hx
   cases hx
  cases hx
 cases hx
end Go.Proofs.YtpnkemogepoioaaGreatDoorW.Ex
