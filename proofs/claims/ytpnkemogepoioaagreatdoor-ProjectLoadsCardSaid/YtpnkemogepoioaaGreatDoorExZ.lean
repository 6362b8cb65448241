/- A symbolic executor for the machine's code: functions that panic. General over the program; no conditions beside those in each theorem. A symbolic executor for the machine's code: functions that defer a call. General over the program; no conditions beside those in each theorem. -/
import Derived.Test.YtpnkemogepoioaaGreatDoorExR
import Derived.Defers
import Derived.Recover
namespace Go.Proofs.YtpnkemogepoioaaGreatDoorW.Ex
set_option linter.all false
open Go
variable {P:Program} {G:Nat→List AV} {T:TT} {N p:Nat}
theorem Dn.mono {K K':World→Prop} {ch:List PanicEntry} {r:Result Next} (h:Dn P K ch r) (hk:∀w,K w→K' w):Dn P K' ch r:=by
 unfold Dn at*
 split at h
 ·exact Calls.mono h (fun e w' ⟨he,hK⟩=>⟨he,hk _ hK⟩)
 exact h.elim
theorem FCalls.frame {f:FuncId} {xs0 xs:List AV} {r n:Nat} {O objs:Objs} {ι ρ:Nat→Nat} {ch:List PanicEntry} (h:FCalls P G f xs0 ⟨r,O⟩ ch)
 (hxl:xs.length=xs0.length) (hxs:∀(i:Nat) (a:AV),xs0[i]? =some a→∃b,xs[i]? =some b∧Mvd ι ρ r a b)
 (hO:∀(j s:Nat) (o:Obj),O[j]? =some (s,o)→(o.live || o.ghost)=true∧s < r∧objs[ι j]? =some (ρ s,o.mv ι ρ)∧o.un r=true)
 (hι:∀j j',j < O.length→j' < O.length→ι j=ι j'→j=j') (hρ:∀s,s < r→ρ s < n):
 FCalls P G f xs ⟨n,objs⟩ ch:=by
 intro w S F β vs hH hv
 have hnF:∀(j s:Nat) (o:Obj),O[j]? =some (s,o)→o.live=true→¬S (β (ρ s))∧¬F (β (ρ s))∧β (ρ s) < w.heap.size:=by
  intro j s o hj h1
  obtain ⟨_,h2,h3,h4⟩:=hO j s o hj
  have hor:=hH.obj _ _ _ h3
  have hl:(o.mv ι ρ).live=true:=by rw [qam];exact h1
  exact ⟨(hor.notS hl).1,(hor.notS hl).2,hor.lt hl⟩
 have hF0:∀k,F k→k < w.heap.size∧∀(j s:Nat) (o:Obj),O[j]? =some (s,o)→o.live=true→k≠β (ρ s):=fun k hk=>⟨hH.ltf k hk,fun j s o hj hv e=>(hnF j s o hj hv).2.1 (e ▸ hk)⟩
 have h0:HR G w S (fun k=>k < w.heap.size∧∀(j s:Nat) (o:Obj),O[j]? =some (s,o)→o.live=true→k≠β (ρ s)) (fun s=>β (ρ s)) ⟨r,O⟩:=by
  refine ⟨hH.lts,fun k hk=>hk.1,fun g=>(hH.glob g).pure (.rptr _),fun i s o hi=>(hO i s o hi).2.1,fun i j si sj oi oj hi hj hne h1 h2=> ?_,fun i s o hi=> ?_⟩
  ·obtain ⟨a1,a2,a3,_⟩:=hO i si oi hi
   obtain ⟨b1,b2,b3,_⟩:=hO j sj oj hj
   exact hH.inj _ _ _ _ _ _ a3 b3 (fun e=>hne (hι i j (Ah.1 hi).1 (Ah.1 hj).1 e)) (by rw [qam];exact h1) (by rw [qam];exact h2)
  obtain ⟨a1,a2,a3,a4⟩:=hO i s o hi
  cases hl:o.live with
  | true=>exact q74 (fun hk=>hk.2 i s o hi hl rfl) a4 (hH.obj _ _ _ a3)
  | false=>
    rw [hl,BC] at a1
    cases o with
    | row t cs=>
      cases cs with
      | nil=>exact fun h=>absurd rfl h
      | cons a l=>cases a1
    | _=>cases a1
 have hv0:RVs w S (fun s=>β (ρ s)) r xs0 vs:=⟨by rw [hv.1,hxl],fun i a hi=>by
  obtain ⟨b,hb,hm⟩:=hxs i a hi
  exact q4d hm (hv.2 i b hb)⟩
 refine (h w S _ _ vs h0 hv0).mono ?_
 rintro w' ⟨S',β2,hx2,hl⟩
 exact ⟨S',β,⟨hx2.os,hx2.tape,hx2.output,hx2.size,Aj _,fun _ _=>rfl,hx2.sub,fun k hk=>(hx2.new k hk).imp id (fun h hF=>h (hF0 k hF)),hx2.same,fun k hk=>hx2.fsame k (hF0 k hk),hx2.shape⟩,hl⟩
theorem q2k (ids st:List Nat) {f:FuncId} {xs0 xs:List AV} {r n:Nat} {O O1 objs:Objs} {ch:List PanicEntry} (h:FCalls P G f xs0 ⟨r,O⟩ ch) (hids:ids.length=O.length) (hnd:ids.Nodup)
 (hst:st.length=r) (hstn:st.all (fun s=>Nat.blt s n)=true)
 (hxs:mvdL (fun j=>ids.getD j 0) (fun s=>st.getD s 0) r xs0 xs) (hO:frOs r O) (hO1:mvOs (fun j=>ids.getD j 0) (fun s=>st.getD s 0) O O1) (hg:qgh ids objs=some O1):FCalls P G f xs ⟨n,objs⟩ ch:=by
 obtain ⟨h1,h2⟩:=qpg _ _ hxs
 refine h.frame (ι:=fun j=>ids.getD j 0) (ρ:=fun s=>st.getD s 0) h1 h2 (fun j s o hj=> ?_) (fun j j' hj hj' e=> ?_) (fun s hs=> ?_)
 ·obtain ⟨a1,a2,a3⟩:=qpt O hO j s o hj
  have:=(qph O O1 hO1).2 j s o hj
  obtain ⟨i,e1,e2⟩:=qjw ids O1 hg j _ this
  refine ⟨a1,a2,?_,a3⟩
  simp only [Ax,e1,Bo]
  simpa only [Ax] using e2
 ·rw [←hids] at hj hj'
  simp only [Ax,Ak hj,Ak hj',Bo] at e
  exact (List.getElem_inj hnd).1 e
 rw [←hst] at hs
 simp only [Ax,Ak hs,Bo]
 exact Ao (Aw.1 hstn _ (Ci hs))
theorem FCalls.ghost {f:FuncId} {xs:List AV} {n:Nat} {objs:Objs} {e:TypeId} {ch:List PanicEntry} (h:FCalls P G f xs ⟨n+1,objs++ [(n, .row e [])]⟩ ch):FCalls P G f xs ⟨n,objs⟩ ch:=by
 intro w S F β vs hH hv
 have rv:∀x v,RV w S β n x v→RV w S β (n+1) x v:=fun x v h=>h.to (Cj _) (fun _ _=>rfl) (fun _ h=>h) (fun _ _=>rfl) (fun _ _ _ h=>h)
 have at_:∀(i s:Nat) (o:Obj),(objs++ [(n,Obj.row e [])])[i]? =some (s,o)→objs[i]? =some (s,o)∨(s=n∧o= .row e []):=by
  intro i s o hi
  rcases Br i objs.length with h | h
  ·rw [Bx h] at hi;exact .inl hi
  rw [Bu h] at hi
  cases hj:i - objs.length with
  | zero=>rw [hj] at hi;simp at hi;exact .inr ⟨hi.1.symm,hi.2.symm⟩
  | succ j=>rw [hj] at hi;simp at hi
 refine (h w S F β vs ⟨hH.lts,hH.ltf,fun g=>⟨rv _ _ (hH.glob g).rv,(hH.glob g).sh⟩,fun i s o hi=> ?_,fun i j si sj oi oj hi hj hne h1 h2=> ?_,fun i s o hi=> ?_⟩ ⟨hv.1,fun i x hi=>rv _ _ (hv.2 i x hi)⟩).mono ?_
 ·rcases at_ i s o hi with h | ⟨rfl,_⟩
  ·exact BO (hH.ltn i s o h)
  exact BT _
 ·rcases at_ i si oi hi with h | ⟨_,rfl⟩
  ·rcases at_ j sj oj hj with h' | ⟨_,rfl⟩
   ·exact hH.inj i j si sj oi oj h h' hne h1 h2
   cases h2
  cases h1
 ·rcases at_ i s o hi with h | ⟨_,rfl⟩
  ·exact (hH.obj i s o h).to rv rfl (fun h=>h) (fun h=>h) (fun h=>h)
  exact fun h=>absurd rfl h
 rintro w' ⟨S',β',hx,hl⟩
 exact ⟨S',β',⟨hx.os,hx.tape,hx.output,hx.size,Aj _,fun s hs=>hx.beta s (BO hs),hx.sub,hx.new,hx.same,hx.fsame,hx.shape⟩,hl⟩
theorem FCalls.wkg {f:FuncId} {xs ys:List AV} {m:Nat} {O O':Objs} {ch:List PanicEntry} (h:FCalls P G f ys ⟨m,O'⟩ ch) (hw:qod m xs ys) (ho:qkg m O O'):FCalls P G f xs ⟨m,O⟩ ch:=by
 intro w S F β vs hH hv
 obtain ⟨hl,hg⟩:=ql0 xs ys hw
 refine h w S F β vs ⟨hH.lts,hH.ltf,hH.glob,fun i s o hi=> ?_,fun i j si sj oi oj hi hj hne h1 h2=> ?_,fun i s o hi=> ?_⟩ ⟨by rw [hv.1,hl],fun i y hi=> ?_⟩
 ·obtain ⟨o1,h1,_⟩:=Ku _ _ ho i s o hi
  exact hH.ltn i s o1 h1
 ·obtain ⟨o1,e1,k1⟩:=Ku _ _ ho i si oi hi
  obtain ⟨o2,e2,k2⟩:=Ku _ _ ho j sj oj hj
  exact hH.inj i j si sj o1 o2 e1 e2 hne (qig k1 h1) (qig k2 h2)
 ·obtain ⟨o1,e1,k1⟩:=Ku _ _ ho i s o hi
  have hor:=hH.obj i s o1 e1
  cases o with
  | dead=>trivial
  | froz t cs=>cases (show o1= .froz t cs from k1);exact hor
  | row t cs=>cases (show o1= .row t cs from k1);exact hor
  | var t cs=>
    cases o1 with
    | var t' cs'=>
      obtain ⟨rfl,hw⟩:=k1
      obtain ⟨c,h1,h2,h3,h4,h5⟩:=hor
      refine ⟨c,h1,by rw [h2,(qe1 _ _ hw).1],h3,h4,fun i y hi=> ?_⟩
      obtain ⟨z,hz,hk⟩:=(qe1 _ _ hw).2 i y hi
      exact ⟨(qoe hk).trans (h5 i z hz).1,qnt hk (h5 i z hz).2⟩
    | _=>exact k1.elim
 obtain ⟨z,hz,hk⟩:=hg i y hi
 exact q25 hk (hv.2 i z hz)
structure FC (P:Program) (G:Nat→List AV) (f:FuncId) (xs:List AV) (r:Nat) (O:Objs) (ch:List PanicEntry):Prop where
 call:FCalls P G f xs ⟨r,O⟩ ch
 fr:frOs r O
 cl:clOs O
 xu:xs.all (AV.un r)=true
theorem FC.go {f:FuncId} {xs xs0:List AV} {r n:Nat} {O objs:Objs} {ch:List PanicEntry} (h:FC P G f xs0 r O ch) (ids st:List Nat) (hnd:decide ids.Nodup=true) (hids:ids.length=O.length) (hst:st.length=r) (hstn:st.all (fun s=>Nat.blt s n)=true)
 (hxs:xs0.map (AV.mv (fun j=>ids.getD j 0) (fun s=>st.getD s 0))=xs) (hg:qgh ids objs=some (O.map fun q=>(st.getD q.1 0,q.2.mvR (fun j=>ids.getD j 0) (fun s=>st.getD s 0)))):FCalls P G f xs ⟨n,objs⟩ ch:=
 q2k ids st h.call hids (of_decide_eq_true hnd) hst hstn (qpf _ _ hxs h.xu) h.fr (qtz O h.cl) hg
def Yq (ch:List PanicEntry):Exit→Fr→Hp→Prop:=fun e _ _=>e= .panic ch
theorem qix {ch:List PanicEntry} {f:Fr} {H:Hp}:∀(k:List Item),(∀i∈k,match i with | .ops _ _ _=>False | _=>True)→QK P G N p (Yq ch) k (.panic ch) f H
 | [],_=>rfl
 | .code c::k,hk=>qlx (by intro h;cases h) (qix k (fun i hi=>hk i (Ay _ hi)))
 | .blk id::k,hk=>qix k (fun i hi=>hk i (Ay _ hi))
 | .bar::k,hk=>qix k (fun i hi=>hk i (Ay _ hi))
 | .inl c::k,hk=>qlx (by intro h;cases h) (qix k (fun i hi=>hk i (Ay _ hi)))
 | .ops d a o::k,hk=>(hk _ (AK ..)).elim
section
variable {k:List Item} {kn:List Nat} {fr:FT} {n:Nat} {objs:Objs} {all:Array Oper} {o:Oper} {os:List Oper} {dst:Option Tmp} {f:FuncId} {xs:List AV} {ch:List PanicEntry}
theorem zi (h:FCalls P G f xs ⟨n,objs⟩ ch) (hk:qi7 k=true:=by exact rfl):Ok P G T N p (Yq ch) (.call f xs dst false all os k kn fr n objs):=by
 unfold Ok
 exact fun _=> .inr (.inr ⟨ch,rfl,h,qix k (Wm k hk)⟩)
theorem q50 {x:Operand} {t:TypeId} {k':IntKind} {i:Int} (ho:o.op= .panic x) (hx:ev G (frT fr) x= .iface t (.int k' i)) (hk:qi7 k=true:=by exact rfl):Ok P G T N p (Yq [{v:= .iface t (.int k' i),recovered:=false}]) (.gen o false all os k kn fr n objs):=by
 unfold Ok
 exact fun _=> .inr (.inr (.inr ⟨x,t,k',i,rfl,ho,hx,qix k (Wm k hk)⟩))
end
theorem qy3 {k:List Item} {kn:List Nat} {fr:FT} {n:Nat} {objs:Objs} {d:Bool} {all:Array Oper} {os:List Oper} {u:Tmp} {t ty:TypeId} {a:Operand} {x:AV} {pos:String} {aft:Array Edge} {Q:Exit→Fr→Hp→Prop} (ht:notIfaceP P t=true) (ha:ev G (frT fr) a=x)
 (hc:Ok P G T N p Q (.go [(u, .iface t x)] (.ops d all os::k) (unkn (some u) kn) fr n objs)):Ok P G T N p Q (.gen ⟨some u, .makeInterface t a,ty,pos,aft,none⟩ d all os k kn fr n objs):=by
 refine qdy (fun _=>rfl) ?_ hc
 simp only [evalOp,ht,if_true,ha]
theorem qy6 {T:TT} {f:Nat} {fn:Func} {c:Code} {rs:List ResultVar} {xs:List AV} {m:Nat} {O:Objs} {ch:List PanicEntry} (hcall:∀vs w,(callFunc f vs).run P w= .ok (.enter f vs) w) (hf:P.funcs[f]? =some fn) (hb:fn.body=some c) (hN:fn.ntmps=N) (hle:Nat.ble xs.length N=true)
 (hok:Zn N c=true) (h:Ok P G T N m (Yq ch) (.go (qjb 0 xs) [.code c] [] .z m O)):FCalls P G f xs ⟨m,O⟩ ch:=by
 subst hN
 intro w S F β vs hH hv
 rw [hcall]
 show Calls P f vs w _
 have hA:AWp P G fn.ntmps m c (Yq ch) (qas xs) ⟨m,O⟩:=by
  unfold Ok at h
  have:=h (by simp only [wa,hok,Bm])
  rw [qef] at this
  exact this
 refine calls_of_wp hf hb (wp_mono (hA [] w S F β _ (Aj _) hH (qlb hv (Ao hle))) ?_)
 rintro e a' w' ⟨fr',H',S',β',q,hx1,hp,hH',hf'⟩
 have q:e= .panic ch:=q
 subst q
 exact ⟨hf'.defers,rfl,S',β',hx1,hH'.lts⟩
@[reducible] def exq {E R:Type} {α:Sort _} (ok:R→α) (er:E→α):Except E R→α
  | .ok r=>ok r
  | .error e=>er e
theorem W6 {R E:Type} {r:Except E R} {flt:E→List PanicEntry} {f:Nat} {fn:Func} {c:Code} {rs:List ResultVar} {xs:List AV} {x:R→AV} {m:Nat} {m':R→Nat} {O:Objs} {O':R→Objs} (hcall:∀vs w,(callFunc f vs).run P w= .ok (.enter f vs) w) (hf:P.funcs[f]? =some fn) (hb:fn.body=some c) (hN:fn.ntmps=N) (hr:fn.results.toList=rs) (hle:Nat.ble xs.length N=true)
 (hok:Zn N c=true) (hfr:frOs m O) (hcl:clOs O) (hun:∀r,unOs (m' r) (O' r)) (hcl':∀r,clOs (O' r)) (hlen:∀r,(O' r).length=O.length) (hm:∀r,Nat.ble m (m' r)=true) (hxu:xs.all (AV.un m)=true) (hyu:∀r,(x r).un (m' r)=true)
 (h:Ok P G T N m (exq (fun r=>Ret P rs (fun y H=>vj P G m H y (x r) ⟨m' r,O' r⟩)) (fun e=>Yq (flt e)) r) (.go (qjb 0 xs) [.code c] [] .z m O)):
 exq (fun r=>AC P G f xs m O (x r) (m' r) (O' r)) (fun e=>FC P G f xs m O (flt e)) r:=by
 cases r with
 | ok r=>exact ⟨ku hcall hf hb hN hr hle hok h,hfr,hcl,hun r,hcl' r,hlen r,hm r,hxu,hyu r⟩
 | error e=>exact ⟨qy6 (rs:=rs) hcall hf hb hN hle hok h,hfr,hcl,hxu⟩
theorem za7 {T:TT} {N p:Nat} {Q:Exit→Fr→Hp→Prop} {d:Bool} {all:Array Oper} {os:List Oper} {k:List Item} {kn:List Nat} {fr:FT} {n:Nat} {objs:Objs} {u:Tmp} {t:TypeId} {a i:Operand} {ty:TypeId} {pos:String} {aft:Array Edge} {kk vk:IntKind} {l:List (Int × Int)} {j:Int} (E:Env P T)
 (ha:ev G (frT fr) a= .mp kk vk l) (hi:ev G (frT fr) i= .int kk j) (hm:mapP P t kk vk=true)
 (hc:Ok P G T N p Q (.go [(u, .tup [.int vk (mget l j), .bool (mhas l j)])] (.ops d all os::k) (unkn (some u) kn) fr n objs)):Ok P G T N p Q (.gen ⟨some u, .lookup t a i true,ty,pos,aft,none⟩ d all os k kn fr n objs):=by
 refine qdy (fun _=>rfl) ?_ hc
 simp only [evalOp,ha,hi,qku,hm,and_self,if_true,Ba]
def mkz {α:Type} (by_:Nat) (k:Int) (z:α):Option (List α):=if 0≤k∧(by_:Int)*k≤281474976710656∧k≤9223372036854775807 then some (List.replicate k.toNat z) else none
theorem q51 {α:Type} {T:TT} {N p:Nat} {Q:Exit→Fr→Hp→Prop} {d:Bool} {all:Array Oper} {os:List Oper} {k:List Item} {kn:List Nat} {fr:FT} {n:Nat} {objs:Objs} {u:Tmp} {t e:TypeId} {a b:Operand} {ty:TypeId} {pos:String} {aft:Array Edge} {κ κ':IntKind} {j:Int}
 {by_:Nat} {z:α} {C:α→List AV} {y:AV} {r:List α} {it ie:TI} (E:Env P T) (hx:mkz by_ j z=some r) (hd:d=false) (ha:ev G (frT fr) a= .int κ j) (hb:ev G (frT fr) b= .int κ' j)
 (ht:T.get t=some it) (he:it.elem=some (e,1)) (hie:T.get e=some ie) (hz:ie.zero=some [y]) (hy:y.one=true) (hC:C z= [y]) (hby:qdv P e=some by_)
 (hc:Ok P G T N p Q (.go [(u, .bs 1 objs.length n 0 r.length)] (.ops d all os::k) (unkn (some u) kn) fr (n+1) (objs++ [(n, .row e (r.map C).flatten)]))):Ok P G T N p Q (.gen ⟨some u, .makeSlice t a b,ty,pos,aft,none⟩ d all os k kn fr n objs):=by
 unfold mkz at hx
 split at hx
 ·rename_i h
  cases hx
  unfold Ok at hc ⊢
  intro hk
  refine .inr (.inr (.inl ⟨.bs 1 objs.length n 0 j.toNat,Hp.push ⟨n,objs⟩ (.row e (List.replicate j.toNat y)),hd,⟨e,j.toNat,List.replicate j.toNat y,?_,rfl,rfl⟩,?_⟩))
  ·have hb':(P.info? e).map (·.bytes)=some by_:=hby
   simp only [qim,ha,hb,(ti E.hT ht).elem _ he,hb',(ti E.hT hie).zero _ hz]
   rw [if_pos ⟨trivial,h.1,h.2.1,h.2.2,hy⟩]
  have hc:=hc hk
  rw [BX,List.map_replicate,hC,show (List.replicate j.toNat [y]).flatten=List.replicate j.toNat y from List.flatten_replicate_singleton] at hc
  exact hc
 cases hx
theorem qlu {f:Nat} {xs:List AV} {x:AV} (hcall:∀vs w,(callFunc f vs).run P w= .ok (.enter f vs) w)
 (h:∀w S β n vs,RVs w S β n xs vs→Calls P f vs w fun e w'=>(∃v,e= .returned v∧∀(S':Nat→Prop) β' n',(∀k,w.heap.size≤k→k < w'.heap.size→S' k)→RV w' S' β' n' x v)∧RowKit.Below w.heap.size w w'):Fn P G f xs x:=by
 intro w S β n vs hH hv
 rw [hcall]
 show Calls P f vs w _
 refine (h w S β n vs hv).mono ?_
 rintro e w' ⟨⟨v,rfl,hR⟩,hb⟩
 refine ⟨v,rfl,fun k=>S k∨(w.heap.size≤k∧k < w'.heap.size),⟨hb.os,hb.tape,hb.output,hb.size,Aj _,fun _ _=>rfl,fun _ h=> .inl h,fun k hk=>hk.elim .inl (fun h=> .inr (by show ¬k < w.heap.size;omega)),fun k hk=>hb.block k (hH.lts k hk),fun k hk=>hb.block k hk,fun k y hy=> ?_⟩,
  fun k hk=>hk.elim (fun h=>AU (hH.lts k h) hb.size) (·.2),hR _ β n (fun k h1 h2=> .inr ⟨h1,h2⟩)⟩
 have hlt:k < w.heap.size:=by
  rcases Br k w.heap.size with h | h
  ·exact h
  unfold World.shape? at hy
  rw [BN h] at hy
  cases hy
 unfold World.shape? at hy ⊢
 rw [hb.block k hlt]
 exact hy
end Go.Proofs.YtpnkemogepoioaaGreatDoorW.Ex

namespace Go.Proofs.YtpnkemogepoioaaGreatDoorW.Ex
set_option linter.all false
open Go
variable {D:List Deferred}
variable {P:Program} {G:Nat→List AV} {T:TT} {N p:Nat} {w:World} {S F:Nat→Prop} {β:Nat→Nat} {n:Nat}
theorem qoa {x y:Code} {R:Exit→Act→World→Prop} {K:Fr→Hp→Prop} {Q:Exit→Fr→Hp→Prop} {fr:Fr} {H:Hp} {a:Act}
 (h:AWp P G N p x (Wq K Q) fr H) (hp:p≤H.n) (hH:HR G w S F β H) (hf:FRx D w S β H.n N fr a)
 (hn:∀fr' H' w' S' β' a',K fr' H'→Ext w S F β p w' S' β' p→p≤H'.n→HR G w' S' F β' H'→FRx D w' S' β' H'.n N fr' a'→y.wp P R a' w')
 (he:∀e fr' H' w' S' β' a',e≠ .normal→Q e fr' H'→Ext w S F β p w' S' β' p→p≤H'.n→HR G w' S' F β' H'→FRx D w' S' β' H'.n N fr' a'→R e a' w'):(Code.seq x y).wp P R a w:=by
 refine wp_seq (wp_mono (h D w S F β a hp hH hf) ?_)
 rintro e a' w' ⟨fr',H',S',β',q,hx,hp',hH',hf'⟩
 cases e with
 | normal=>exact hn _ _ _ _ _ _ q hx hp' hH' hf'
 | _=>exact he _ _ _ _ _ _ _ (by simp) q hx hp' hH' hf'
theorem q73 {a:Nat→Value}:∀(ps:List (Nat × AV)) (g:Fr),(∀t,RV w S β n (g t) (a t))→(∀q∈ps,RV w S β n q.2 (a q.1))→∀t,RV w S β n (puts ps g t) (a t)
 | [],g,hg,_=>hg
 | (u,x)::ps,g,hg,hq=>q73 ps (put (some u) x g) (fun t=>by
     rw [ur]
     split
     ·rename_i e;rw [e];exact hq (u,x) (AK ..)
     exact hg t) (fun q hm=>hq q (Ay _ hm))
theorem FRx.of (ps:List (Nat × AV)) {a:Act} (h1:a.tmps.size=N) (h2:a.defers=D) (hq:∀q∈ps,RV w S β n q.2 (a.tmps.getD q.1 Go.undef)):FRx D w S β n N (puts ps (frT .z)) a:=
 ⟨h1,h2,q73 ps _ (fun t=> .undef _) hq⟩
theorem FRx.some {fr:Fr} {a:Act} (h:FRx D w S β n N fr a) (ps:List (Nat × AV)) (hq:∀q∈ps,fr q.1=q.2):∀q∈ps,RV w S β n q.2 (a.tmps.getD q.1 Go.undef):=fun q hm=>by
 rw [←hq q hm];exact h.val _
theorem HR.hide {H:Hp} (h:HR G w S F β H):HR G w S (fun b=>F b∨∃(i s:Nat) (o:Obj),H.objs[i]? =some (s,o)∧o.live=true∧b=β s) β ⟨H.n, []⟩:=
 ⟨h.lts,fun k hk=>by
   rcases hk with hk | ⟨i,s,o,hi,hl,rfl⟩
   ·exact h.ltf k hk
   exact (h.obj i s o hi).lt hl,h.glob,by simp,by simp,by simp⟩
theorem HR.unhide {H:Hp} {w':World} {S':Nat→Prop} {β':Nat→Nat} (h:HR G w S F β H) (hx:Ext w S (fun b=>F b∨∃(i s:Nat) (o:Obj),H.objs[i]? =some (s,o)∧o.live=true∧b=β s) β H.n w' S' β' H.n) (hlt:∀k,S' k→k < w'.heap.size):
 Ext w S F β H.n w' S' β' H.n∧HR G w' S' F β' H:=by
 have hx0:Ext w S F β H.n w' S' β' H.n:=⟨hx.os,hx.tape,hx.output,hx.size,hx.le,hx.beta,hx.sub,fun k hk=>(hx.new k hk).imp id (fun h hF=>h (.inl hF)),hx.same,fun k hk=>hx.fsame k (.inl hk),hx.shape⟩
 refine ⟨hx0,hlt,fun k hk=>AU (h.ltf k hk) hx.size,fun g=>(h.glob g).ext hx0,h.ltn,fun i j si sj oi oj hi hj hne h1 h2=> ?_,fun i s o hi=> ?_⟩
 ·rw [hx.beta _ (h.ltn i si oi hi),hx.beta _ (h.ltn j sj oj hj)]
  exact h.inj i j si sj oi oj hi hj hne h1 h2
 rw [hx.beta _ (h.ltn i s o hi)]
 have ho:=h.obj i s o hi
 cases hl:o.live with
 | false=>
   cases o with
   | dead=>trivial
   | var t cs=>cases hl
   | row t cs=>exact OR.nil hl
   | froz t cs=>
     have hS:=ho
     obtain ⟨_,_,_,_,hS,_⟩:=hS
     exact ho.to (fun _ _=>RV.ext hx0) (hx.same _ hS) (fun h=>absurd hS h) (hx.sub _) (fun h=>h)
 | true=>
   have hF:F (β s)∨∃(i' s':Nat) (o':Obj),H.objs[i']? =some (s',o')∧o'.live=true∧β s=β s':= .inr ⟨i,s,o,hi,hl,rfl⟩
   exact ho.to (fun _ _=>RV.ext hx0) (hx.fsame _ hF) (fun hS hS'=>(hx.new _ hS').elim hS (fun h=>h hF)) (hx.sub _) (fun h=>h)
theorem qli {Q:Exit→Fr→Hp→Prop} {x:Code} {k:List Item} {ps:List (Nat × AV)} {kn:List Nat} {fr:FT} {objs:Objs} (hok:wa N (.code x::k)=true) (h:Ok P G T N p Q (.go ps (.code x::k) kn fr n objs)):
 AWp P G N p x (QK P G N p Q k) (puts ps (frT fr)) ⟨n,objs⟩:=by
 unfold Ok at h
 exact h hok
theorem q09 {Q:Exit→Fr→Hp→Prop} {fr:FT} {objs:Objs} {K0:Fr→Hp→Prop} (h:K0 (frT fr) ⟨n,objs⟩):Ok P G T N p (Wq K0 Q) (.fin .normal [] fr n objs):=by
 unfold Ok
 intro _
 exact h
theorem qqk {Q:Exit→Fr→Hp→Prop} {ch:List PanicEntry} {f:Fr} {H:Hp} (h:Q (.panic ch) f H):∀(k:List Item),(∀i∈k,match i with | .ops _ _ _=>False | _=>True)→QK P G N p Q k (.panic ch) f H
 | [],_=>h
 | .code c::k,hk=>qlx (by intro h;cases h) (qqk h k (fun i hi=>hk i (Ay _ hi)))
 | .blk id::k,hk=>qqk h k (fun i hi=>hk i (Ay _ hi))
 | .bar::k,hk=>qqk h k (fun i hi=>hk i (Ay _ hi))
 | .inl c::k,hk=>qlx (by intro h;cases h) (qqk h k (fun i hi=>hk i (Ay _ hi)))
 | .ops d a o::k,hk=>(hk _ (AK ..)).elim
theorem q2t {Q:Exit→Fr→Hp→Prop} {ch:List PanicEntry} {k:List Item} {kn:List Nat} {fr:FT} {objs:Objs} {all:Array Oper} {os:List Oper} {dst:Option Tmp} {f:FuncId} {xs:List AV}
 (h:FCalls P G f xs ⟨n,objs⟩ ch) (hQ:Q (.panic ch) (frT fr) ⟨n, []⟩) (hk:qi7 k=true:=by exact rfl):Ok P G T N p Q (.call f xs dst false all os k kn fr n objs):=by
 unfold Ok
 exact fun _=> .inr (.inr ⟨ch,rfl,h,qqk hQ k (Wm k hk)⟩)
theorem qm1 {K:Fr→Hp→Prop} {Q:Exit→Fr→Hp→Prop} {e:Exit} {fr:Fr} {H:Hp} (he:e≠ .normal) (h:Wq K Q e fr H):Q e fr H:=by
 cases e <;> first | exact absurd rfl he | exact h
theorem AC.plain {f:FuncId} {xs:List AV} {x:AV} (h:ACalls P G f xs ⟨0, []⟩ x ⟨0, []⟩) (hxu:xs.all (AV.un 0)=true) (hyu:x.un 0=true):AC P G f xs 0 [] x 0 []:=
 ⟨h,j3,zg,j6,zg,rfl,rfl,hxu,hyu⟩
def q3j (n:Nat) (objs:Objs):OpR→Option (AV × Nat × Objs)
 | .no=>none
 | .val x=>some (x,n,objs)
 | .lst sz full l=>some (.sl sz full l,n,objs)
 | .push o=>some (.ptr objs.length n 0,n+1,objs++ [(n,o)])
 | .store id s o=>some (.undef,n,objs.set id (s,o))
def seqO {α:Type}:List Nat→(Nat→Option (List α))→Option (List α)
 | [],_=>some []
 | i::is,f=>match f i,seqO is f with
   | some l,some r=>some (l++r)
   | _,_=>none
def anyO (T:TT) (G:Nat→List AV) (ops:Array Oper) (leaf:FT→Nat→Objs→Option AV):Nat→Array Bool→FT→Nat→Objs→Option (List AV)
 | 0,listed,fr,n,objs=>match Region.ready .any ops listed with
   | []=>(leaf fr n objs).map fun z=> [z]
   | _=>none
 | m + 1,listed,fr,n,objs=>match Region.ready .any ops listed with
   | []=>(leaf fr n objs).map fun z=> [z]
   | is =>seqO is fun i=>match ops[i]? with
     | some o=>match o.guard,q3j n objs (opR T [] (ev G (frT fr)) objs o.op) with
       | none,some (x,n',objs')=>setD o.dst fr x fun fr'=>anyO T G ops leaf m (listed.setIfInBounds i true) fr' n' objs'
       | _,_=>none
     | none=>none
def anyS (T:TT) (G:Nat→List AV) (ops:Array Oper) (leaf:FT→Nat→Objs→Option AV):List (Nat × AV)→FT→Nat→Objs→Option (List AV)
 | [],fr,n,objs=>anyO T G ops leaf ops.size (Array.replicate ops.size false) fr n objs
 | (t,x)::ps,fr,n,objs=>FT.setK 10 fr t x fun fr=>anyS T G ops leaf ps fr n objs
theorem qzl {α:Type} {f:Nat→Option (List α)}:∀(is:List Nat) (L:List α),seqO is f=some L→∀i∈is,∃l,f i=some l∧∀z∈l,z∈L
 | [],_,_,i,hi=>by cases hi
 | j ::is,L,h,i,hi=>by
   simp only [seqO] at h
   split at h
   ·rename_i l r h1 h2
    simp only [Ab] at h;subst h
    rcases AE.1 hi with rfl | hi
    ·exact ⟨l,h1,fun z hz=>B1 _ hz⟩
    obtain ⟨l',h3,h4⟩:=qzl is r h2 i hi
    exact ⟨l',h3,fun z hz=>List.mem_append_right _ (h4 z hz)⟩
   cases h
theorem q3i {fr:FT} {objs:Objs} {op:Op} {x:AV} {n':Nat} {objs':Objs} (hT:T.ok P fun t=>t) (h:q3j n objs (opR T [] (ev G (frT fr)) objs op)=some (x,n',objs')):evalOp P G (frT fr) ⟨n,objs⟩ op=some (x,⟨n',objs'⟩):=by
 have hop:=q39 (G:=G) hT (n:=n) (objs:=objs) (fr:=frT fr) (kn:= []) (op:=op)
 generalize opR T [] (ev G (frT fr)) objs op=r at h hop
 cases r <;> simp only [q3j,Ab,Al] at h
 ·cases h
 all_goals (obtain ⟨rfl,rfl,rfl⟩:=h;exact hop)
theorem q7k {ops:Array Oper} {leaf:FT→Nat→Objs→Option AV} {K:Fr→Hp→Prop} {Q:Exit→Act→World→Prop} {L0:List AV} (hT:T.ok P fun t=>t) (hd:ops.toList.all (fun o=>o.dst.all (· < N))=true)
 (hK:∀z∈L0,∀fr n objs,leaf fr n objs=some z→K (frT fr) ⟨n,objs⟩):
 ∀ (m:Nat) (listed:Array Bool) (fr:FT) (n:Nat) (objs:Objs) (L:List AV) (a:Act) (w:World) (S:Nat→Prop) (β:Nat→Nat),anyO T G ops leaf m listed fr n objs=some L→(∀z∈L,z∈L0)→HR G w S F β ⟨n,objs⟩→FRx D w S β n N (frT fr) a→
   (∀fr' H' a' w' S' β',K fr' H'→Ext w S F β n w' S' β' H'.n→HR G w' S' F β' H'→FRx D w' S' β' H'.n N fr' a'→Q .normal a' w')→wpAny P .any ops Q m listed a w:=by
 intro m
 induction m with
 | zero=>
   intro listed fr n objs L a w S β h hL hH hf hq
   simp only [anyO] at h
   split at h
   ·rename_i hr
    obtain ⟨z,hz,rfl⟩:=Am.1 h
    exact ⟨hr,hq _ _ a w S β (hK z (hL z (AO.2 rfl)) fr n objs hz) (.refl ..) hH hf⟩
   cases h
 | succ m ih=>
   intro listed fr n objs L a w S β h hL hH hf hq
   simp only [anyO] at h
   split at h
   ·rename_i hr
    obtain ⟨z,hz,rfl⟩:=Am.1 h
    refine ⟨fun _=>hq _ _ a w S β (hK z (hL z (AO.2 rfl)) fr n objs hz) (.refl ..) hH hf,fun i hi=> ?_⟩
    rw [hr] at hi;cases hi
   rename_i is hne
   refine ⟨fun hr=>absurd hr hne,fun i hi=> ?_⟩
   obtain ⟨l,hl,hsub⟩:=qzl _ L h i hi
   unfold wpOp
   cases ho:ops[i]? with
   | none=>rw [ho] at hl;cases hl
   | some o=>
     rw [ho] at hl
     simp only at hl ⊢
     split at hl
     ·rename_i x n' objs' hg hs
      obtain ⟨fr',hfr,hl⟩:=qf4 hl
      have hw:Region.wanted o (yielded ops a.tmps)=true:=by simp [Region.wanted,hg]
      rw [if_pos hw]
      have hev:=q3i (P:=P) hT hs
      refine .inl (qnv (H':=⟨n',objs'⟩) hH hf (qoq hev) (Aw.1 hd o (by rw [Array.mem_toList_iff];exact Cd ho)) (fun a' w' S' β' hx hH' hf'=> ?_))
      rw [←hfr] at hf'
      exact ih _ fr' n' objs' l a' w' S' β' hl (fun z hz=>hL z (hsub z hz)) hH' hf' (fun fr2 H2 a2 w2 S2 β2 k2 hx2 hH2 hf2=>hq fr2 H2 a2 w2 S2 β2 k2 (hx.trans hx2) hH2 hf2)
     cases hl
theorem q0y {ops:Array Oper} {leaf:FT→Nat→Objs→Option AV} {objs:Objs} {L:List AV}:∀(ps:List (Nat × AV)) (fr:FT),anyS T G ops leaf ps fr n objs=some L→∃fr',frT fr'=puts ps (frT fr)∧anyO T G ops leaf ops.size (Array.replicate ops.size false) fr' n objs=some L
 | [],fr,h=>⟨fr,rfl,h⟩
 | (t,x)::ps,fr,h=>by
   simp only [anyS] at h
   obtain ⟨fr1,h1,h2⟩:=FT.setK_ok _ _ _ _ _ h
   obtain ⟨fr2,h3,h4⟩:=q0y ps fr1 h2
   exact ⟨fr2,by rw [h3,h1.put];rfl,h4⟩
theorem q7w {id:Nat} {l:List Oper} {leaf:FT→Nat→Objs→Option AV} {L:List AV} {Q:Exit→Fr→Hp→Prop} {ps:List (Nat × AV)} {objs:Objs} (E:Env P T) (hd:l.all (fun o=>o.dst.all (· < N))=true)
 (h:anyS T G l.toArray leaf ps .z n objs=some L) (hK:∀z∈L,∀fr n objs,leaf fr n objs=some z→Q .normal (frT fr) ⟨n,objs⟩):AWp P G N p (.region id l.toArray true) Q (puts ps (frT .z)) ⟨n,objs⟩:=by
 obtain ⟨fr',hfr,hO⟩:=q0y ps _ h
 rw [←hfr]
 intro D w S F β a hp hH hf
 refine wp_region_any E.hm ?_
 have hx:Ext w S F β n {w with drawn:=w.drawn+1} S β n:=⟨rfl,rfl,rfl,Aj _,Aj _,fun _ _=>rfl,fun _ h=>h,fun _ h=> .inl h,fun _ _=>rfl,fun _ _=>rfl,fun _ _ h=>h⟩
 have hH':HR G {w with drawn:=w.drawn+1} S F β ⟨n,objs⟩:=⟨hH.lts,hH.ltf,fun g=>(hH.glob g).ext hx,hH.ltn,hH.inj,fun i s o hi=>(hH.obj i s o hi).to (fun _ _=>RV.ext hx) rfl (fun h=>h) (fun h=>h) (fun h=>h)⟩
 exact q7k (K:=fun fr H=>Q .normal fr H) E.hT hd hK _ _ fr' n objs L a _ S β hO (fun z hz=>hz) hH' (hf.ext hx) (fun fr2 H2 a2 w2 S2 β2 k2 hx2 hH2 hf2=>⟨fr2,H2,S2,β2,k2,(hx.trans hx2).lower hp,BD hp hx2.le,hH2,hf2⟩)
theorem q2b {fr:Fr} {H:Hp} (ps:List (Nat × AV)) (hq:∀q∈ps,fr q.1=q.2):Less G N p fr H (puts ps (frT .z)) H:=by
 unfold Less
 exact fun D w S F β a hp hH hf=>⟨S,β, .refl ..,hp,hH,FRx.of ps hf.size hf.defers (hf.some ps hq)⟩
theorem q96 {Q:Exit→Fr→Hp→Prop} {c:Code} {k:List Item} {e:Exit} {fr:Fr} {H:Hp} (he:e≠ .normal) (h:QK P G N p Q (.code c::k) e fr H):QK P G N p Q k e fr H:=qm1 he (show Wq (AWp P G N p c (QK P G N p Q k)) (QK P G N p Q k) e fr H from h)
theorem qtp {id u f:Nat} {cs:Array Operand} {ty1 ty2:TypeId} {p1 p2:String} {e1 e2:Array Edge} {R:Exit→Act→World→Prop} {a:Act} (hu:u < a.tmps.size)
 (h:R .normal ⟨a.tmps.setIfInBounds u (.func (.func f) #[] (cs.map a.eval)),{target:= .fn (.func f) (cs.map a.eval),args:= #[]}::a.defers⟩ w):
 (Code.region id #[⟨some u, .makeFunc (.func f) #[] cs,ty1,p1,e1,none⟩,⟨none, .defer ⟨.value (.tmp u), #[], #[]⟩,ty2,p2,e2,none⟩] false).wp P R a w:=by
 have hmf:∀(fn:Go.Fn) (first cap:Array Value) (w:World),(Instr.makeFunc fn first cap).run P w= .ok (.func fn first cap) w:=fun _ _ _ _=>rfl
 refine wp_region_lit (l:= [_,_]) ?_
 have he:(a.put (some u) (.func (.func f) #[] (cs.map a.eval))).eval (.tmp u)= .func (.func f) #[] (cs.map a.eval):=by
  simp [Act.put,Act.eval,hu]
 unfold wpList
 rw [if_pos (by simp [Region.wanted])]
 left
 unfold Oper.wp
 simp only [execOp,Sem.run_bind,Array.map_empty,hmf,Result.andThen_ok,Sem.run_pure,Oper.upon_value]
 unfold wpList
 rw [if_pos (by simp [Region.wanted])]
 left
 unfold Oper.wp
 simp only [execOp,resolve,he,Deferred.ofValue,Sem.run_bind,Sem.run_pure,Result.andThen_ok,Array.map_empty]
 simpa [Oper.upon,Act.put,wpList] using h
end Go.Proofs.YtpnkemogepoioaaGreatDoorW.Ex
