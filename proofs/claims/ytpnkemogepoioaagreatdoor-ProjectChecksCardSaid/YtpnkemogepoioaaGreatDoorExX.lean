/- A symbolic executor for the machine's code: functions that panic. General over the program; no conditions beside those in each theorem. -/
import Derived.Test.YtpnkemogepoioaaGreatDoorExR
namespace Go.Proofs.YtpnkemogepoioaaGreatDoorW.Ex
set_option linter.all false
open Go
variable {P:Program} {G:Nat→List AV} {T:TT} {N p:Nat}
theorem Dn.mono {K K':World→Prop} {ch:List PanicEntry} {r:Result Next} (h:Dn P K ch r) (hk:∀w,K w→K' w):Dn P K' ch r:=by
 unfold Dn at*
 split at h
 ·exact Calls.mono h (fun e w' ⟨he,hK⟩=>⟨he,hk _ hK⟩)
 exact h.elim
theorem FCalls.frame {f:FuncId} {xs0 xs:List AV} {r n:Nat} {O objs:Objs} {ι ρ:Nat→Nat} {ch:List PanicEntry} (h:FCalls P G f xs0 ⟨r,O⟩ ch)
 (hxl:xs.length=xs0.length) (hxs:∀(i:Nat) (a:AV),xs0[i]? =some a→∃b,xs[i]? =some b∧Mvd ι ρ r a b)
 (hO:∀(j s:Nat) (o:Obj),O[j]? =some (s,o)→(o.live || o.ghost)=true∧s < r∧objs[ι j]? =some (ρ s,o.mv ι ρ)∧o.un r=true)
 (hι:∀j j',j < O.length→j' < O.length→ι j=ι j'→j=j') (hρ:∀s,s < r→ρ s < n):
 FCalls P G f xs ⟨n,objs⟩ ch:=by
 intro w S F β vs hH hv
 have hnF:∀(j s:Nat) (o:Obj),O[j]? =some (s,o)→o.live=true→¬S (β (ρ s))∧¬F (β (ρ s))∧β (ρ s) < w.heap.size:=by
  intro j s o hj h1
  obtain ⟨_,h2,h3,h4⟩:=hO j s o hj
  have hor:=hH.obj _ _ _ h3
  have hl:(o.mv ι ρ).live=true:=by rw [qbr];exact h1
  exact ⟨(hor.notS hl).1,(hor.notS hl).2,hor.lt hl⟩
 have hF0:∀k,F k→k < w.heap.size∧∀(j s:Nat) (o:Obj),O[j]? =some (s,o)→o.live=true→k≠β (ρ s):=fun k hk=>⟨hH.ltf k hk,fun j s o hj hv e=>(hnF j s o hj hv).2.1 (e ▸ hk)⟩
 have h0:HR G w S (fun k=>k < w.heap.size∧∀(j s:Nat) (o:Obj),O[j]? =some (s,o)→o.live=true→k≠β (ρ s)) (fun s=>β (ρ s)) ⟨r,O⟩:=by
  refine ⟨hH.lts,fun k hk=>hk.1,fun g=>(hH.glob g).pure (.rptr _),fun i s o hi=>(hO i s o hi).2.1,fun i j si sj oi oj hi hj hne h1 h2=> ?_,fun i s o hi=> ?_⟩
  ·obtain ⟨a1,a2,a3,_⟩:=hO i si oi hi
   obtain ⟨b1,b2,b3,_⟩:=hO j sj oj hj
   exact hH.inj _ _ _ _ _ _ a3 b3 (fun e=>hne (hι i j (Ai.1 hi).1 (Ai.1 hj).1 e)) (by rw [qbr];exact h1) (by rw [qbr];exact h2)
  obtain ⟨a1,a2,a3,a4⟩:=hO i s o hi
  cases hl:o.live with
  | true=>exact q9y (fun hk=>hk.2 i s o hi hl rfl) a4 (hH.obj _ _ _ a3)
  | false=>
    rw [hl,Bn] at a1
    cases o with
    | row t cs=>
      cases cs with
      | nil=>exact fun h=>absurd rfl h
      | cons a l=>cases a1
    | _=>cases a1
 have hv0:RVs w S (fun s=>β (ρ s)) r xs0 vs:=⟨by rw [hv.1,hxl],fun i a hi=>by
  obtain ⟨b,hb,hm⟩:=hxs i a hi
  exact q6j hm (hv.2 i b hb)⟩
 refine (h w S _ _ vs h0 hv0).mono ?_
 rintro w' ⟨S',β2,hx2,hl⟩
 exact ⟨S',β,⟨hx2.os,hx2.tape,hx2.output,hx2.size,Ak _,fun _ _=>rfl,hx2.sub,fun k hk=>(hx2.new k hk).imp id (fun h hF=>h (hF0 k hF)),hx2.same,fun k hk=>hx2.fsame k (hF0 k hk),hx2.shape⟩,hl⟩
theorem q4q (ids st:List Nat) {f:FuncId} {xs0 xs:List AV} {r n:Nat} {O O1 objs:Objs} {ch:List PanicEntry} (h:FCalls P G f xs0 ⟨r,O⟩ ch) (hids:ids.length=O.length) (hnd:ids.Nodup)
 (hst:st.length=r) (hstn:st.all (fun s=>Nat.blt s n)=true)
 (hxs:mvdL (fun j=>ids.getD j 0) (fun s=>st.getD s 0) r xs0 xs) (hO:frOs r O) (hO1:mvOs (fun j=>ids.getD j 0) (fun s=>st.getD s 0) O O1) (hg:qin ids objs=some O1):FCalls P G f xs ⟨n,objs⟩ ch:=by
 obtain ⟨h1,h2⟩:=qrw _ _ hxs
 refine h.frame (ι:=fun j=>ids.getD j 0) (ρ:=fun s=>st.getD s 0) h1 h2 (fun j s o hj=> ?_) (fun j j' hj hj' e=> ?_) (fun s hs=> ?_)
 ·obtain ⟨a1,a2,a3⟩:=qr7 O hO j s o hj
  have:=(qrx O O1 hO1).2 j s o hj
  obtain ⟨i,e1,e2⟩:=qmb ids O1 hg j _ this
  refine ⟨a1,a2,?_,a3⟩
  simp only [Ax,e1,Bp]
  simpa only [Ax] using e2
 ·rw [←hids] at hj hj'
  simp only [Ax,Aj hj,Aj hj',Bp] at e
  exact (List.getElem_inj hnd).1 e
 rw [←hst] at hs
 simp only [Ax,Aj hs,Bp]
 exact Ap (As.1 hstn _ (B4 hs))
theorem FCalls.ghost {f:FuncId} {xs:List AV} {n:Nat} {objs:Objs} {e:TypeId} {ch:List PanicEntry} (h:FCalls P G f xs ⟨n+1,objs++ [(n, .row e [])]⟩ ch):FCalls P G f xs ⟨n,objs⟩ ch:=by
 intro w S F β vs hH hv
 have rv:∀x v,RV w S β n x v→RV w S β (n+1) x v:=fun x v h=>h.to (Ci _) (fun _ _=>rfl) (fun _ h=>h) (fun _ _=>rfl) (fun _ _ _ h=>h)
 have at_:∀(i s:Nat) (o:Obj),(objs++ [(n,Obj.row e [])])[i]? =some (s,o)→objs[i]? =some (s,o)∨(s=n∧o= .row e []):=by
  intro i s o hi
  rcases Bt i objs.length with h | h
  ·rw [BC h] at hi;exact .inl hi
  rw [Bx h] at hi
  cases hj:i - objs.length with
  | zero=>rw [hj] at hi;simp at hi;exact .inr ⟨hi.1.symm,hi.2.symm⟩
  | succ j=>rw [hj] at hi;simp at hi
 refine (h w S F β vs ⟨hH.lts,hH.ltf,fun g=>⟨rv _ _ (hH.glob g).rv,(hH.glob g).sh⟩,fun i s o hi=> ?_,fun i j si sj oi oj hi hj hne h1 h2=> ?_,fun i s o hi=> ?_⟩ ⟨hv.1,fun i x hi=>rv _ _ (hv.2 i x hi)⟩).mono ?_
 ·rcases at_ i s o hi with h | ⟨rfl,_⟩
  ·exact BQ (hH.ltn i s o h)
  exact B5 _
 ·rcases at_ i si oi hi with h | ⟨_,rfl⟩
  ·rcases at_ j sj oj hj with h' | ⟨_,rfl⟩
   ·exact hH.inj i j si sj oi oj h h' hne h1 h2
   cases h2
  cases h1
 ·rcases at_ i s o hi with h | ⟨_,rfl⟩
  ·exact (hH.obj i s o h).to rv rfl (fun h=>h) (fun h=>h) (fun h=>h)
  exact fun h=>absurd rfl h
 rintro w' ⟨S',β',hx,hl⟩
 exact ⟨S',β',⟨hx.os,hx.tape,hx.output,hx.size,Ak _,fun s hs=>hx.beta s (BQ hs),hx.sub,hx.new,hx.same,hx.fsame,hx.shape⟩,hl⟩
theorem FCalls.wkg {f:FuncId} {xs ys:List AV} {m:Nat} {O O':Objs} {ch:List PanicEntry} (h:FCalls P G f ys ⟨m,O'⟩ ch) (hw:qqv m xs ys) (ho:qmt m O O'):FCalls P G f xs ⟨m,O⟩ ch:=by
 intro w S F β vs hH hv
 obtain ⟨hl,hg⟩:=qok xs ys hw
 refine h w S F β vs ⟨hH.lts,hH.ltf,hH.glob,fun i s o hi=> ?_,fun i j si sj oi oj hi hj hne h1 h2=> ?_,fun i s o hi=> ?_⟩ ⟨by rw [hv.1,hl],fun i y hi=> ?_⟩
 ·obtain ⟨o1,h1,_⟩:=Wy _ _ ho i s o hi
  exact hH.ltn i s o1 h1
 ·obtain ⟨o1,e1,k1⟩:=Wy _ _ ho i si oi hi
  obtain ⟨o2,e2,k2⟩:=Wy _ _ ho j sj oj hj
  exact hH.inj i j si sj o1 o2 e1 e2 hne (qks k1 h1) (qks k2 h2)
 ·obtain ⟨o1,e1,k1⟩:=Wy _ _ ho i s o hi
  have hor:=hH.obj i s o1 e1
  cases o with
  | dead=>trivial
  | froz t cs=>cases (show o1= .froz t cs from k1);exact hor
  | row t cs=>cases (show o1= .row t cs from k1);exact hor
  | var t cs=>
    cases o1 with
    | var t' cs'=>
      obtain ⟨rfl,hw⟩:=k1
      obtain ⟨c,h1,h2,h3,h4,h5⟩:=hor
      refine ⟨c,h1,by rw [h2,(qg1 _ _ hw).1],h3,h4,fun i y hi=> ?_⟩
      obtain ⟨z,hz,hk⟩:=(qg1 _ _ hw).2 i y hi
      exact ⟨(qqw hk).trans (h5 i z hz).1,qqd hk (h5 i z hz).2⟩
    | _=>exact k1.elim
 obtain ⟨z,hz,hk⟩:=hg i y hi
 exact q5d hk (hv.2 i z hz)
structure FC (P:Program) (G:Nat→List AV) (f:FuncId) (xs:List AV) (r:Nat) (O:Objs) (ch:List PanicEntry):Prop where
 call:FCalls P G f xs ⟨r,O⟩ ch
 fr:frOs r O
 cl:clOs O
 xu:xs.all (AV.un r)=true
theorem FC.go {f:FuncId} {xs xs0:List AV} {r n:Nat} {O objs:Objs} {ch:List PanicEntry} (h:FC P G f xs0 r O ch) (ids st:List Nat) (hnd:decide ids.Nodup=true) (hids:ids.length=O.length) (hst:st.length=r) (hstn:st.all (fun s=>Nat.blt s n)=true)
 (hxs:xs0.map (AV.mv (fun j=>ids.getD j 0) (fun s=>st.getD s 0))=xs) (hg:qin ids objs=some (O.map fun q=>(st.getD q.1 0,q.2.mvR (fun j=>ids.getD j 0) (fun s=>st.getD s 0)))):FCalls P G f xs ⟨n,objs⟩ ch:=
 q4q ids st h.call hids (of_decide_eq_true hnd) hst hstn (qrv _ _ hxs h.xu) h.fr (qwa O h.cl) hg
def Kv (ch:List PanicEntry):Exit→Fr→Hp→Prop:=fun e _ _=>e= .panic ch
theorem qk6 {ch:List PanicEntry} {f:Fr} {H:Hp}:∀(k:List Item),(∀i∈k,match i with | .ops _ _ _=>False | _=>True)→QK P G N p (Kv ch) k (.panic ch) f H
 | [],_=>rfl
 | .code c::k,hk=>qoi (by intro h;cases h) (qk6 k (fun i hi=>hk i (AA _ hi)))
 | .blk id::k,hk=>qk6 k (fun i hi=>hk i (AA _ hi))
 | .bar::k,hk=>qk6 k (fun i hi=>hk i (AA _ hi))
 | .inl c::k,hk=>qoi (by intro h;cases h) (qk6 k (fun i hi=>hk i (AA _ hi)))
 | .ops d a o::k,hk=>(hk _ (AX ..)).elim
section
variable {k:List Item} {kn:List Nat} {fr:FT} {n:Nat} {objs:Objs} {all:Array Oper} {o:Oper} {os:List Oper} {dst:Option Tmp} {f:FuncId} {xs:List AV} {ch:List PanicEntry}
theorem zu (h:FCalls P G f xs ⟨n,objs⟩ ch) (hk:qlg k=true:=by exact rfl):Ok P G T N p (Kv ch) (.call f xs dst false all os k kn fr n objs):=by
 unfold Ok
 exact fun _=> .inr (.inr ⟨ch,rfl,h,qk6 k (qal k hk)⟩)
theorem q76 {x:Operand} {t:TypeId} {k':IntKind} {i:Int} (ho:o.op= .panic x) (hx:ev G (frT fr) x= .iface t (.int k' i)) (hk:qlg k=true:=by exact rfl):Ok P G T N p (Kv [{v:= .iface t (.int k' i),recovered:=false}]) (.gen o false all os k kn fr n objs):=by
 unfold Ok
 exact fun _=> .inr (.inr (.inr ⟨x,t,k',i,rfl,ho,hx,qk6 k (qal k hk)⟩))
end
theorem q1l {k:List Item} {kn:List Nat} {fr:FT} {n:Nat} {objs:Objs} {d:Bool} {all:Array Oper} {os:List Oper} {u:Tmp} {t ty:TypeId} {a:Operand} {x:AV} {pos:String} {aft:Array Edge} {Q:Exit→Fr→Hp→Prop} (ht:notIfaceP P t=true) (ha:ev G (frT fr) a=x)
 (hc:Ok P G T N p Q (.go [(u, .iface t x)] (.ops d all os::k) (unkn (some u) kn) fr n objs)):Ok P G T N p Q (.gen ⟨some u, .makeInterface t a,ty,pos,aft,none⟩ d all os k kn fr n objs):=by
 refine qgs (fun _=>rfl) ?_ hc
 simp only [evalOp,ht,if_true,ha]
theorem q1r {T:TT} {f:Nat} {fn:Func} {c:Code} {rs:List ResultVar} {xs:List AV} {m:Nat} {O:Objs} {ch:List PanicEntry} (hcall:∀vs w,(callFunc f vs).run P w= .ok (.enter f vs) w) (hf:P.funcs[f]? =some fn) (hb:fn.body=some c) (hN:fn.ntmps=N) (hle:Nat.ble xs.length N=true)
 (hok:Jj N c=true) (h:Ok P G T N m (Kv ch) (.go (qll 0 xs) [.code c] [] .z m O)):FCalls P G f xs ⟨m,O⟩ ch:=by
 subst hN
 intro w S F β vs hH hv
 rw [hcall]
 show Calls P f vs w _
 have hA:AWp P G fn.ntmps m c (Kv ch) (qby xs) ⟨m,O⟩:=by
  unfold Ok at h
  have:=h (by simp only [wd,hok,Bm])
  rw [qgc] at this
  exact this
 refine calls_of_wp hf hb (wp_mono (hA [] w S F β _ (Ak _) hH (qnr hv (Ap hle))) ?_)
 rintro e a' w' ⟨fr',H',S',β',q,hx1,hp,hH',hf'⟩
 have q:e= .panic ch:=q
 subst q
 exact ⟨hf'.defers,rfl,S',β',hx1,hH'.lts⟩
@[reducible] def exq {E R:Type} {α:Sort _} (ok:R→α) (er:E→α):Except E R→α
  | .ok r=>ok r
  | .error e=>er e
theorem qa9 {R E:Type} {r:Except E R} {flt:E→List PanicEntry} {f:Nat} {fn:Func} {c:Code} {rs:List ResultVar} {xs:List AV} {x:R→AV} {m:Nat} {m':R→Nat} {O:Objs} {O':R→Objs} (hcall:∀vs w,(callFunc f vs).run P w= .ok (.enter f vs) w) (hf:P.funcs[f]? =some fn) (hb:fn.body=some c) (hN:fn.ntmps=N) (hr:fn.results.toList=rs) (hle:Nat.ble xs.length N=true)
 (hok:Jj N c=true) (hfr:frOs m O) (hcl:clOs O) (hun:∀r,unOs (m' r) (O' r)) (hcl':∀r,clOs (O' r)) (hlen:∀r,(O' r).length=O.length) (hm:∀r,Nat.ble m (m' r)=true) (hxu:xs.all (AV.un m)=true) (hyu:∀r,(x r).un (m' r)=true)
 (h:Ok P G T N m (exq (fun r=>Ret P rs (fun y H=>Qq P G m H y (x r) ⟨m' r,O' r⟩)) (fun e=>Kv (flt e)) r) (.go (qll 0 xs) [.code c] [] .z m O)):
 exq (fun r=>AC P G f xs m O (x r) (m' r) (O' r)) (fun e=>FC P G f xs m O (flt e)) r:=by
 cases r with
 | ok r=>exact ⟨Qf hcall hf hb hN hr hle hok h,hfr,hcl,hun r,hcl' r,hlen r,hm r,hxu,hyu r⟩
 | error e=>exact ⟨q1r (rs:=rs) hcall hf hb hN hle hok h,hfr,hcl,hxu⟩
theorem zb9 {T:TT} {N p:Nat} {Q:Exit→Fr→Hp→Prop} {d:Bool} {all:Array Oper} {os:List Oper} {k:List Item} {kn:List Nat} {fr:FT} {n:Nat} {objs:Objs} {u:Tmp} {t:TypeId} {a i:Operand} {ty:TypeId} {pos:String} {aft:Array Edge} {kk vk:IntKind} {l:List (Int × Int)} {j:Int} (E:Env P T)
 (ha:ev G (frT fr) a= .mp kk vk l) (hi:ev G (frT fr) i= .int kk j) (hm:mapP P t kk vk=true)
 (hc:Ok P G T N p Q (.go [(u, .tup [.int vk (mget l j), .bool (mhas l j)])] (.ops d all os::k) (unkn (some u) kn) fr n objs)):Ok P G T N p Q (.gen ⟨some u, .lookup t a i true,ty,pos,aft,none⟩ d all os k kn fr n objs):=by
 refine qgs (fun _=>rfl) ?_ hc
 simp only [evalOp,ha,hi,qm9,hm,and_self,if_true,AP]
def mkz {α:Type} (by_:Nat) (k:Int) (z:α):Option (List α):=if 0≤k∧(by_:Int)*k≤281474976710656∧k≤9223372036854775807 then some (List.replicate k.toNat z) else none
theorem q77 {α:Type} {T:TT} {N p:Nat} {Q:Exit→Fr→Hp→Prop} {d:Bool} {all:Array Oper} {os:List Oper} {k:List Item} {kn:List Nat} {fr:FT} {n:Nat} {objs:Objs} {u:Tmp} {t e:TypeId} {a b:Operand} {ty:TypeId} {pos:String} {aft:Array Edge} {κ κ':IntKind} {j:Int}
 {by_:Nat} {z:α} {C:α→List AV} {y:AV} {r:List α} {it ie:TI} (E:Env P T) (hx:mkz by_ j z=some r) (hd:d=false) (ha:ev G (frT fr) a= .int κ j) (hb:ev G (frT fr) b= .int κ' j)
 (ht:T.get t=some it) (he:it.elem=some (e,1)) (hie:T.get e=some ie) (hz:ie.zero=some [y]) (hy:y.one=true) (hC:C z= [y]) (hby:qgq P e=some by_)
 (hc:Ok P G T N p Q (.go [(u, .bs 1 objs.length n 0 r.length)] (.ops d all os::k) (unkn (some u) kn) fr (n+1) (objs++ [(n, .row e (r.map C).flatten)]))):Ok P G T N p Q (.gen ⟨some u, .makeSlice t a b,ty,pos,aft,none⟩ d all os k kn fr n objs):=by
 unfold mkz at hx
 split at hx
 ·rename_i h
  cases hx
  unfold Ok at hc ⊢
  intro hk
  refine .inr (.inr (.inl ⟨.bs 1 objs.length n 0 j.toNat,Hp.push ⟨n,objs⟩ (.row e (List.replicate j.toNat y)),hd,⟨e,j.toNat,List.replicate j.toNat y,?_,rfl,rfl⟩,?_⟩))
  ·have hb':(P.info? e).map (·.bytes)=some by_:=hby
   simp only [qky,ha,hb,(ti E.hT ht).elem _ he,hb',(ti E.hT hie).zero _ hz]
   rw [if_pos ⟨trivial,h.1,h.2.1,h.2.2,hy⟩]
  have hc:=hc hk
  rw [Ce,List.map_replicate,hC,show (List.replicate j.toNat [y]).flatten=List.replicate j.toNat y from List.flatten_replicate_singleton] at hc
  exact hc
 cases hx
theorem qoe {f:Nat} {xs:List AV} {x:AV} (hcall:∀vs w,(callFunc f vs).run P w= .ok (.enter f vs) w)
 (h:∀w S β n vs,RVs w S β n xs vs→Calls P f vs w fun e w'=>(∃v,e= .returned v∧∀(S':Nat→Prop) β' n',(∀k,w.heap.size≤k→k < w'.heap.size→S' k)→RV w' S' β' n' x v)∧RowKit.Below w.heap.size w w'):Fn P G f xs x:=by
 intro w S β n vs hH hv
 rw [hcall]
 show Calls P f vs w _
 refine (h w S β n vs hv).mono ?_
 rintro e w' ⟨⟨v,rfl,hR⟩,hb⟩
 refine ⟨v,rfl,fun k=>S k∨(w.heap.size≤k∧k < w'.heap.size),⟨hb.os,hb.tape,hb.output,hb.size,Ak _,fun _ _=>rfl,fun _ h=> .inl h,fun k hk=>hk.elim .inl (fun h=> .inr (by show ¬k < w.heap.size;omega)),fun k hk=>hb.block k (hH.lts k hk),fun k hk=>hb.block k hk,fun k y hy=> ?_⟩,
  fun k hk=>hk.elim (fun h=>AU (hH.lts k h) hb.size) (·.2),hR _ β n (fun k h1 h2=> .inr ⟨h1,h2⟩)⟩
 have hlt:k < w.heap.size:=by
  rcases Bt k w.heap.size with h | h
  ·exact h
  unfold World.shape? at hy
  rw [BN h] at hy
  cases hy
 unfold World.shape? at hy ⊢
 rw [hb.block k hlt]
 exact hy
end Go.Proofs.YtpnkemogepoioaaGreatDoorW.Ex
