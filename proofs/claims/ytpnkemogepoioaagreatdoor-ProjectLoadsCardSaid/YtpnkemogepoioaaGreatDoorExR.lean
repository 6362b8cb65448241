/- A symbolic executor for the machine's code: what a call that is handed objects leaves and returns, in general: objects that stay, lists that are returned as the caller's own, lists that are only read from then on. Conditions: none beside those in each theorem. -/
import Derived.Test.YtpnkemogepoioaaGreatDoorExO
namespace Go.Proofs.YtpnkemogepoioaaGreatDoorW.Ex
open Go
variable {D:List Deferred}
set_option linter.all false
set_option maxRecDepth 100000
variable {P:Program} {G:Nat→List AV} {T:TT} {N p:Nat}
theorem ACalls.ghost {f:FuncId} {xs:List AV} {y:AV} {n:Nat} {objs:Objs} {e:TypeId} {H':Hp} (h:ACalls P G f xs ⟨n+1,objs++ [(n, .row e [])]⟩ y H'):ACalls P G f xs ⟨n,objs⟩ y H':=by
 intro w S F β vs hH hv
 have rv:∀x v,RV w S β n x v→RV w S β (n+1) x v:=fun x v h=>h.to (Cj _) (fun _ _=>rfl) (fun _ h=>h) (fun _ _=>rfl) (fun _ _ _ h=>h)
 have at_:∀(i s:Nat) (o:Obj),(objs++ [(n,Obj.row e [])])[i]? =some (s,o)→objs[i]? =some (s,o)∨(s=n∧o= .row e []):=by
  intro i s o hi
  rcases Br i objs.length with h | h
  ·rw [Bx h] at hi;exact .inl hi
  rw [Bu h] at hi
  cases hj:i - objs.length with
  | zero=>rw [hj] at hi;simp at hi;exact .inr ⟨hi.1.symm,hi.2.symm⟩
  | succ j=>rw [hj] at hi;simp at hi
 refine (h w S F β vs ⟨hH.lts,hH.ltf,fun g=>⟨rv _ _ (hH.glob g).rv,(hH.glob g).sh⟩,fun i s o hi=> ?_,fun i j si sj oi oj hi hj hne h1 h2=> ?_,fun i s o hi=> ?_⟩ ⟨hv.1,fun i x hi=>rv _ _ (hv.2 i x hi)⟩).mono ?_
 ·rcases at_ i s o hi with h | ⟨rfl,_⟩
  ·exact BO (hH.ltn i s o h)
  exact BT _
 ·rcases at_ i si oi hi with h | ⟨_,rfl⟩
  ·rcases at_ j sj oj hj with h' | ⟨_,rfl⟩
   ·exact hH.inj i j si sj oi oj h h' hne h1 h2
   cases h2
  cases h1
 ·rcases at_ i s o hi with h | ⟨_,rfl⟩
  ·exact (hH.obj i s o h).to rv rfl (fun h=>h) (fun h=>h) (fun h=>h)
  exact fun h=>absurd rfl h
 rintro v w' ⟨S',β',hx,r⟩
 exact ⟨S',β',⟨hx.os,hx.tape,hx.output,hx.size,BD (Cj _) hx.le,fun s hs=>hx.beta s (BO hs),hx.sub,hx.new,hx.same,hx.fsame,hx.shape⟩,r⟩
def wkg1 (m:Nat) (x y:AV):Prop:=wk1 x y∨(∃sz id s,x= .sl 0 true []∧y= .bs sz id s 0 0∧s < m)∨∃id s o,x= .nilp∧y= .optr id s o∧s < m
theorem qoe {m:Nat} {x y:AV} (h:wkg1 m x y):y.one=x.one:=by
 rcases h with h | ⟨sz,id,s,rfl,rfl,_⟩ | ⟨id,s,o,rfl,rfl,_⟩
 ·exact qij h
 ·rfl
 rfl
theorem qnt {w:World} {S:Nat→Prop} {β:Nat→Nat} {m:Nat} {x y:AV} {v:Value} (h:wkg1 m x y) (hv:RV w S β m x v):RV w S β m y v:=by
 rcases h with h | ⟨sz,id,s,rfl,rfl,hs⟩ | ⟨id,s,o,rfl,rfl,hs⟩
 ·exact ql1 h hv
 ·cases hv with
  | sl _ _ _ A cap u hl hm hf hA hA1 hS hsz h1 hc hr hV=>
    have:=hf rfl
    rw [this]
    exact .bs0 sz id s 0 A hs (hV rfl rfl)
 cases hv
 exact .optr id s o _ hs (.inl rfl)
def wkgL (m:Nat):List AV→List AV→Prop
 | [], []=>True
 | x::xs,y::ys=>wkg1 m x y∧wkgL m xs ys
 | _,_=>False
theorem qe1 {m:Nat}:∀(cs ds:List AV),wkgL m cs ds→cs.length=ds.length∧∀(i:Nat) (y:AV),ds[i]? =some y→∃x,cs[i]? =some x∧wkg1 m x y
 | [], [],_=>⟨rfl,by simp⟩
 | [],_::_,h=>h.elim
 | _::_, [],h=>h.elim
 | x::cs,y::ds,h=>by
   obtain ⟨h1,h2⟩:=qe1 cs ds h.2
   refine ⟨by simp [h1],fun i z hi=> ?_⟩
   cases i with
   | zero=>simp at hi;subst hi;exact ⟨x,rfl,h.1⟩
   | succ i=>simpa using h2 i z (by simpa using hi)
def wkg (m:Nat) (x y:AV):Prop:=match y with
 | .agg ds=>(match x with | .agg cs=>wkgL m cs ds | _=>False)
 | y=>wkg1 m x y
def qod (m:Nat):List AV→List AV→Prop
 | [], []=>True
 | x::xs,y::ys=>wkg m x y∧qod m xs ys
 | _,_=>False
theorem q25 {w:World} {S:Nat→Prop} {β:Nat→Nat} {m:Nat} {x y:AV} {v:Value} (h:wkg m x y) (hv:RV w S β m x v):RV w S β m y v:=by
 unfold wkg at h
 split at h
 ·split at h
  ·rename_i ds _ cs
   obtain ⟨hl,hg⟩:=qe1 cs ds h
   cases hv with
   | agg _ vs hs h1 hr=>
     refine .agg ds vs (by rw [hs,hl]) (fun z hz=> ?_) (fun i z hi=> ?_)
     ·obtain ⟨i,hi⟩:=AB hz
      obtain ⟨x,hx,hk⟩:=hg i z hi
      rw [qoe hk];exact h1 x (Af hx)
     obtain ⟨x,hx,hk⟩:=hg i z hi
     exact qnt hk (hr i x hx)
  exact h.elim
 exact qnt h hv
theorem ql0 {m:Nat}:∀(cs ds:List AV),qod m cs ds→cs.length=ds.length∧∀(i:Nat) (y:AV),ds[i]? =some y→∃x,cs[i]? =some x∧wkg m x y
 | [], [],_=>⟨rfl,by simp⟩
 | [],_::_,h=>h.elim
 | _::_, [],h=>h.elim
 | x::cs,y::ds,h=>by
   obtain ⟨h1,h2⟩:=ql0 cs ds h.2
   refine ⟨by simp [h1],fun i z hi=> ?_⟩
   cases i with
   | zero=>simp at hi;subst hi;exact ⟨x,rfl,h.1⟩
   | succ i=>simpa using h2 i z (by simpa using hi)
def wkgO (m:Nat) (o o':Obj):Prop:=match o' with
 | .dead=>True
 | .var t cs=>(match o with | .var t' cs'=>t'=t∧wkgL m cs' cs | _=>False)
 | _=>o=o'
def qkg (m:Nat):Objs→Objs→Prop
 | [], []=>True
 | (s,o)::l,(s',o')::l'=>(s=s'∧wkgO m o o')∧qkg m l l'
 | _,_=>False
theorem Ku {m:Nat}:∀(l l':Objs),qkg m l l'→∀(i s:Nat) (o':Obj),l'[i]? =some (s,o')→∃o,l[i]? =some (s,o)∧wkgO m o o'
 | [], [],_,i,s,o',h=>by simp at h
 | [],_::_,h,_,_,_,_=>h.elim
 | _::_, [],h,_,_,_,_=>h.elim
 | (s,o)::l,(t,q)::l',h,0,s',o',hi=>by
   simp only [Aq,Ab,Al] at hi
   obtain ⟨rfl,rfl⟩:=hi
   exact ⟨o,by rw [h.1.1];rfl,h.1.2⟩
 | (s,o)::l,(t,q)::l',h,i+1,s',o',hi=>by
   obtain ⟨o2,h1,h2⟩:=Ku l l' h.2 i s' o' (by simpa using hi)
   exact ⟨o2,by simpa using h1,h2⟩
theorem qig {m:Nat} {o o':Obj} (h:wkgO m o o') (hl:o'.live=true):o.live=true:=by
 cases o' with
 | dead=>cases hl
 | froz t cs=>cases hl
 | var t cs=>
   cases o with
   | var t' cs'=>rfl
   | _=>exact h.elim
 | row t cs=>cases (show o= .row t cs from h);exact hl
theorem ACalls.wkg {f:FuncId} {xs ys:List AV} {x:AV} {m:Nat} {O O':Objs} {H:Hp} (h:ACalls P G f ys ⟨m,O'⟩ x H) (hw:qod m xs ys) (ho:qkg m O O'):ACalls P G f xs ⟨m,O⟩ x H:=by
 intro w S F β vs hH hv
 obtain ⟨hl,hg⟩:=ql0 xs ys hw
 refine h w S F β vs ⟨hH.lts,hH.ltf,hH.glob,fun i s o hi=> ?_,fun i j si sj oi oj hi hj hne h1 h2=> ?_,fun i s o hi=> ?_⟩ ⟨by rw [hv.1,hl],fun i y hi=> ?_⟩
 ·obtain ⟨o1,h1,_⟩:=Ku _ _ ho i s o hi
  exact hH.ltn i s o1 h1
 ·obtain ⟨o1,e1,k1⟩:=Ku _ _ ho i si oi hi
  obtain ⟨o2,e2,k2⟩:=Ku _ _ ho j sj oj hj
  exact hH.inj i j si sj o1 o2 e1 e2 hne (qig k1 h1) (qig k2 h2)
 ·obtain ⟨o1,e1,k1⟩:=Ku _ _ ho i s o hi
  have hor:=hH.obj i s o1 e1
  cases o with
  | dead=>trivial
  | froz t cs=>cases (show o1= .froz t cs from k1);exact hor
  | row t cs=>cases (show o1= .row t cs from k1);exact hor
  | var t cs=>
    cases o1 with
    | var t' cs'=>
      obtain ⟨rfl,hw⟩:=k1
      obtain ⟨c,h1,h2,h3,h4,h5⟩:=hor
      refine ⟨c,h1,by rw [h2,(qe1 _ _ hw).1],h3,h4,fun i y hi=> ?_⟩
      obtain ⟨z,hz,hk⟩:=(qe1 _ _ hw).2 i y hi
      exact ⟨(qoe hk).trans (h5 i z hz).1,qnt hk (h5 i z hz).2⟩
    | _=>exact k1.elim
 obtain ⟨z,hz,hk⟩:=hg i y hi
 exact q25 hk (hv.2 i z hz)
theorem qk {m:Nat} (x:AV):wkg1 m x x:= .inl (Q4 x)
theorem ze {m sz id s:Nat} (hs:Nat.blt s m=true):wkg1 m (.sl 0 true []) (.bs sz id s 0 0):= .inr (.inl ⟨sz,id,s,rfl,rfl,Ao hs⟩)
theorem q1h {m id s o:Nat} (hs:Nat.blt s m=true):wkg1 m .nilp (.optr id s o):= .inr (.inr ⟨id,s,o,rfl,rfl,Ao hs⟩)
theorem qih {m:Nat}:∀l:List AV,wkgL m l l
 | []=>trivial
 | x::l=>⟨qk x,qih l⟩
theorem qq {m:Nat} (x:AV):wkg m x x:=by
 unfold wkg
 cases x <;> first | exact qk _ | exact qih _
theorem jw {m:Nat}:wkgL m [] []:=trivial
theorem qd {m:Nat} {x y:AV} {xs ys:List AV} (h:wkg1 m x y) (hs:wkgL m xs ys):wkgL m (x::xs) (y::ys):=⟨h,hs⟩
theorem jb {m:Nat}:qod m [] []:=trivial
theorem qg {m:Nat} {x y:AV} {xs ys:List AV} (h:wkg m x y) (hs:qod m xs ys):qod m (x::xs) (y::ys):=⟨h,hs⟩
theorem je {m s:Nat} {t:TypeId} {cs cs':List AV} {l l':Objs} (hc:wkgL m cs cs') (h:qkg m l l'):qkg m ((s, .var t cs)::l) ((s, .var t cs')::l'):=⟨⟨rfl,rfl,hc⟩,h⟩
def qbc (ρ:Nat→Nat) (m:Nat) (objs:Objs):List (Option Nat)→Objs→Prop
 | [], []=>True
 | some i::l,(s',o')::O'=>(∃o,objs[i]? =some (ρ s',o)∧Nat.blt s' m=true∧leO ρ m o o')∧qbc ρ m objs l O'
 | none::l,(s',o')::O'=>(Nat.blt s' m=true∧o'.ghost=true)∧qbc ρ m objs l O'
 | _,_=>False
theorem qdc {ρ:Nat→Nat} {m:Nat} {objs:Objs}:∀(l:List (Option Nat)) (O':Objs),qbc ρ m objs l O'→∀(j s':Nat) (o':Obj),O'[j]? =some (s',o')→s' < m∧((∃i o,l[j]? =some (some i)∧objs[i]? =some (ρ s',o)∧leO ρ m o o')∨o'.ghost=true)
 | [], [],_,j,s',o',h=>by simp at h
 | [],_::_,h,_,_,_,_=>h.elim
 | some _::_, [],h,_,_,_,_=>h.elim
 | none::_, [],h,_,_,_,_=>h.elim
 | some i::l,(s,o)::O',h,0,s',o',hi=>by
   simp only [Aq,Ab,Al] at hi
   obtain ⟨rfl,rfl⟩:=hi
   obtain ⟨q,h1,h2,h3⟩:=h.1
   exact ⟨Ao h2, .inl ⟨i,q,rfl,h1,h3⟩⟩
 | none::l,(s,o)::O',h,0,s',o',hi=>by
   simp only [Aq,Ab,Al] at hi
   obtain ⟨rfl,rfl⟩:=hi
   exact ⟨Ao h.1.1, .inr h.1.2⟩
 | some i::l,(s,o)::O',h,j+1,s',o',hi=>by
   simpa using qdc l O' h.2 j s' o' (by simpa using hi)
 | none::l,(s,o)::O',h,j+1,s',o',hi=>by
   simpa using qdc l O' h.2 j s' o' (by simpa using hi)
def res1 (objs:Objs) (ρ:Nat→Nat) (m:Nat) (y x:AV):Prop:=
 (W7 objs y x∧x.closed=true)∨(∃a i g s' len,y= .bs a i (ρ s') 0 len∧x= .bs a g s' 0 len∧s' < m)∨(∃a g s',y= .sl 0 true []∧x= .bs a g s' 0 0∧s' < m)
def resL (objs:Objs) (ρ:Nat→Nat) (m:Nat):List AV→List AV→Prop
 | [], []=>True
 | y::ys,x::xs=>res1 objs ρ m y x∧resL objs ρ m ys xs
 | _,_=>False
def resA (objs:Objs) (ρ:Nat→Nat) (m:Nat) (y x:AV):Prop:=match x with
 | .agg ds=>(match y with | .agg cs=>resL objs ρ m cs ds | _=>False)
 | x=>res1 objs ρ m y x
def qoz (objs:Objs) (ρ:Nat→Nat) (m:Nat):List AV→List AV→Prop
 | [], []=>True
 | y::ys,x::xs=>resA objs ρ m y x∧qoz objs ρ m ys xs
 | _,_=>False
def resT (objs:Objs) (ρ:Nat→Nat) (m:Nat) (y x:AV):Prop:=match x with
 | .tup ds=>(match y with | .tup cs=>qoz objs ρ m cs ds | _=>False)
 | x=>resA objs ρ m y x
theorem qv3 {objs:Objs} {ρ:Nat→Nat} {m:Nat}:∀(cs ds:List AV),resL objs ρ m cs ds→cs.length=ds.length∧∀(i:Nat) (x:AV),ds[i]? =some x→∃y,cs[i]? =some y∧res1 objs ρ m y x
 | [], [],_=>⟨rfl,by simp⟩
 | [],_::_,h=>h.elim
 | _::_, [],h=>h.elim
 | y::cs,x::ds,h=>by
   obtain ⟨h1,h2⟩:=qv3 cs ds h.2
   refine ⟨by simp [h1],fun i z hi=> ?_⟩
   cases i with
   | zero=>simp at hi;subst hi;exact ⟨y,rfl,h.1⟩
   | succ i=>simpa using h2 i z (by simpa using hi)
theorem qsd {objs:Objs} {ρ:Nat→Nat} {m:Nat}:∀(cs ds:List AV),qoz objs ρ m cs ds→cs.length=ds.length∧∀(i:Nat) (x:AV),ds[i]? =some x→∃y,cs[i]? =some y∧resA objs ρ m y x
 | [], [],_=>⟨rfl,by simp⟩
 | [],_::_,h=>h.elim
 | _::_, [],h=>h.elim
 | y::cs,x::ds,h=>by
   obtain ⟨h1,h2⟩:=qsd cs ds h.2
   refine ⟨by simp [h1],fun i z hi=> ?_⟩
   cases i with
   | zero=>simp at hi;subst hi;exact ⟨y,rfl,h.1⟩
   | succ i=>simpa using h2 i z (by simpa using hi)
section
variable {w:World} {S F:Nat→Prop} {β:Nat→Nat} {n m:Nat} {objs:Objs} {ρ:Nat→Nat}
theorem qzo (hH:HR G w S F β ⟨n,objs⟩) {x y:AV} {v:Value} (h:res1 objs ρ m y x) (hv:RV w S β n y v):RV w (Jc S β objs) (fun s=>β (ρ s)) m x v:=by
 rcases h with ⟨h,hc⟩ | ⟨a,i,g,s',len,rfl,rfl,hs⟩ | ⟨a,g,s',rfl,rfl,hs⟩
 ·exact (qkh hH h hv).pure (j9 _ hc)
 ·cases hv with
  | bs _ _ _ _ _ cap m' e hs2 hsh hn hl hm h0=>exact .bs a g s' 0 len cap m' e hs hsh hn hl hm h0
  | bs0 _ _ _ _ A hs2 hV=>exact .bs0 a g s' 0 A hs hV
 cases hv with
 | sl _ _ _ A cap u hl hm hf hA hA1 hS hsz h1 hc hr hV=>
   have:=hf rfl
   rw [this]
   exact .bs0 a g s' 0 A hs (hV rfl rfl)
theorem q3q {x y:AV} (h:res1 objs ρ m y x) (hy:y.one=true):x.one=true:=by
 rcases h with ⟨h,_⟩ | ⟨a,i,g,s',len,rfl,rfl,hs⟩ | ⟨a,g,s',rfl,rfl,hs⟩
 ·unfold W7 at h
  split at h
  ·split at h
   ·rfl
   exact h.elim
  rw [qij h];exact hy
 ·rfl
 rfl
theorem qzn (hH:HR G w S F β ⟨n,objs⟩) {x y:AV} {v:Value} (h:resA objs ρ m y x) (hv:RV w S β n y v):RV w (Jc S β objs) (fun s=>β (ρ s)) m x v:=by
 unfold resA at h
 split at h
 ·split at h
  ·rename_i ds _ cs
   obtain ⟨hl,hg⟩:=qv3 cs ds h
   cases hv with
   | agg _ vs hs h1 hr=>
     refine .agg ds vs (by rw [hs,hl]) (fun z hz=> ?_) (fun i z hi=> ?_)
     ·obtain ⟨i,hi⟩:=AB hz
      obtain ⟨x,hx,hk⟩:=hg i z hi
      exact q3q hk (h1 x (Af hx))
     obtain ⟨x,hx,hk⟩:=hg i z hi
     exact qzo hH hk (hr i x hx)
  exact h.elim
 exact qzo hH h hv
theorem q6k (hH:HR G w S F β ⟨n,objs⟩) {x y:AV} {v:Value} (h:resT objs ρ m y x) (hv:RV w S β n y v):RV w (Jc S β objs) (fun s=>β (ρ s)) m x v:=by
 unfold resT at h
 split at h
 ·split at h
  ·rename_i ds _ cs
   obtain ⟨hl,hg⟩:=qsd cs ds h
   cases hv with
   | tup _ vs hs hr=>
     refine .tup ds vs (by rw [hs,hl]) (fun i z hi=> ?_)
     obtain ⟨x,hx,hk⟩:=hg i z hi
     exact qzn hH hk (hr i x hx)
  exact h.elim
 exact qzn hH h hv
theorem qt8 {ids:List Nat} {objs':Objs} (hd:qnb ids 0 objs objs') (hH:HR G w S F β ⟨n,objs⟩):HR G w S F β ⟨n,objs'⟩:=by
 refine ⟨hH.lts,hH.ltf,hH.glob,fun i s o hi=> ?_,fun i j si sj oi oj hi hj hne h1 h2=> ?_,fun i s o hi=> ?_⟩
 ·obtain ⟨o',h1,_⟩:=Z9 objs objs' 0 hd i s o hi
  exact hH.ltn i s o' h1
 ·obtain ⟨o1,a1,a2⟩:=Z9 objs objs' 0 hd i si oi hi
  obtain ⟨o2,b1,b2⟩:=Z9 objs objs' 0 hd j sj oj hj
  rcases a2 with rfl | ⟨rfl,_⟩
  ·cases h1
  rcases b2 with rfl | ⟨rfl,_⟩
  ·cases h2
  exact hH.inj i j si sj _ _ a1 b1 hne h1 h2
 obtain ⟨o1,a1,a2⟩:=Z9 objs objs' 0 hd i s o hi
 rcases a2 with rfl | ⟨rfl,_⟩
 ·trivial
 exact hH.obj i s _ a1
theorem q9b {sel:List (Option Nat)} {ids:List Nat} {objs' O':Objs} (hd:qnb ids 0 objs objs') (hids:∀(j i:Nat),sel[j]? =some (some i)→i∈ids) (hinj:∀(j j' i:Nat),sel[j]? =some (some i)→sel[j']? =some (some i)→j=j')
 (hH:HR G w S F β ⟨n,objs⟩) (ho:qbc ρ m objs sel O'):HR G w (Jc S β objs') F (fun s=>β (ρ s)) ⟨m,O'⟩:=by
 have rv:∀x v,RV w S β n x v→RV w (Jc S β objs') β n x v:=fun x v h=>qtm h
 have ghostL:∀o:Obj,o.ghost=true→o.live=false:=by
  intro o h
  cases o with
  | row t cs=>cases cs with
    | nil=>rfl
    | cons a l=>cases h
  | _=>cases h
 refine ⟨qhe (qt8 hd hH),hH.ltf,fun g=>⟨(rv _ _ (hH.glob g).rv).pure (.rptr _),(hH.glob g).sh⟩,fun j s o hj=>(qdc _ _ ho j s o hj).1,fun j j' sj sj' oj oj' hj hj' hne l1 l2=> ?_,fun j s o hj=> ?_⟩
 ·obtain ⟨_,h1⟩:=qdc _ _ ho j sj oj hj
  obtain ⟨_,h2⟩:=qdc _ _ ho j' sj' oj' hj'
  rcases h1 with ⟨i,q,e1,e2,e3⟩ | h1
  ·rcases h2 with ⟨i',q',f1,f2,f3⟩ | h2
   ·exact hH.inj i i' _ _ q q' e2 f2 (fun e=>hne (by subst e;exact hinj j j' i e1 f1)) (qkv e3 l1) (qkv f3 l2)
   rw [ghostL _ h2] at l2;cases l2
  rw [ghostL _ h1] at l1;cases l1
 obtain ⟨_,h1⟩:=qdc _ _ ho j s o hj
 rcases h1 with ⟨i,q,e1,e2,e3⟩ | h1
 ·have hor:=hH.obj i _ q e2
  refine q4l (n:=n) e3 ?_
  cases hl:q.live with
  | false=>
    cases q with
    | dead=>trivial
    | var t cs=>cases hl
    | row t cs=>exact OR.nil hl
    | froz t cs=>
      have hS:=hor
      obtain ⟨_,_,_,_,hS,_⟩:=hS
      exact hor.to rv rfl (fun h=>absurd hS h) (fun h=> .inl h) (fun h=>h)
  | true=>
    refine hor.to rv rfl (fun hS hS'=> ?_) (fun h=> .inl h) (fun h=>h)
    rcases hS' with h | ⟨i',s',o',hi',hl',e⟩
    ·exact hS h
    obtain ⟨o2,a1,a2⟩:=Z9 objs objs' 0 hd i' s' o' hi'
    rcases a2 with rfl | ⟨rfl,hc⟩
    ·cases hl'
    rw [AN] at hc
    exact hH.inj i i' _ s' q _ e2 a1 (fun e=>hc (e ▸ hids j i e1)) hl hl' e.symm
 have:=ghostL _ h1
 cases o with
 | row t cs=>exact OR.nil this
 | _=>cases h1
end
def qpq (sel:List (Option Nat)):Bool:=decide (sel.filterMap id).Nodup
theorem qip:∀(sel:List (Option Nat)),(sel.filterMap id).Nodup→∀(j j' i:Nat),sel[j]? =some (some i)→sel[j']? =some (some i)→j=j'
 | [],_,j,j',i,h,_=>by simp at h
 | a :: sel,hn,j,j',i,h,h'=>by
   have mem:∀k:Nat,sel[k]? =some (some i)→i∈sel.filterMap id:=fun k hk=>BV.2 ⟨some i,Af hk,rfl⟩
   cases a with
   | none=>
     have hn':(sel.filterMap id).Nodup:=by simpa using hn
     cases j with
     | zero=>simp at h
     | succ j=>cases j' with
       | zero=>simp at h'
       | succ j'=>rw [qip sel hn' j j' i (by simpa using h) (by simpa using h')]
   | some b=>
     have hn':b∉sel.filterMap id∧(sel.filterMap id).Nodup:=by simpa using hn
     cases j with
     | zero=>
       simp at h;subst h
       cases j' with
       | zero=>rfl
       | succ j'=>exact absurd (mem j' (by simpa using h')) hn'.1
     | succ j=>cases j' with
       | zero=>simp at h';subst h';exact absurd (mem j (by simpa using h)) hn'.1
       | succ j'=>rw [qip sel hn'.2 j j' i (by simpa using h) (by simpa using h')]
theorem q1o {m n m':Nat} {objs objs' O':Objs} {x y:AV} (sel:List (Option Nat)) (ρ:Nat→Nat) (hd:qkx (sel.filterMap id) 0 objs some=some objs') (hn:qpq sel=true) (hid:(List.range m).all (fun s=>Nat.beq (ρ s) s)=true) (hle:Nat.ble m m'=true) (ho:qbc ρ m' objs sel O') (hx:resT objs' ρ m' y x):vj P G m ⟨n,objs⟩ y x ⟨m',O'⟩:=by
 intro w S F β v hH _ hv
 obtain ⟨l',hd,e⟩:=qdq _ _ _ _ hd
 cases e
 have hH':=qt8 hd hH
 have he:=qp2 hH' m
 refine ⟨_,fun s=>β (ρ s),⟨rfl,rfl,rfl,Aj _,Ao hle,fun s hs=>by rw [qpr hid s hs],he.sub,he.new,fun _ _=>rfl,fun _ _=>rfl,fun _ _ h=>h⟩,q9b hd (fun j i hj=>BV.2 ⟨some i,Af hj,rfl⟩) (qip sel (of_decide_eq_true hn)) hH ho,q6k hH' hx hv⟩
def rhoS (objs:Objs):List (Option Nat)→Objs→Nat→Nat
 | some i::l,(s',_)::O',t=>if t=s' then (match objs[i]? with | some (s,_)=>s | none=>t) else rhoS objs l O' t
 | none::l,_::O',t=>rhoS objs l O' t
 | _,_,t=>t
section
variable {objs:Objs} {ρ:Nat→Nat} {m:Nat}
theorem q8:qbc ρ m objs [] []:=trivial
theorem qe4 {α:Type} {C:α→List AV} {sz i s':Nat} {e:TypeId} {x:List α} {l:List (Option Nat)} {O':Objs} (hC:CellsOk C sz) (ho:objs[i]? =some (ρ s', .row e (x.map C).flatten)) (hb:Nat.blt s' m=true) (h:qbc ρ m objs l O'):qbc ρ m objs (some i::l) ((s', .row e (x.map C).flatten)::O'):=⟨⟨_,ho,hb,rfl,rfl,qee hC x⟩,h⟩
theorem qe3 {i s':Nat} {e:TypeId} {cs cs':List AV} {l:List (Option Nat)} {O':Objs} (ho:objs[i]? =some (ρ s', .var e cs)) (hb:Nat.blt s' m=true) (hc:leC ρ m cs cs') (h:qbc ρ m objs l O'):qbc ρ m objs (some i::l) ((s', .var e cs')::O'):=⟨⟨_,ho,hb,rfl,hc⟩,h⟩
theorem qhl {s':Nat} {e:TypeId} {cs:List AV} {l:List (Option Nat)} {O':Objs} (hb:Nat.blt s' m=true) (hc:cs.isEmpty=true) (h:qbc ρ m objs l O'):qbc ρ m objs (none::l) ((s', .row e cs)::O'):=⟨⟨hb,by cases cs with
 | nil=>rfl
 | cons a l=>cases hc⟩,h⟩
theorem qh {y x:AV} (h:W7 objs y x) (hc:x.closed=true):res1 objs ρ m y x:= .inl ⟨h,hc⟩
theorem qv4 {a i g s s' len len':Nat} (hs:s=ρ s') (hl:len=len') (hb:Nat.blt s' m=true):res1 objs ρ m (.bs a i s 0 len) (.bs a g s' 0 len'):= .inr (.inl ⟨a,i,g,s',len,by rw [hs],by rw [hl],Ao hb⟩)
theorem q3r {a g s' len:Nat} (hl:0=len) (hb:Nat.blt s' m=true):res1 objs ρ m (.sl 0 true []) (.bs a g s' 0 len):= .inr (.inr ⟨a,g,s',rfl,by rw [hl],Ao hb⟩)
theorem kv:resL objs ρ m [] []:=trivial
theorem qi {y x:AV} {ys xs:List AV} (h:res1 objs ρ m y x) (hs:resL objs ρ m ys xs):resL objs ρ m (y::ys) (x::xs):=⟨h,hs⟩
theorem jf:qoz objs ρ m [] []:=trivial
theorem qf6 {y x:AV} {ys xs:List AV} (h:resA objs ρ m y x) (hs:qoz objs ρ m ys xs):qoz objs ρ m (y::ys) (x::xs):=⟨h,hs⟩
theorem kw {ys xs:List AV} (h:resL objs ρ m ys xs):resA objs ρ m (.agg ys) (.agg xs):=h
theorem Yl {y x:AV} (h:res1 objs ρ m y x) (hx:∀ds,x≠ .agg ds):resA objs ρ m y x:=by
 unfold resA
 split
 ·exact absurd rfl (hx _)
 exact h
theorem jy {ys xs:List AV} (h:qoz objs ρ m ys xs):resT objs ρ m (.tup ys) (.tup xs):=h
theorem yf {y x:AV} (h:resA objs ρ m y x) (hx:∀ds,x≠ .tup ds):resT objs ρ m y x:=by
 unfold resT
 split
 ·exact absurd rfl (hx _)
 exact h
end
def qdo (id:Nat):Nat→Objs→Objs
 | _, []=> []
 | j,(s,o)::l=>(s,if j=id then o else .dead)::qdo id (j+1) l
theorem qhq (id:Nat):∀(l:Objs) (j:Nat),qnb [] j l (qdo id j l)
 | [],j=>trivial
 | (s,o)::l,j=>by
   refine ⟨⟨rfl,?_⟩,qhq id l (j+1)⟩
   split
   ·exact .inr ⟨rfl,by simp⟩
   exact .inl rfl
theorem qo9 (id:Nat):∀(l:Objs) (j i s:Nat) (o:Obj),(qdo id j l)[i]? =some (s,o)→o.live=true→j+i=id
 | [],j,i,s,o,h,_=>by simp [qdo] at h
 | (t,q)::l,j,0,s,o,h,hl=>by
   simp only [qdo,Aq,Ab,Al] at h
   by_cases e:j=id
   ·exact e
   rw [if_neg e] at h;rw [←h.2] at hl;cases hl
 | (t,q)::l,j,i+1,s,o,h,hl=>by
   simp only [qdo,Bc] at h
   have:=qo9 id l (j+1) i s o h hl
   omega
theorem qsh (id:Nat):∀(l:Objs) (j i s:Nat) (o:Obj),l[i]? =some (s,o)→j+i=id→(qdo id j l)[i]? =some (s,o)
 | [],j,i,s,o,h,_=>by simp at h
 | (t,q)::l,j,0,s,o,h,e=>by
   simp only [Aq,Ab,Al] at h
   obtain ⟨rfl,rfl⟩:=h
   simp only [qdo,Aq,if_pos (show j=id by omega)]
 | (t,q)::l,j,i+1,s,o,h,e=>by
   simp only [qdo,Bc]
   exact qsh id l (j+1) i s o (by simpa using h) (by omega)
section
variable {fr:FT} {n:Nat} {objs:Objs} {Q:Exit→Fr→Hp→Prop} {k:List Item}
theorem qpl {i j id s si sz:Nat} {e ty:TypeId} {cs:List AV} {l:List (List AV)} {objs':Objs} (ho:objs[i]? =some (si, .var ty cs)) (hg:cs[j]? =some (.bs sz id s 0 l.length)) (hr:objs[id]? =some (s, .row e l.flatten)) (h0:0 < sz) (hl:∀c∈l,c.length=sz∧∀z∈c,z.one=true∧z.closed=true)
 (hd:qnb [id] 0 (objs.set i (si, .var ty (cs.set j (.sl sz false l)))) objs'):Less G N p (frT fr) ⟨n,objs⟩ (frT fr) ⟨n,objs'⟩:=by
 unfold Less
 intro D w S F β a hp hH hf
 have hM:=qt8 (qhq id objs 0) hH
 have he:=qp2 hM p
 have rv:∀x v,RV w S β n x v→RV w (Jc S β (qdo id 0 objs)) β n x v:=fun x v h=>qtm h
 have hil:=(Ah.1 ho).1
 have hjl:=(Ah.1 hg).1
 have hne:i≠id:=by rintro rfl;rw [ho] at hr;cases hr
 have notS2:∀(q t:Nat) (o:Obj),objs[q]? =some (t,o)→o.live=true→q≠id→¬S (β t)→¬Jc S β (qdo id 0 objs) (β t):=by
  rintro q t o hq hv hn hS (h | ⟨i',s',o',h1,h2,h3⟩)
  ·exact hS h
  have hid:=qo9 id objs 0 i' s' o' h1 h2
  rw [AN] at hid
  obtain ⟨o2,a1,a2⟩:=Z9 _ _ 0 (qhq id objs 0) i' s' o' h1
  rcases a2 with rfl | ⟨rfl,_⟩
  ·cases h2
  exact hH.inj q i' t s' o _ hq a1 (by rw [hid];exact hn) hv h2 h3.symm
 have at_:∀(q t:Nat) (o:Obj),objs'[q]? =some (t,o)→o= .dead∧(∃o1,objs[q]? =some (t,o1))∨(q=i∧t=si∧o= .var ty (cs.set j (.sl sz false l)))∨(q≠i∧q≠id∧objs[q]? =some (t,o)):=by
  intro q t o hq
  obtain ⟨o1,a1,a2⟩:=Z9 _ _ 0 hd q t o hq
  by_cases hqi:q=i
  ·subst hqi
   rw [Bz hil] at a1
   simp only [Ab,Al] at a1
   rcases a2 with rfl | ⟨rfl,_⟩
   ·exact .inl ⟨rfl,_,by rw [←a1.1];exact ho⟩
   exact .inr (.inl ⟨rfl,a1.1.symm,a1.2.symm⟩)
  rw [BF (Ne.symm hqi)] at a1
  rcases a2 with rfl | ⟨rfl,hn⟩
  ·exact .inl ⟨rfl,_,a1⟩
  exact .inr (.inr ⟨hqi,by simpa using hn,a1⟩)
 have old:∀(q t:Nat) (o:Obj),objs'[q]? =some (t,o)→o.live=true→∃o',objs[q]? =some (t,o')∧o'.live=true:=by
  intro q t o hq hv
  rcases at_ q t o hq with ⟨rfl,_⟩ | ⟨rfl,rfl,rfl⟩ | ⟨_,_,h⟩
  ·cases hv
  ·exact ⟨_,ho,rfl⟩
  exact ⟨o,h,hv⟩
 refine ⟨_,β,he,hp,⟨qhe hM,hH.ltf,fun g=>⟨rv _ _ (hH.glob g).rv,(hH.glob g).sh⟩,fun q t o hq=> ?_,fun q q' sq sq' oq oq' hq hq' hn l1 l2=> ?_,fun q t o hq=> ?_⟩,hf.size,hf.defers,fun q=>rv _ _ (hf.val q)⟩
 ·rcases at_ q t o hq with ⟨_,o1,h⟩ | ⟨_,rfl,_⟩ | ⟨_,_,h⟩
  ·exact hH.ltn q t o1 h
  ·exact hH.ltn i _ _ ho
  exact hH.ltn q t o h
 ·obtain ⟨o1,a1,a2⟩:=old q sq oq hq l1
  obtain ⟨o2,b1,b2⟩:=old q' sq' oq' hq' l2
  exact hH.inj q q' sq sq' o1 o2 a1 b1 hn a2 b2
 rcases at_ q t o hq with ⟨rfl,_⟩ | ⟨rfl,rfl,rfl⟩ | ⟨hqi,hqd,h⟩
 ·trivial
 ·obtain ⟨c,h1,h2,h3,h4,h5⟩:=hH.obj _ _ _ ho
  refine ⟨c,h1,by rw [B9];exact h2,notS2 q t _ ho rfl hne h3,h4,fun m x hm=> ?_⟩
  by_cases hmj:m=j
  ·subst hmj
   rw [Bz hjl] at hm
   simp only [Ab] at hm
   subst hm
   refine ⟨rfl,?_⟩
   refine qkh hM (x:= .bs sz id s 0 l.length) (y:= .sl sz false l) ?_ (h5 m _ hg).2
   refine ⟨rfl,rfl,h0,e,l.flatten,qsh id objs 0 id s _ hr (by omega),rfl,fun c hc=>(hl c hc).1,?_,fun c hc=>(hl c hc).2⟩
   rw [BR,Bi]
   have:∀l:List (List AV),(∀c∈l,c.length=sz)→l.flatten.length=l.length*sz:=by
    intro l
    induction l with
    | nil=>intro _;simp
    | cons a l ih=>intro h;rw [Bf,Ad,ih (fun c hc=>h c (Ay _ hc)),h a (AK ..),Ae,Bn];omega
   rw [this l (fun c hc=>(hl c hc).1)]
   exact Aj _
  rw [BF (Ne.symm hmj)] at hm
  exact ⟨(h5 m x hm).1,rv _ _ (h5 m x hm).2⟩
 have hor:=hH.obj q t o h
 cases hl':o.live with
 | false=>
   cases o with
   | dead=>trivial
   | var t cs=>cases hl'
   | row t cs=>exact OR.nil hl'
   | froz t cs=>
     have hS:=hor
     obtain ⟨_,_,_,_,hS,_⟩:=hS
     exact hor.to rv rfl (fun h=>absurd hS h) (fun h=> .inl h) (fun h=>h)
 | true=>exact hor.to rv rfl (fun hS=>notS2 q t o h hl' hqd hS) (fun h=> .inl h) (fun h=>h)
theorem K3 {T:TT} (i j id:Nat) {α:Type} {C:α→List AV} {sz s si:Nat} {e ty:TypeId} {l:List α} {cs cs':List AV} {objs':Objs} (hC:CellsOk C sz) (hk:qdu k=true) (ho:objs[i]? =some (si, .var ty cs)) (hg:cs[j]? =some (.bs sz id s 0 l.length)) (hr:objs[id]? =some (s, .row e (l.map C).flatten)) (hs:cs.set j (.sl sz false (l.map C))=cs') (hd:qkx [id] 0 (objs.set i (si, .var ty cs')) some=some objs')
 (h:Ok P G T N p Q (.bar k fr n objs')):Ok P G T N p Q (.bar k fr n objs):=by
 obtain ⟨l',hd,e'⟩:=qdq _ _ _ _ hd
 cases e'
 subst hs
 have hless:=qpl (G:=G) (N:=N) (p:=p) (fr:=fr) (n:=n) (l:=l.map C) ho (by rw [As];exact hg) hr hC.pos (fun c hc=>by
  obtain ⟨a,_,rfl⟩:=BG.1 hc
  exact ⟨hC.len a,hC.all a⟩) hd
 unfold Ok at h ⊢
 exact fun hi=>qiw hless k hk (h hi)
theorem zq {m:Nat}:∀(l:Objs),qkg m l l
 | []=>trivial
 | (s,o)::l=>⟨⟨rfl,by cases o <;> first | trivial | exact ⟨rfl,qih _⟩ | rfl⟩,zq l⟩
theorem qf {m s:Nat} {o:Obj} {l l':Objs} (h:qkg m l l'):qkg m ((s,o)::l) ((s,o)::l'):=⟨⟨rfl,by cases o <;> first | trivial | exact ⟨rfl,qih _⟩ | rfl⟩,h⟩
end
theorem qdi {m n m':Nat} {objs objs' O':Objs} {x y:AV} (sel:List (Option Nat)) (hd:qkx (sel.filterMap id) 0 objs some=some objs') (hn:qpq sel=true) (hid:(List.range m).all (fun s=>Nat.beq (rhoS objs sel O' s) s)=true) (hle:Nat.ble m m'=true) (ho:qbc (rhoS objs sel O') m' objs sel O') (hx:resT objs' (rhoS objs sel O') m' y x):vj P G m ⟨n,objs⟩ y x ⟨m',O'⟩:=
 q1o sel (rhoS objs sel O') hd hn hid hle ho hx
theorem Ky {ρ:Nat→Nat} {m:Nat}:leC ρ m [] []:=trivial
theorem qao {ρ:Nat→Nat} {m:Nat} {v u:AV} {vs us:List AV} (h:v=u.ren1 ρ) (hu:u.un1 m=true) (hs:leC ρ m vs us):leC ρ m (v::vs) (u::us):=⟨.inl ⟨h,hu⟩,hs⟩
theorem q0i {r s:Nat} {e:TypeId} {O:Objs} (hs:Nat.blt s r=true) (h:frOs r O):frOs r ((s, .row e [])::O):=⟨⟨rfl,hs,rfl⟩,h⟩
theorem qzf {m s:Nat} {e:TypeId} {O:Objs} (h:unOs m O):unOs m ((s, .row e [])::O):=⟨rfl,h⟩
def leV2 (ι ρ:Nat→Nat) (m:Nat) (v u:AV):Prop:=match u with
 | .undef=>True
 | u=>(v=u.mv ι ρ∧u.un m=true)∨wkS v u
def qm6 (ι ρ:Nat→Nat) (m:Nat):FT→FT→Prop
 | _, .z=>True
 | .z, .n u l r=>leV2 ι ρ m .undef u∧qm6 ι ρ m .z l∧qm6 ι ρ m .z r
 | .n v l r, .n u l' r'=>leV2 ι ρ m v u∧qm6 ι ρ m l l'∧qm6 ι ρ m r r'
def leC2 (ι ρ:Nat→Nat) (m:Nat):List AV→List AV→Prop
 | [], []=>True
 | v::vs,u::us=>((v=u.mv1 ι ρ∧u.un1 m=true)∨wkS v u)∧leC2 ι ρ m vs us
 | _,_=>False
def leO2 (ι ρ:Nat→Nat) (m:Nat) (o o':Obj):Prop:=match o' with
 | .dead=>True
 | .var t cs=>match o with
   | .var t' cs'=>t'=t∧leC2 ι ρ m cs' cs
   | _=>False
 | .row t cs=>match o with
   | .row t' cs'=>t'=t∧cs'=cs∧∀x∈cs,x.closed=true
   | _=>False
 | .froz t cs=>match o with
   | .froz t' cs'=>t'=t∧cs'=cs∧∀x∈cs,x.closed=true
   | _=>False
theorem q6y {w:World} {S:Nat→Prop} {β:Nat→Nat} {n m:Nat} {ι ρ:Nat→Nat} {v u:AV} {x:Value} (h:leV2 ι ρ m v u) (hv:RV w S β n v x):RV w S (fun s=>β (ρ s)) m u x:=by
 unfold leV2 at h
 split at h
 ·exact .undef _
 rcases h with ⟨rfl,hu⟩ | h
 ·exact q76 hv hu
 exact qof h hv
theorem qe9 {ι ρ:Nat→Nat} {m:Nat}:∀(t t':FT),qm6 ι ρ m t t'→∀i,leV2 ι ρ m (t.get i) (t'.get i)
 | t, .z,_,i=>by simp only [FT.get,leV2]
 | .z, .n u l r,h,i=>by
   obtain ⟨h1,h2,h3⟩:=h
   simp only [FT.get]
   cases Nat.beq i 0
   ·cases Nat.beq (i % 2) 1
    ·exact qe9 .z r h3 (i / 2 - 1)
    exact qe9 .z l h2 (i / 2)
   exact h1
 | .n v l r, .n u l' r',h,i=>by
   obtain ⟨h1,h2,h3⟩:=h
   simp only [FT.get]
   cases Nat.beq i 0
   ·cases Nat.beq (i % 2) 1
    ·exact qe9 r r' h3 (i / 2 - 1)
    exact qe9 l l' h2 (i / 2)
   exact h1
theorem qwh {ι ρ:Nat→Nat} {m:Nat}:∀(l l':List AV),leC2 ι ρ m l l'→l.length=l'.length∧∀(i:Nat) (u:AV),l'[i]? =some u→∃v,l[i]? =some v∧((v=u.mv1 ι ρ∧u.un1 m=true)∨wkS v u)
 | [], [],_=>⟨rfl,fun i u h=>by simp at h⟩
 | [],_::_,h=>h.elim
 | _::_, [],h=>h.elim
 | v::l,u::l',h=>by
   obtain ⟨h1,h2⟩:=qwh l l' h.2
   refine ⟨by simp [h1],fun i x hi=> ?_⟩
   cases i with
   | zero=>simp at hi;subst hi;exact ⟨v,rfl,h.1⟩
   | succ i=>simpa using h2 i x (by simpa using hi)
def qeo (ι ρ:Nat→Nat) (m:Nat) (objs:Objs):List (Option Nat)→Objs→Prop
 | [], []=>True
 | some i::l,(s',o')::O'=>(∃o,objs[i]? =some (ρ s',o)∧Nat.blt s' m=true∧leO2 ι ρ m o o')∧qeo ι ρ m objs l O'
 | none::l,(s',o')::O'=>(Nat.blt s' m=true∧o'= .dead)∧qeo ι ρ m objs l O'
 | _,_=>False
theorem qbi {ι ρ:Nat→Nat} {m:Nat} {objs:Objs}:∀(l:List (Option Nat)) (O':Objs),qeo ι ρ m objs l O'→∀(j s':Nat) (o':Obj),O'[j]? =some (s',o')→s' < m∧((∃i o,l[j]? =some (some i)∧objs[i]? =some (ρ s',o)∧leO2 ι ρ m o o')∨o'= .dead)
 | [], [],_,j,s',o',h=>by simp at h
 | [],_::_,h,_,_,_,_=>h.elim
 | some _::_, [],h,_,_,_,_=>h.elim
 | none::_, [],h,_,_,_,_=>h.elim
 | some i::l,(s,o)::O',h,0,s',o',hi=>by
   simp only [Aq,Ab,Al] at hi
   obtain ⟨rfl,rfl⟩:=hi
   obtain ⟨q,h1,h2,h3⟩:=h.1
   exact ⟨Ao h2, .inl ⟨i,q,rfl,h1,h3⟩⟩
 | none::l,(s,o)::O',h,0,s',o',hi=>by
   simp only [Aq,Ab,Al] at hi
   obtain ⟨rfl,rfl⟩:=hi
   exact ⟨Ao h.1.1, .inr h.1.2⟩
 | some i::l,(s,o)::O',h,j+1,s',o',hi=>by
   simpa using qbi l O' h.2 j s' o' (by simpa using hi)
 | none::l,(s,o)::O',h,j+1,s',o',hi=>by
   simpa using qbi l O' h.2 j s' o' (by simpa using hi)
section
variable {w:World} {S F:Nat→Prop} {β:Nat→Nat}
theorem qsk {ι ρ:Nat→Nat} {n':Nat} {o o':Obj} (h:leO2 ι ρ n' o o') (hl:o'.live=true):o.live=true:=by
 unfold leO2 at h
 split at h
 ·cases hl
 ·split at h
  ·rfl
  exact h.elim
 ·split at h
  ·obtain ⟨rfl,rfl,_⟩:=h;exact hl
  exact h.elim
 cases hl
theorem q6z {ι ρ:Nat→Nat} {n n' b:Nat} {o o':Obj} (l1:leO2 ι ρ n' o o') (h:OR w S F β n b o):OR w S F (fun s=>β (ρ s)) n' b o':=by
 unfold leO2 at l1
 split at l1
 ·trivial
 ·split at l1
  ·rename_i cs _ t' cs'
   obtain ⟨rfl,hc⟩:=l1
   obtain ⟨hl,hg⟩:=qwh _ _ hc
   obtain ⟨c,h1,h2,h3,h4,h5⟩:=h
   refine ⟨c,h1,by rw [h2,hl],h3,h4,fun i x hi=> ?_⟩
   obtain ⟨v,hv,hvu⟩:=hg i x hi
   obtain ⟨ho1,hR⟩:=h5 i _ hv
   rcases hvu with ⟨rfl,hu⟩ | hvu
   ·exact ⟨by rw [←ho1,qga],qjr hR hu⟩
   exact ⟨(qtb hvu).2,qof hvu hR⟩
  exact l1.elim
 ·split at l1
  ·obtain ⟨rfl,rfl,hc⟩:=l1
   intro hne
   obtain ⟨c,h1,h2,h3,h4,h5⟩:=h hne
   exact ⟨c,h1,h2,h3,h4,fun i x hi=>⟨(h5 i x hi).1,(h5 i x hi).2.pure (j9 x (hc x (Af hi)))⟩⟩
  exact l1.elim
 split at l1
 ·obtain ⟨rfl,rfl,hc⟩:=l1
  obtain ⟨c,fr,h1,h2,h3,h5⟩:=h
  exact ⟨c,fr,h1,h2,h3,fun i x hi=>⟨(h5 i x hi).1,(h5 i x hi).2.pure (j9 x (hc x (Af hi)))⟩⟩
 exact l1.elim
end
theorem q19 {fr fr':FT} {n n':Nat} {objs objs':Objs} (sel:List (Option Nat)) (ι ρ:Nat→Nat) (hn:qpq sel=true) (hid:(List.range p).all (fun s=>Nat.beq (ρ s) s)=true) (hp:Nat.ble p n'=true) (hf:qm6 ι ρ n' fr fr') (ho:qeo ι ρ n' objs sel objs'):Less G N p (frT fr) ⟨n,objs⟩ (frT fr') ⟨n',objs'⟩:=by
 unfold Less
 intro D w S F β a _ hH hfr
 have hinj:=qip sel (of_decide_eq_true hn)
 refine ⟨S,fun s=>β (ρ s),⟨rfl,rfl,rfl,Aj _,Aj _,fun s hs=>by rw [qpr hid s hs],fun _ h=>h,fun _ h=> .inl h,fun _ _=>rfl,fun _ _=>rfl,fun _ _ h=>h⟩,Ao hp,⟨hH.lts,hH.ltf,fun g=>(hH.glob g).pure (.rptr _),fun j s o hj=>(qbi _ _ ho j s o hj).1,fun j j' sj sj' oj oj' hj hj' hne l1 l2=> ?_,fun j s o hj=> ?_⟩,⟨hfr.size,hfr.defers,fun t=>q6y (qe9 _ _ hf t) (hfr.val t)⟩⟩
 ·obtain ⟨_,h1⟩:=qbi _ _ ho j sj oj hj
  obtain ⟨_,h2⟩:=qbi _ _ ho j' sj' oj' hj'
  rcases h1 with ⟨i,q,e1,e2,e3⟩ | rfl
  ·rcases h2 with ⟨i',q',f1,f2,f3⟩ | rfl
   ·exact hH.inj i i' _ _ q q' e2 f2 (fun e=>hne (by subst e;exact hinj j j' i e1 f1)) (qsk e3 l1) (qsk f3 l2)
   cases l2
  cases l1
 obtain ⟨_,h1⟩:=qbi _ _ ho j s o hj
 rcases h1 with ⟨i,q,e1,e2,e3⟩ | rfl
 ·exact q6z (n:=n) e3 (hH.obj i _ q e2)
 trivial
def q4r (sel:List (Option Nat)) (j:Nat):Nat:=match sel[j]? with
 | some (some i)=>i
 | _=>j
theorem qsi {fr fr':FT} {n n':Nat} {objs objs':Objs} (sel:List (Option Nat)) (hn:qpq sel=true) (hid:(List.range p).all (fun s=>Nat.beq (rhoS objs sel objs' s) s)=true) (hp:Nat.ble p n'=true) (hf:qm6 (q4r sel) (rhoS objs sel objs') n' fr fr') (ho:qeo (q4r sel) (rhoS objs sel objs') n' objs sel objs'):Less G N p (frT fr) ⟨n,objs⟩ (frT fr') ⟨n',objs'⟩:=q19 sel _ _ hn hid hp hf ho
section
variable {ι ρ:Nat→Nat} {m:Nat} {objs:Objs}
theorem qox:qeo ι ρ m objs [] []:=trivial
theorem qf5 {α:Type} {C:α→List AV} {sz i s':Nat} {e:TypeId} {x:List α} {l:List (Option Nat)} {O':Objs} (hC:CellsOk C sz) (ho:objs[i]? =some (ρ s', .row e (x.map C).flatten)) (hb:Nat.blt s' m=true) (h:qeo ι ρ m objs l O'):qeo ι ρ m objs (some i::l) ((s', .row e (x.map C).flatten)::O'):=⟨⟨_,ho,hb,rfl,rfl,qee hC x⟩,h⟩
theorem ql5 {s':Nat} {l:List (Option Nat)} {O':Objs} (hb:Nat.blt s' m=true) (h:qeo ι ρ m objs l O'):qeo ι ρ m objs (none::l) ((s', .dead)::O'):=⟨⟨hb,rfl⟩,h⟩
end
theorem qmh {T:TT} {fr:FT} {n:Nat} {objs:Objs} {Q:Exit→Fr→Hp→Prop} {k:List Item} {c:Code} (i j id:Nat) {α:Type} {C:α→List AV} {sz s si:Nat} {e ty:TypeId} {l:List α} {cs cs':List AV} {objs':Objs} (hC:CellsOk C sz) (ho:objs[i]? =some (si, .var ty cs)) (hg:cs[j]? =some (.bs sz id s 0 l.length)) (hr:objs[id]? =some (s, .row e (l.map C).flatten)) (hs:cs.set j (.sl sz false (l.map C))=cs') (hd:qkx [id] 0 (objs.set i (si, .var ty cs')) some=some objs')
 (h:Ok P G T N p Q (.again c k fr n objs')):Ok P G T N p Q (.again c k fr n objs):=by
 obtain ⟨l',hd,e'⟩:=qdq _ _ _ _ hd
 cases e'
 subst hs
 have hless:=qpl (G:=G) (N:=N) (p:=p) (fr:=fr) (n:=n) (l:=l.map C) ho (by rw [As];exact hg) hr hC.pos (fun c hc=>by
  obtain ⟨a,_,rfl⟩:=BG.1 hc
  exact ⟨hC.len a,hC.all a⟩) hd
 unfold Ok at h ⊢
 exact fun hi=>qg0 hless (h hi)
section
variable {α:Type} {fr:FT} {n:Nat} {objs:Objs} {Q:Exit→Fr→Hp→Prop} {k:List Item} {kn:List Nat} {d:Bool} {all:Array Oper} {os:List Oper} {u:Tmp} {ty:TypeId} {pos:String} {aft:Array Edge}
theorem qqr {a b:Operand} {t t1 e:TypeId} {sz by_ id s0:Nat} {f2:Bool} {l r:List α} {x:α} {C:α→List AV} {zc:List AV} {z:List AV} {it ie:TI} (E:Env P T) (hx:app by_ l [x]=some r)
 (ha:ev G (frT fr) a= .bs sz id s0 0 l.length) (hb:ev G (frT fr) b= .sl sz f2 [zc]) (hC:∀a,(C a).length=sz) (ht:T.get t=some it) (he:it.elem=some (e,sz)) (hie:T.get e=some ie) (hz:ie.zero=some z) (hzl:z.length=sz) (h0:0 < sz)
 (hby:qdv P e=some by_) (hn:qcj P t1=true) (ho:objs[id]? =some (s0, .row e (l.map C).flatten))
 (hc:Ok P G T N p Q (.go [(u, .bs sz id n 0 r.length)] (.ops d all os::k) (unkn (some u) kn) fr (n+1) (objs.set id (n, .row e ((l.map C).flatten++zc))))) (hcp:d=false∨qap a=false:=by first | exact .inl rfl | exact .inr rfl):
 Ok P G T N p Q (.gen ⟨some u, .call ⟨.builtin .append, #[a,b], #[t,t1]⟩,ty,pos,aft,none⟩ d all os k kn fr n objs):=by
 obtain ⟨rfl,h1,h2⟩:=qb5 hx
 refine qgq E ha hb ht he hie hz hzl h0 hby hn ho (qdt hC l) h1 h2 ?_ hcp (by simp)
 rw [Ad] at hc
 simpa using hc
theorem qqj {by_:Nat} {l r:List α} {x:α} (hx:app by_ l [x]=some r):((l.length:Int)).toNat < r.length:=by
 obtain ⟨rfl,_⟩:=qb5 hx
 simp
theorem qmi {l r:List α} {C:α→List AV} {sz by_ id s:Nat} {x:α} {t te:TypeId} {a y:Operand} {zc cs:List AV} (hx:app by_ l [x]=some r) (hC:CellsOk C sz)
 (ha:ev G (frT fr) a= .ptr id s (((l.length:Int)).toNat*sz)) (hy:ev G (frT fr) y= .agg cs) (hcs:cs=C x) (hsz:szP P t=some sz) (ho:objs[id]? =some (s, .row te ((l.map C).flatten++zc))) (hzc:zc.length=sz)
 (hc:Ok P G T N p Q (.go [] (.ops d all os::k) kn fr n (objs.set id (s, .row te (r.map C).flatten)))) (hd:d=false∨sepB G all (frT fr)=true:=by first | exact .inl rfl | exact .inr rfl):Ok P G T N p Q (.gen ⟨none, .store t a y,ty,pos,aft,none⟩ d all os k kn fr n objs):=by
 obtain ⟨rfl,_⟩:=qb5 hx
 subst hcs
 have hfl:=qdt hC.len l
 have e:Qu ((l.map C).flatten++zc) (l.length*sz) (C x)=((l++ [x]).map C).flatten:=by
  simp only [Qu]
  rw [←hfl,List.take_left,BZ,Cl]
  rw [AW (by rw [Ad,hzc,hC.len];exact Aj _)]
  simp
 unfold Ok at hc ⊢
 refine fun hk=>Or.inl ⟨.undef,⟨n,objs.set id (s, .row te ((l++ [x]).map C).flatten)⟩,fun e=>hd.elim (fun h=>by rw [h] at e;cases e) (fun h=>h),?_,hc hk⟩
 simp only [evalOp,ha,hy,Q6,K1,hsz,ho]
 rw [Bj,e]
 have hpos:=hC.pos
 have hlen:(C x).length=sz:=hC.len x
 rw [if_pos hlen,if_pos ⟨trivial,by rw [Ad,hfl,hzc,hlen];exact Aj _,by rw [Ad,hzc];omega⟩]
 rfl
end
section
variable {Q:Exit→Fr→Hp→Prop} {k:List Item} {kn:List Nat} {fr:FT} {n:Nat} {objs:Objs}
end
def Obj.mvR (ι ρ:Nat→Nat):Obj→Obj
 | .var t cs=> .var t (cs.map (AV.mv1 ι ρ))
 | o=>o
def clO:Obj→Prop
 | .row _ cs=>∀x∈cs,x.closed=true
 | .froz _ _=>False
 | _=>True
def clOs:Objs→Prop
 | []=>True
 | q::O=>clO q.2∧clOs O
theorem q83 {ι ρ:Nat→Nat} {o:Obj} (h:clO o):o.mv ι ρ=o.mvR ι ρ:=by
 cases o with
 | row t cs=>
   show Obj.row t _=Obj.row t _
   congr 1
   conv=>rhs;rw [←List.map_id cs]
   exact List.map_congr_left fun x hx=>qyg (h x hx)
 | froz t cs=>exact h.elim
 | _=>rfl
theorem qtz {ι ρ:Nat→Nat}:∀(O:Objs),clOs O→mvOs ι ρ O (O.map fun q=>(ρ q.1,q.2.mvR ι ρ))
 | [],_=>trivial
 | (s,o)::O,h=>⟨⟨rfl,(q83 h.1).symm⟩,qtz O h.2⟩
theorem zg:clOs []:=trivial
theorem za {α:Type} {C:α→List AV} {sz:Nat} {e:TypeId} {l:List α} {s:Nat} {O:Objs} (hC:CellsOk C sz) (h:clOs O):clOs ((s, .row e (l.map C).flatten)::O):=⟨qee hC l,h⟩
theorem qn7 {e:TypeId} {s:Nat} {O:Objs} (h:clOs O):clOs ((s, .row e [])::O):=⟨(fun x hx=>by cases hx),h⟩
theorem qj {t:TypeId} {cs:List AV} {s:Nat} {O:Objs} (h:clOs O):clOs ((s, .var t cs)::O):=⟨trivial,h⟩
structure AC (P:Program) (G:Nat→List AV) (f:FuncId) (xs:List AV) (r:Nat) (O:Objs) (x:AV) (m':Nat) (O':Objs):Prop where
 call:ACalls P G f xs ⟨r,O⟩ x ⟨m',O'⟩
 fr:frOs r O
 cl:clOs O
 un:unOs m' O'
 cl':clOs O'
 len:O'.length=O.length
 le:Nat.ble r m'=true
 xu:xs.all (AV.un r)=true
 yu:x.un m'=true
def qkm:List Nat→Objs→Objs→(Objs→Option Objs)→Option Objs
 | i::is,(s,o)::qs,objs,k=>Wg s fun s=>qpu o fun o=>qsb objs i (s,o) fun objs=>qkm is qs objs k
 | _,_,objs,k=>k objs
theorem qow:∀(ids:List Nat) (Q objs:Objs) (k:Objs→Option Objs),qkm ids Q objs k=k (ql4 ids Q objs)
 | [],Q,objs,k=>by cases Q <;> rfl
 | i::is, [],objs,k=>rfl
 | i::is,(s,o)::Q,objs,k=>by
   simp only [qkm,qbk,qmc,qou]
   rw [qow is Q,ql4]
theorem qpf {ι ρ:Nat→Nat} {m:Nat}:∀(xs0 xs:List AV),xs0.map (AV.mv ι ρ)=xs→xs0.all (AV.un m)=true→mvdL ι ρ m xs0 xs
 | [],xs,h,_=>by subst h;trivial
 | x::xs0,xs,h,hu=>by
   subst h
   rw [List.all_cons,An] at hu
   exact ⟨.inl ⟨rfl,hu.1⟩,qpf xs0 _ rfl hu.2⟩
theorem AC.go {f:FuncId} {xs xs0:List AV} {x y:AV} {r m' n n2:Nat} {O O' objs objs2:Objs} (h:AC P G f xs0 r O x m' O') (ids st:List Nat) (hnd:decide ids.Nodup=true) (hids:ids.length=O.length) (hst:st.length=r) (hstn:st.all (fun s=>Nat.blt s n)=true)
 (hxs:xs0.map (AV.mv (fun j=>ids.getD j 0) (fun s=>st.getD s 0))=xs) (hg:qgh ids objs=some (O.map fun q=>(st.getD q.1 0,q.2.mvR (fun j=>ids.getD j 0) (fun s=>st.getD s 0))))
 (hy:qjx (x.mv (fun j=>ids.getD j 0) (qec (fun s=>st.getD s 0) r n)) some=some y) (hs:qkm ids (O'.map fun q=>(qec (fun s=>st.getD s 0) r n q.1,q.2.mvR (fun j=>ids.getD j 0) (qec (fun s=>st.getD s 0) r n))) objs some=some objs2) (hn:Wg (n+(m' - r)) some=some n2):ACalls P G f xs ⟨n,objs⟩ y ⟨n2,objs2⟩:=by
 rw [qiq,Ab] at hy
 rw [qbk,Ab] at hn
 rw [qow,Ab] at hs
 exact q2r ids st h.call hids h.len (of_decide_eq_true hnd) hst hstn h.le (qpf _ _ hxs h.xu) h.fr (qtz O h.cl) hg (.inl ⟨hy.symm,h.yu⟩) h.un (qtz O' h.cl') hs hn
attribute [simp] leFT leV leOs leO leC rho AV.ren AV.renA AV.ren1 AV.ren0 AV.un AV.unA AV.un1 AV.un0 AV.closed wkS qm6 leV2 q4r rhoS AV.mv AV.mvA AV.mv1 AV.mv0
end Go.Proofs.YtpnkemogepoioaaGreatDoorW.Ex
