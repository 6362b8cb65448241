/- A symbolic executor for the machine's code, part V: calls that are handed objects of their caller's. General over the program; no conditions beside those in each theorem. -/
import Derived.Test.YtpnkemogepoioaaGreatDoorExW
namespace Go.Proofs.YtpnkemogepoioaaGreatDoorW.Ex
set_option linter.all false
open Go
variable {D:List Deferred}
variable {G:Nat→List AV} {P:Program} {N p:Nat}
def AV.mv0 (ι ρ:Nat→Nat):AV→AV
 | .ptr i s o=> .ptr (ι i) (ρ s) o
 | .optr i s o=> .optr (ι i) (ρ s) o
 | .bs a i s o l=> .bs a (ι i) (ρ s) o l
 | x=>x
def AV.mv1 (ι ρ:Nat→Nat):AV→AV
 | .ptr i s o=> .ptr (ι i) (ρ s) o
 | .optr i s o=> .optr (ι i) (ρ s) o
 | .bs a i s o l=> .bs a (ι i) (ρ s) o l
 | .fn f cs=> .fn f (cs.map (AV.mv0 ι ρ))
 | x=>x
def AV.mvA (ι ρ:Nat→Nat):AV→AV
 | .agg cs=> .agg (cs.map (AV.mv1 ι ρ))
 | x=>x.mv1 ι ρ
def AV.mv (ι ρ:Nat→Nat):AV→AV
 | .agg cs=> .agg (cs.map (AV.mv1 ι ρ))
 | .tup cs=> .tup (cs.map (AV.mvA ι ρ))
 | .fn f cs=> .fn f (cs.map (AV.mv1 ι ρ))
 | x=>x.mv1 ι ρ
def Obj.mv (ι ρ:Nat→Nat):Obj→Obj
 | .dead=> .dead
 | .var t cs=> .var t (cs.map (AV.mv1 ι ρ))
 | .row t cs=> .row t (cs.map (AV.mv1 ι ρ))
 | .froz t cs=> .froz t (cs.map (AV.mv1 ι ρ))
def Obj.un (m:Nat):Obj→Bool
 | .dead=>true
 | .var _ cs | .row _ cs | .froz _ cs=>cs.all (AV.un1 m)
def Mvd (ι ρ:Nat→Nat) (m:Nat) (x y:AV):Prop:=(y=x.mv ι ρ∧x.un m=true)∨(y=x∧Pure x)
theorem qga (ι ρ:Nat→Nat) (x:AV):(x.mv1 ι ρ).one=x.one:=by cases x <;> rfl
section
variable {w:World} {S:Nat→Prop} {β β':Nat→Nat} {n m:Nat} {ι ρ:Nat→Nat}
theorem qt1 {x:AV} {v:Value} (h:RV w S β n (x.mv0 ι ρ) v) (hu:x.un0 m=true):RV w S (fun s=>β (ρ s)) m x v:=by
 cases x with
 | ptr i s o=>cases h with | ptr _ _ _ hs=>exact .ptr i s o (Ao hu)
 | optr i s o=>cases h with | optr _ _ _ _ hs hv=>exact .optr i s o _ (Ao hu) hv
 | bs a i s o l=>cases h with
   | bs _ _ _ _ _ cap m' e hs hsh hn hl hm h0=>exact .bs a i s o l cap m' e (Ao hu) hsh hn hl hm h0
   | bs0 _ _ _ _ A hs hV=>exact .bs0 a i s o A (Ao hu) hV
 | _=>exact h.pure (j9 _ hu)
theorem qjr {x:AV} {v:Value} (h:RV w S β n (x.mv1 ι ρ) v) (hu:x.un1 m=true):RV w S (fun s=>β (ρ s)) m x v:=by
 cases x with
 | ptr i s o=>exact qt1 (x:= .ptr i s o) h hu
 | optr i s o=>exact qt1 (x:= .optr i s o) h hu
 | bs a i s o l=>exact qt1 (x:= .bs a i s o l) h hu
 | fn f cs=>
   cases h with
   | fn _ _ vs hs hr=>exact .fn f cs vs (by simpa using hs) (fun i y hi=>qt1 (hr i (y.mv0 ι ρ) (by rw [Av,hi];rfl)) (Aw.1 hu y (Af hi)))
 | _=>exact h.pure (j9 _ hu)
theorem qt0 (hb:∀s,s < m→β' (ρ s)=β s∧ρ s < n) {x:AV} {v:Value} (h:RV w S β m x v) (hu:x.un0 m=true):RV w S β' n (x.mv0 ι ρ) v:=by
 cases x with
 | ptr i s o=>cases h with | ptr _ _ _ hs=>rw [←(hb s hs).1];exact .ptr (ι i) (ρ s) o (hb s hs).2
 | optr i s o=>cases h with | optr _ _ _ _ hs hv=>rw [←(hb s hs).1] at hv;exact .optr (ι i) (ρ s) o _ (hb s hs).2 hv
 | bs a i s o l=>cases h with
   | bs _ _ _ _ _ cap m' e hs hsh hn hl hm h0=>rw [←(hb s hs).1];exact .bs a (ι i) (ρ s) o l cap m' e (hb s hs).2 (by rw [(hb s hs).1];exact hsh) hn hl hm h0
   | bs0 _ _ _ _ A hs hV=>exact .bs0 a (ι i) (ρ s) o A (hb s hs).2 hV
 | _=>exact h.pure (j9 _ hu)
theorem ql7 (hb:∀s,s < m→β' (ρ s)=β s∧ρ s < n) {x:AV} {v:Value} (h:RV w S β m x v) (hu:x.un1 m=true):RV w S β' n (x.mv1 ι ρ) v:=by
 cases x with
 | ptr i s o=>exact qt0 (x:= .ptr i s o) hb h hu
 | optr i s o=>exact qt0 (x:= .optr i s o) hb h hu
 | bs a i s o l=>exact qt0 (x:= .bs a i s o l) hb h hu
 | fn f cs=>
   cases h with
   | fn _ _ vs hs hr=>
     exact .fn f _ vs (by simpa using hs) (fun i y hi=>by
      rw [Av,Am] at hi
      obtain ⟨z,hz,rfl⟩:=hi
      exact qt0 hb (hr i z hz) (Aw.1 hu z (Af hz)))
 | _=>exact h.pure (j9 _ hu)
theorem q76 {x:AV} {v:Value} (h:RV w S β n (x.mv ι ρ) v) (hu:x.un m=true):RV w S (fun s=>β (ρ s)) m x v:=by
 have key:∀(cs:List AV) (u:Nat→Value),cs.all (AV.un1 m)=true→(∀(i:Nat) (y:AV),(cs.map (AV.mv1 ι ρ))[i]? =some y→RV w S β n y (u i))→∀(i:Nat) (y:AV),cs[i]? =some y→RV w S (fun s=>β (ρ s)) m y (u i):=by
  intro cs u hu hr i y hi
  exact qjr (hr i (y.mv1 ι ρ) (by rw [Av,hi];rfl)) (Aw.1 hu y (Af hi))
 have keyA:∀(y:AV) (u:Value),y.unA m=true→RV w S β n (y.mvA ι ρ) u→RV w S (fun s=>β (ρ s)) m y u:=by
  intro y u hu hr
  cases y with
  | agg cs=>
    cases hr with
    | agg _ vs hs h1 hr=>exact .agg cs vs (by simpa using hs) (fun y hy=>by rw [←qga ι ρ];exact h1 _ (Ck hy)) (key cs _ hu hr)
  | _=>exact qjr (ι:=ι) (ρ:=ρ) hr hu
 cases x with
 | agg cs=>
   cases h with
   | agg _ vs hs h1 hr=>exact .agg cs vs (by simpa using hs) (fun y hy=>by rw [←qga ι ρ];exact h1 _ (Ck hy)) (key cs _ hu hr)
 | tup cs=>
   cases h with
   | tup _ vs hs hr=>exact .tup cs vs (by simpa using hs) (fun i y hi=>keyA y _ (Aw.1 hu y (Af hi)) (hr i (y.mvA ι ρ) (by rw [Av,hi];rfl)))
 | fn f cs=>
   cases h with
   | fn _ _ vs hs hr=>exact .fn f cs vs (by simpa using hs) (key cs _ hu hr)
 | ptr i s o=>exact qjr (x:= .ptr i s o) h hu
 | optr i s o=>exact qjr (x:= .optr i s o) h hu
 | bs a i s o l=>exact qjr (x:= .bs a i s o l) h hu
 | _=>exact h.pure (j9 _ hu)
theorem zam (hb:∀s,s < m→β' (ρ s)=β s∧ρ s < n) {x:AV} {v:Value} (h:RV w S β m x v) (hu:x.un m=true):RV w S β' n (x.mv ι ρ) v:=by
 have key:∀(cs:List AV) (u:Nat→Value),cs.all (AV.un1 m)=true→(∀(i:Nat) (y:AV),cs[i]? =some y→RV w S β m y (u i))→∀(i:Nat) (y:AV),(cs.map (AV.mv1 ι ρ))[i]? =some y→RV w S β' n y (u i):=by
  intro cs u hu hr i y hi
  rw [Av,Am] at hi
  obtain ⟨z,hz,rfl⟩:=hi
  exact ql7 hb (hr i z hz) (Aw.1 hu z (Af hz))
 have keyA:∀(y:AV) (u:Value),y.unA m=true→RV w S β m y u→RV w S β' n (y.mvA ι ρ) u:=by
  intro y u hu hr
  cases y with
  | agg cs=>
    cases hr with
    | agg _ vs hs h1 hr=>exact .agg _ vs (by simpa using hs) (fun y hy=>by
       obtain ⟨z,hz,rfl⟩:=BG.1 hy
       rw [qga];exact h1 z hz) (key cs _ hu hr)
  | _=>exact ql7 (ι:=ι) (ρ:=ρ) hb hr hu
 cases x with
 | agg cs=>
   cases h with
   | agg _ vs hs h1 hr=>exact .agg _ vs (by simpa using hs) (fun y hy=>by
      obtain ⟨z,hz,rfl⟩:=BG.1 hy
      rw [qga];exact h1 z hz) (key cs _ hu hr)
 | tup cs=>
   cases h with
   | tup _ vs hs hr=>exact .tup _ vs (by simpa using hs) (fun i y hi=>by
      rw [Av,Am] at hi
      obtain ⟨z,hz,rfl⟩:=hi
      exact keyA z _ (Aw.1 hu z (Af hz)) (hr i z hz))
 | fn f cs=>
   cases h with
   | fn _ _ vs hs hr=>exact .fn f _ vs (by simpa using hs) (key cs _ hu hr)
 | ptr i s o=>exact ql7 (x:= .ptr i s o) hb h hu
 | optr i s o=>exact ql7 (x:= .optr i s o) hb h hu
 | bs a i s o l=>exact ql7 (x:= .bs a i s o l) hb h hu
 | _=>exact h.pure (j9 _ hu)
theorem q4d {x y:AV} {v:Value} (hm:Mvd ι ρ m x y) (h:RV w S β n y v):RV w S (fun s=>β (ρ s)) m x v:=by
 rcases hm with ⟨rfl,hu⟩ | ⟨rfl,hp⟩
 ·exact q76 h hu
 exact h.pure hp
theorem q82 (hb:∀s,s < m→β' (ρ s)=β s∧ρ s < n) {x y:AV} {v:Value} (hm:Mvd ι ρ m x y) (h:RV w S β m x v):RV w S β' n y v:=by
 rcases hm with ⟨rfl,hu⟩ | ⟨rfl,hp⟩
 ·exact zam hb h hu
 exact h.pure hp
theorem qqb (hb:∀s,s < m→β' (ρ s)=β s∧ρ s < n) {cs:List AV} {c:Nat→Value} (hu:cs.all (AV.un1 m)=true) (h:∀(i:Nat) (x:AV),cs[i]? =some x→x.one=true∧RV w S β m x (c i)):
 ∀(i:Nat) (x:AV),(cs.map (AV.mv1 ι ρ))[i]? =some x→x.one=true∧RV w S β' n x (c i):=by
 intro i y hi
 rw [Av,Am] at hi
 obtain ⟨z,hz,rfl⟩:=hi
 exact ⟨by rw [qga];exact (h i z hz).1,ql7 hb (h i z hz).2 (Aw.1 hu z (Af hz))⟩
theorem qqc {cs:List AV} {c:Nat→Value} (hu:cs.all (AV.un1 m)=true) (h:∀(i:Nat) (x:AV),(cs.map (AV.mv1 ι ρ))[i]? =some x→x.one=true∧RV w S β n x (c i)):
 ∀(i:Nat) (x:AV),cs[i]? =some x→x.one=true∧RV w S (fun s=>β (ρ s)) m x (c i):=by
 intro i y hi
 have:=h i (y.mv1 ι ρ) (by rw [Av,hi];rfl)
 exact ⟨by rw [←qga ι ρ];exact this.1,qjr this.2 (Aw.1 hu y (Af hi))⟩
theorem zai {F F':Nat→Prop} {b:Nat} (hb:∀s,s < m→β' (ρ s)=β s∧ρ s < n) (hF:∀k,¬F k→¬F' k) {o:Obj} (hu:o.un m=true) (h:OR w S F β m b o):OR w S F' β' n b (o.mv ι ρ):=by
 cases o with
 | dead=>trivial
 | var t cs=>obtain ⟨c,h1,h2,h3,h4,h5⟩:=h;exact ⟨c,h1,by rw [h2,As],h3,hF _ h4,qqb hb hu h5⟩
 | row t cs=>intro hne;obtain ⟨c,h1,h2,h3,h4,h5⟩:=h (fun e=>hne (by rw [e];rfl));exact ⟨c,h1,by rw [As];exact h2,h3,hF _ h4,qqb hb hu h5⟩
 | froz t cs=>obtain ⟨c,fr,h1,h2,h3,h5⟩:=h;exact ⟨c,fr,h1,by rw [As];exact h2,h3,qqb hb hu h5⟩
theorem q74 {F F':Nat→Prop} {b:Nat} {o:Obj} (hF:¬F' b) (hu:o.un m=true) (h:OR w S F β n b (o.mv ι ρ)):OR w S F' (fun s=>β (ρ s)) m b o:=by
 cases o with
 | dead=>trivial
 | var t cs=>obtain ⟨c,h1,h2,h3,h4,h5⟩:=h;exact ⟨c,h1,by rw [h2,As],h3,hF,qqc hu h5⟩
 | row t cs=>intro hne;obtain ⟨c,h1,h2,h3,h4,h5⟩:=h (fun e=>hne (List.map_eq_nil_iff.1 e));exact ⟨c,h1,by rw [As] at h2;exact h2,h3,hF,qqc hu h5⟩
 | froz t cs=>obtain ⟨c,fr,h1,h2,h3,h5⟩:=h;exact ⟨c,fr,h1,by rw [As] at h2;exact h2,h3,qqc hu h5⟩
end
theorem qam (ι ρ:Nat→Nat) (o:Obj):(o.mv ι ρ).live=o.live:=by
 cases o with
 | row t cs=>cases cs <;> rfl
 | _=>rfl
def qec (ρ:Nat→Nat) (r n:Nat) (s:Nat):Nat:=if s < r then ρ s else n+(s - r)
def Obj.ghost:Obj→Bool
 | .row _ []=>true
 | _=>false
theorem ACalls.frame {f:FuncId} {xs0 xs:List AV} {x y:AV} {r m' n:Nat} {O O' objs objs2:Objs} {ι ι' ρ:Nat→Nat} (h:ACalls P G f xs0 ⟨r,O⟩ x ⟨m',O'⟩)
 (hxl:xs.length=xs0.length) (hxs:∀(i:Nat) (a:AV),xs0[i]? =some a→∃b,xs[i]? =some b∧Mvd ι ρ r a b)
 (hO:∀(j s:Nat) (o:Obj),O[j]? =some (s,o)→(o.live || o.ghost)=true∧s < r∧objs[ι j]? =some (ρ s,o.mv ι ρ)∧o.un r=true)
 (hι:∀j j',j < O.length→j' < O.length→ι j=ι j'→j=j') (hρ:∀s,s < r→ρ s < n) (hr:r≤m')
 (hx:Mvd ι' (qec ρ r n) m' x y) (hun:∀(j s:Nat) (o:Obj),O'[j]? =some (s,o)→o.un m'=true)
 (ho:∀(i s:Nat) (o:Obj),objs2[i]? =some (s,o)→(∃j s' o',O'[j]? =some (s',o')∧s=qec ρ r n s'∧o=o'.mv ι' (qec ρ r n)∧i=ι' j)∨(objs[i]? =some (s,o)∧∀j,j < O.length→ι j≠i)):
 ACalls P G f xs ⟨n,objs⟩ y ⟨n+(m' - r),objs2⟩:=by
 intro w S F β vs hH hv
 have hnF:∀(j s:Nat) (o:Obj),O[j]? =some (s,o)→o.live=true→¬S (β (ρ s))∧¬F (β (ρ s))∧β (ρ s) < w.heap.size:=by
  intro j s o hj h1
  obtain ⟨_,h2,h3,h4⟩:=hO j s o hj
  have hor:=hH.obj _ _ _ h3
  have hl:(o.mv ι ρ).live=true:=by rw [qam];exact h1
  exact ⟨(hor.notS hl).1,(hor.notS hl).2,hor.lt hl⟩
 have hF0:∀k,F k→k < w.heap.size∧∀(j s:Nat) (o:Obj),O[j]? =some (s,o)→o.live=true→k≠β (ρ s):=fun k hk=>⟨hH.ltf k hk,fun j s o hj hv e=>(hnF j s o hj hv).2.1 (e ▸ hk)⟩
 have h0:HR G w S (fun k=>k < w.heap.size∧∀(j s:Nat) (o:Obj),O[j]? =some (s,o)→o.live=true→k≠β (ρ s)) (fun s=>β (ρ s)) ⟨r,O⟩:=by
  refine ⟨hH.lts,fun k hk=>hk.1,fun g=>(hH.glob g).pure (.rptr _),fun i s o hi=>(hO i s o hi).2.1,fun i j si sj oi oj hi hj hne h1 h2=> ?_,fun i s o hi=> ?_⟩
  ·obtain ⟨a1,a2,a3,_⟩:=hO i si oi hi
   obtain ⟨b1,b2,b3,_⟩:=hO j sj oj hj
   exact hH.inj _ _ _ _ _ _ a3 b3 (fun e=>hne (hι i j (Ah.1 hi).1 (Ah.1 hj).1 e)) (by rw [qam];exact h1) (by rw [qam];exact h2)
  obtain ⟨a1,a2,a3,a4⟩:=hO i s o hi
  cases hl:o.live with
  | true=>exact q74 (fun hk=>hk.2 i s o hi hl rfl) a4 (hH.obj _ _ _ a3)
  | false=>
    rw [hl,BC] at a1
    cases o with
    | row t cs=>
      cases cs with
      | nil=>exact fun h=>absurd rfl h
      | cons a l=>cases a1
    | _=>cases a1
 have hv0:RVs w S (fun s=>β (ρ s)) r xs0 vs:=⟨by rw [hv.1,hxl],fun i a hi=>by
  obtain ⟨b,hb,hm⟩:=hxs i a hi
  exact q4d hm (hv.2 i b hb)⟩
 refine (h w S _ _ vs h0 hv0).mono ?_
 rintro v w' ⟨S',β2,hx2,hH2,hR⟩
 obtain ⟨β',hb1,hup⟩:∃β':Nat→Nat,(∀s,s < n→β' s=β s)∧∀s,s < m'→β' (qec ρ r n s)=β2 s∧qec ρ r n s < n+(m' - r):=by
  refine ⟨fun s=>if s < n then β s else β2 (s - n+r),fun s hs=>if_pos hs,fun s hs=> ?_⟩
  unfold qec
  by_cases h1:s < r
  ·rw [if_pos h1]
   have:=hρ s h1
   refine ⟨?_,by omega⟩
   show (if ρ s < n then β (ρ s) else _)=_
   rw [if_pos this,hx2.beta s h1]
  rw [if_neg h1]
  refine ⟨?_,by omega⟩
  show (if n+(s - r) < n then _ else β2 (n+(s - r) - n+r))=_
  rw [if_neg (by omega)]
  congr 1;omega
 have hext:Ext w S F β n w' S' β' (n+(m' - r)):=
  ⟨hx2.os,hx2.tape,hx2.output,hx2.size,by omega,hb1,hx2.sub,fun k hk=>(hx2.new k hk).imp id (fun h hF=>h (hF0 k hF)),hx2.same,fun k hk=>hx2.fsame k (hF0 k hk),hx2.shape⟩
 refine ⟨S',_,hext,⟨hH2.lts,fun k hk=>AU (hH.ltf k hk) hx2.size,fun g=>(hH2.glob g).pure (.rptr _),fun i s o hi=> ?_,fun i j si sj oi oj hi hj hne h1 h2=> ?_,fun i s o hi=> ?_⟩,q82 hup hx hR⟩
 ·rcases ho i s o hi with ⟨j,s',o',hj,rfl,rfl,rfl⟩ | ⟨hi,_⟩
  ·exact (hup s' (hH2.ltn j s' o' hj)).2
  exact AU (hH.ltn i s o hi) (by show n≤n+(m' - r);omega)
 ·have old:∀(i s:Nat) (o:Obj),objs[i]? =some (s,o)→(∀j,j < O.length→ι j≠i)→o.live=true→β' s=β s∧β s < w.heap.size∧∀(j s':Nat) (o':Obj),O[j]? =some (s',o')→o'.live=true→β s≠β (ρ s'):=by
   intro i s o hi hno hl
   refine ⟨hb1 s (hH.ltn i s o hi),(hH.obj i s o hi).lt hl,fun j s' o' hj a1=> ?_⟩
   obtain ⟨_,a2,a3,_⟩:=hO j s' o' hj
   exact hH.inj i _ _ _ _ _ hi a3 (fun e=>hno j (Ah.1 hj).1 e.symm) hl (by rw [qam];exact a1)
  rcases ho i si oi hi with ⟨j1,s1,o1,hj1,rfl,rfl,rfl⟩ | ⟨hi1,hn1⟩ <;> rcases ho j sj oj hj with ⟨j2,s2,o2,hj2,rfl,rfl,rfl⟩ | ⟨hi2,hn2⟩
  ·rw [(hup s1 (hH2.ltn j1 s1 o1 hj1)).1,(hup s2 (hH2.ltn j2 s2 o2 hj2)).1]
   rw [qam] at h1 h2
   exact hH2.inj j1 j2 _ _ _ _ hj1 hj2 (fun e=>hne (by rw [e])) h1 h2
  ·rw [(hup s1 (hH2.ltn j1 s1 o1 hj1)).1]
   rw [qam] at h1
   obtain ⟨e1,e2,e3⟩:=old j sj oj hi2 hn2 h2
   rw [e1]
   intro e
   exact ((hH2.obj j1 s1 o1 hj1).notS h1).2 (e ▸ ⟨e2,e3⟩)
  ·rw [(hup s2 (hH2.ltn j2 s2 o2 hj2)).1]
   rw [qam] at h2
   obtain ⟨e1,e2,e3⟩:=old i si oi hi1 hn1 h1
   rw [e1]
   intro e
   exact ((hH2.obj j2 s2 o2 hj2).notS h2).2 (e ▸ ⟨e2,e3⟩)
  obtain ⟨e1,_⟩:=old i si oi hi1 hn1 h1
  obtain ⟨e2,_⟩:=old j sj oj hi2 hn2 h2
  rw [e1,e2]
  exact hH.inj i j _ _ _ _ hi1 hi2 hne h1 h2
 rcases ho i s o hi with ⟨j,s',o',hj,rfl,rfl,rfl⟩ | ⟨hi1,hn1⟩
 ·rw [(hup s' (hH2.ltn j s' o' hj)).1]
  exact zai hup (fun k hk hF=>hk (hF0 k hF)) (hun j s' o' hj) (hH2.obj j s' o' hj)
 have hs:=hH.ltn i s o hi1
 rw [hb1 s hs]
 have hor:=hH.obj i s o hi1
 cases hl:o.live with
 | false=>
   cases o with
   | dead=>trivial
   | var t cs=>cases hl
   | row t cs=>exact OR.nil hl
   | froz t cs=>
     have hS:=hor
     obtain ⟨_,_,_,_,hS,_⟩:=hS
     exact hor.to (fun _ _=>RV.ext hext) (hext.same _ hS) (fun h=>absurd hS h) (hext.sub _) (fun h=>h)
 | true=>
   have hb:=hor.lt hl
   have hF1:β s < w.heap.size∧∀(j s':Nat) (o':Obj),O[j]? =some (s',o')→o'.live=true→β s≠β (ρ s'):=by
    refine ⟨hb,fun j s' o' hj a1=> ?_⟩
    obtain ⟨_,a2,a3,_⟩:=hO j s' o' hj
    exact hH.inj i _ _ _ _ _ hi1 a3 (fun e=>hn1 j (Ah.1 hj).1 e.symm) hl (by rw [qam];exact a1)
   exact hor.to (fun _ _=>RV.ext hext) (hx2.fsame _ hF1) (fun hS hS'=>(hx2.new _ hS').elim hS (fun h=>h hF1)) (hext.sub _) (fun h=>h)
def vj (P:Program) (G:Nat→List AV) (m:Nat) (H:Hp) (y x:AV) (H2:Hp):Prop:=
 ∀w S F β v,HR G w S F β H→m≤H.n→RV w S β H.n y v→∃S2 β2,Ext w S F β m w S2 β2 H2.n∧HR G w S2 F β2 H2∧RV w S2 β2 H2.n x v
section
variable {w:World} {S F:Nat→Prop} {β:Nat→Nat}
theorem qkv {ρ:Nat→Nat} {n':Nat} {o o':Obj} (h:leO ρ n' o o') (hl:o'.live=true):o.live=true:=by
 unfold leO at h
 split at h
 ·cases hl
 ·split at h
  ·rfl
  exact h.elim
 ·split at h
  ·obtain ⟨rfl,rfl,_⟩:=h;exact hl
  exact h.elim
 cases hl
theorem q4l {ρ:Nat→Nat} {n n' b:Nat} {o o':Obj} (l1:leO ρ n' o o') (h:OR w S F β n b o):OR w S F (fun s=>β (ρ s)) n' b o':=by
 unfold leO at l1
 split at l1
 ·trivial
 ·split at l1
  ·rename_i cs _ t' cs'
   obtain ⟨rfl,hc⟩:=l1
   obtain ⟨hl,hg⟩:=qt6 _ _ hc
   obtain ⟨c,h1,h2,h3,h4,h5⟩:=h
   refine ⟨c,h1,by rw [h2,hl],h3,h4,fun i x hi=> ?_⟩
   obtain ⟨v,hv,hvu⟩:=hg i x hi
   obtain ⟨ho1,hR⟩:=h5 i _ hv
   rcases hvu with ⟨rfl,hu⟩ | hvu
   ·exact ⟨by rw [←ho1];cases x <;> rfl,qf7 hR hu⟩
   exact ⟨(qtb hvu).2,qof hvu hR⟩
  exact l1.elim
 ·split at l1
  ·obtain ⟨rfl,rfl,hc⟩:=l1
   intro hne
   obtain ⟨c,h1,h2,h3,h4,h5⟩:=h hne
   exact ⟨c,h1,h2,h3,h4,fun i x hi=>⟨(h5 i x hi).1,(h5 i x hi).2.pure (j9 x (hc x (Af hi)))⟩⟩
  exact l1.elim
 split at l1
 ·obtain ⟨rfl,rfl,hc⟩:=l1
  obtain ⟨c,fr,h1,h2,h3,h5⟩:=h
  exact ⟨c,fr,h1,h2,h3,fun i x hi=>⟨(h5 i x hi).1,(h5 i x hi).2.pure (j9 x (hc x (Af hi)))⟩⟩
 exact l1.elim
theorem q9c {n n':Nat} {objs objs':Objs} {ρ:Nat→Nat} (hH:HR G w S F β ⟨n,objs⟩) (ho:leOs ρ n' objs objs'):HR G w S F (fun s=>β (ρ s)) ⟨n',objs'⟩:=by
 refine ⟨hH.lts,hH.ltf,fun g=>(hH.glob g).pure (.rptr _),fun i s o hi=> ?_,fun i j si sj oi oj hi hj hne h1 h2=> ?_,fun i s o hi=> ?_⟩
 ·obtain ⟨_,_,_,_,h,_⟩:=qan _ _ ho i s o hi;exact h
 ·obtain ⟨s1,o1,e1,rfl,_,l1⟩:=qan _ _ ho i si oi hi
  obtain ⟨s2,o2,e2,rfl,_,l2⟩:=qan _ _ ho j sj oj hj
  exact hH.inj i j _ _ o1 o2 e1 e2 hne (qkv l1 h1) (qkv l2 h2)
 obtain ⟨s1,o1,e1,rfl,_,l1⟩:=qan _ _ ho i s o hi
 exact q4l l1 (hH.obj i _ o1 e1)
end
theorem ku {T:TT} {f:Nat} {fn:Func} {c:Code} {rs:List ResultVar} {xs:List AV} {x:AV} {m m':Nat} {O O':Objs} (hcall:∀vs w,(callFunc f vs).run P w= .ok (.enter f vs) w) (hf:P.funcs[f]? =some fn) (hb:fn.body=some c) (hN:fn.ntmps=N) (hr:fn.results.toList=rs) (hle:Nat.ble xs.length N=true)
 (hok:Zn N c=true) (h:Ok P G T N m (Ret P rs (fun y H=>vj P G m H y x ⟨m',O'⟩)) (.go (qjb 0 xs) [.code c] [] .z m O)):ACalls P G f xs ⟨m,O⟩ x ⟨m',O'⟩:=by
 subst hN hr
 intro w S F β vs hH hv
 rw [hcall]
 show Calls P f vs w _
 have hA:AWp P G fn.ntmps m c (Ret P fn.results.toList (fun y H=>vj P G m H y x ⟨m',O'⟩)) (qas xs) ⟨m,O⟩:=by
  unfold Ok at h
  have:=h (by simp only [wa,hok,Bm])
  rw [qef] at this
  exact this
 refine calls_of_wp hf hb (wp_mono (hA [] w S F β _ (Aj _) hH (qlb hv (Ao hle))) ?_)
 rintro e a' w' ⟨fr',H',S',β',q,hx1,hp,hH',hf'⟩
 have fin:∀y,Zm P fn.results.toList fr' H'=some y→vj P G m H' y x ⟨m',O'⟩→a'.defers= []∧∃v,(results fn a'.tmps).run P w'= .ok v w'∧∃u,Ending.returned v= .returned u∧∃S2 β2,Ext w S F β m w' S2 β2 m'∧HR G w' S2 F β2 ⟨m',O'⟩∧RV w' S2 β2 m' x u:=by
  intro y hy ht
  obtain ⟨v,hrun,hR⟩:=qjn (P:=P) hH' hf' hy
  obtain ⟨S2,β2,hx2,hH2,hR2⟩:=ht w' S' F β' v hH' hp hR
  exact ⟨hf'.defers,v,hrun,v,rfl,S2,β2,hx1.trans hx2,hH2,hR2⟩
 cases e <;> first
  | exact q.elim
  | (obtain ⟨y,hy,hyx⟩:=q
     exact fin y hy hyx)
section
variable {T:TT} {Q:Exit→Fr→Hp→Prop} {k:List Item} {kn:List Nat} {fr:FT} {n:Nat} {objs:Objs} {all:Array Oper} {os:List Oper} {u:Tmp}
theorem yp (E:Env P T) {rs:List ResultVar} {y:AV} {K:AV→Hp→Prop} (hk:qi7 k=true) (h:qkp T fr objs rs qi6=some y) (ht:K y ⟨n,objs⟩):Ok P G T N p (Ret P rs K) (.fin .ret k fr n objs):=by
 unfold Ok
 intro _
 refine qj8 k (Wm k hk) ?_
 obtain ⟨xs,h1,h2⟩:=qhm (n:=n) E.hT rs _ h
 refine ⟨y,?_,ht⟩
 unfold Zm
 rw [h1]
 unfold qi6 at h2
 split at h2
 ·exact h2
 rename_i hne
 split
 ·rename_i x' hx'
  exact absurd (Bh hx') (hne x')
 ·rename_i xs' _ hx'
  cases hx'
  exact h2
 rename_i hx';cases hx'
section
variable {α:Type}
theorem q4j {fr fr':FT} {n n':Nat} {objs objs':Objs} (ρ:Nat→Nat) (hid:∀s,s < p→ρ s=s) (hp:p≤n') (hf:leFT ρ n' fr fr') (ho:leOs ρ n' objs objs'):Less G N p (frT fr) ⟨n,objs⟩ (frT fr') ⟨n',objs'⟩:=by
 unfold Less
 intro D w S F β a _ hH hfr
 exact ⟨S,fun s=>β (ρ s),⟨rfl,rfl,rfl,Aj _,Aj _,fun s hs=>by rw [hid s hs],fun _ h=>h,fun _ h=> .inl h,fun _ _=>rfl,fun _ _=>rfl,fun _ _ h=>h⟩,hp,q9c hH ho,⟨hfr.size,hfr.defers,fun t=>q4k (qe8 _ _ hf t) (hfr.val t)⟩⟩
end
def mvdL (ι ρ:Nat→Nat) (m:Nat):List AV→List AV→Prop
 | [], []=>True
 | a::as,b::bs=>Mvd ι ρ m a b∧mvdL ι ρ m as bs
 | _,_=>False
theorem qpg {ι ρ:Nat→Nat} {m:Nat}:∀(as bs:List AV),mvdL ι ρ m as bs→bs.length=as.length∧∀(i:Nat) (a:AV),as[i]? =some a→∃b,bs[i]? =some b∧Mvd ι ρ m a b
 | [], [],_=>⟨rfl,by simp⟩
 | [],_::_,h=>h.elim
 | _::_, [],h=>h.elim
 | a::as,b::bs,h=>by
   obtain ⟨h1,h2⟩:=qpg as bs h.2
   refine ⟨by simp [h1],fun i x hi=> ?_⟩
   cases i with
   | zero=>simp at hi;subst hi;exact ⟨b,rfl,h.1⟩
   | succ i=>simpa using h2 i x (by simpa using hi)
def ql4:List Nat→Objs→Objs→Objs
 | i::is,q::qs,objs=>ql4 is qs (objs.set i q)
 | _,_,objs=>objs
theorem qov:∀(ids:List Nat) (Q objs:Objs),ids.length≤Q.length→∀(i:Nat) (q:Nat × Obj),(ql4 ids Q objs)[i]? =some q→(∃j:Nat,ids[j]? =some i∧Q[j]? =some q)∨(objs[i]? =some q∧∀j:Nat,ids[j]? ≠some i)
 | [],Q,objs,_,i,q,h=> .inr ⟨by cases Q <;> exact h,by simp⟩
 | a::is, [],objs,hl,i,q,h=>by simp at hl
 | a ::is,b::Q,objs,hl,i,q,h=>by
   rw [ql4] at h
   rcases qov is Q _ (by simpa using hl) i q h with ⟨j,h1,h2⟩ | ⟨h1,h2⟩
   ·exact .inl ⟨j+1,by simpa using h1,by simpa using h2⟩
   by_cases e:a=i
   ·subst e
    rw [List.getElem?_set,if_pos rfl] at h1
    split at h1
    ·exact .inl ⟨0,rfl,by simpa using h1⟩
    cases h1
   rw [List.getElem?_set,if_neg e] at h1
   refine .inr ⟨h1,fun j=> ?_⟩
   cases j with
   | zero=>simpa using e
   | succ j=>simpa using h2 j
end
section
variable {T:TT} {Q:Exit→Fr→Hp→Prop} {k:List Item} {kn:List Nat} {fr:FT} {n:Nat} {objs:Objs} {d:Bool} {all:Array Oper} {os:List Oper} {u:Tmp} {ty:TypeId} {pos:String} {aft:Array Edge}
theorem qrh {a b:Operand} {t t1 e:TypeId} {sz by_ id s0 len m:Nat} {news cs z:List AV} {it ie:TI} (E:Env P T)
 (ha:ev G (frT fr) a= .bs sz id s0 0 len) (ht:T.get t=some it) (he:it.elem=some (e,sz)) (hie:T.get e=some ie) (hz:ie.zero=some z) (hzl:z.length=sz) (h0:0 < sz)
 (hby:qdv P e=some by_) (hn:qcj P t1=true) (hb:wx ⟨n,objs⟩ sz (ev G (frT fr) b)=some (m,news)) (ho:objs[id]? =some (s0, .row e cs)) (hcs:cs.length=len*sz) (hpos:0 < len+m) (hr:(len+m)*by_≤140737488355328) (hmx:len+m≤9223372036854775807)
 (hc:Ok P G T N p Q (.go [(u, .bs sz id n 0 (len+m))] (.ops d all os::k) (unkn (some u) kn) fr (n+1) (objs.set id (n, .row e (cs++news))))) (hcp:d=false∨qap a=false:=by first | exact .inl rfl | exact .inr rfl):
 Ok P G T N p Q (.gen ⟨some u, .call ⟨.builtin .append, #[a,b], #[t,t1]⟩,ty,pos,aft,none⟩ d all os k kn fr n objs):=by
 refine qdy (qqi hcp) ?_ hc
 simp only [evalOp,Jx,v6,AX,BU,ha,qau,(ti E.hT ht).elem _ he,hby,(ti E.hT hie).zero _ hz]
 rw [if_pos ⟨h0,hzl,hn⟩]
 simp only [hb,if_true,ho]
 rw [if_pos ⟨trivial,trivial,by omega,hpos,hmx,hr⟩]
 rw [Bi (by omega)]
end
end Go.Proofs.YtpnkemogepoioaaGreatDoorW.Ex
