/- Trees and their tokens: how a node of each kind is made out of its kids. Conditions: those in each theorem. What is read is a well-formed tree with all gaps, whose tokens are those that were read. Conditions: those in each theorem. -/
import Derived.Test.YtpnkemogepoioaaGreatDoorAF
import Derived.Test.YtpnkemogepoioaaGreatDoorYb
namespace Go.Proofs.YtpnkemogepoioaaGreatDoorW.Ex.Gr
open Go Go.Proofs.YtpnkemogepoioaaGreatDoorW.Ex Go.Proofs.YtpnkemogepoioaaGreatDoorW.Plain
set_option linter.all false
set_option maxRecDepth 100000
namespace Ps
open Tk
def tw (T:List Token):List Tok:=T.map fun x=>(x.Lead,x.Text)
theorem Yb (a b:List Token):tw (a++b)=tw a++tw b:=BZ
mutual
def fullN:Node→Prop
 | .mk k t g l=>(g.length:Int)=own (.mk k t g l)∧q43 l
def q43:List Node→Prop
 | []=>True
 | n::l=>fullN n∧q43 l
end
theorem qwt:∀(l:List Node),(∀m∈l,fullN m)→q43 l
 | [],_=>trivial
 | n::l,h=>⟨h n (AK ..),qwt l fun m hm=>h m (Ay _ hm)⟩
structure WF (n:Node) (T:List Token):Prop where
 fe:firstErr n=0
 fu:fullN n
 tk:∀l v,toks 0 n l v=tw T
theorem qst:∀(l:List Node),(∀m∈l,firstErr m=0)→wi l=0
 | [],_=>rfl
 | n::l,h=>by rw [wi,if_pos (h n (AK ..))];exact qst l fun m hm=>h m (Ay _ hm)
def vg (g:List BA):Prop:=∀x∈g,trivValid x=true
theorem qyz {α:Type} (p:Nat→α→Bool):∀(l:List α) (i:Nat),(∀(j:Nat) (m:α),l[j]? =some m→p (i+j) m=true)→Q7 p i l=true
 | [],i,_=>rfl
 | m::l,i,h=>by
   rw [Q7,show p i m=true from h 0 m rfl,Bv]
   exact qyz p l (i+1) fun j m hm=>by rw [show i+1+j=i+(j+1) by omega];exact h (j+1) m hm
theorem q13 {n:Node} (kn:known n.kind=true) (hk:Yd n=true) (hs:Kw n=true) (hl:Wn n=true) (hc:qat n=true) (hg:vg n.gaps) (ho:(n.gaps.length:Int)=own n):vm n=0:=by
 have h1:qhw n=true:=by
  unfold qhw qub
  rw [decide_eq_true ho,Bool.and_true,qyz _ _ _ (fun j m hm=>hg m (Af hm))]
  exact Bool.or_true _
 unfold vm qai
 rw [kn,hk,hs,hl,hc,h1];rfl
theorem WF.make {k:Int} {t:BA} {g:List BA} {ks:List Node} {T:List Token} (kn:known k=true) (hk:Yd (.mk k t g ks)=true) (hs:Kw (.mk k t g ks)=true) (hl:Wn (.mk k t g ks)=true) (hc:qat (.mk k t g ks)=true) (hg:vg g) (ho:(g.length:Int)=own (.mk k t g ks))
 (hks:∀m∈ks,firstErr m=0∧fullN m) (ht:∀l v,Z1 (stepsOf 0 k t ks.length l v) g (Ka 0 ks)=tw T):WF (.mk k t g ks) T:=by
 refine ⟨?_,?_,fun l v=> ?_⟩
 ·rw [firstErr,if_pos (q13 (n:= .mk k t g ks) kn hk hs hl hc hg ho)]
  exact qst ks fun m hm=>(hks m hm).1
 ·rw [fullN];exact ⟨ho,qwt ks fun m hm=>(hks m hm).2⟩
 rw [qzg];exact ht l v
theorem qfd {p:Int} {i:Nat} {q:Int × Int} (hp:known p=true) (hq:Kb p (i:Int)=q) {k:Int} (hk:known k=true) (h:if q.2=0 then q.1=k else q.2=yo k):fits p i k=true:=by
 unfold fits
 rw [hp,hk,hq,decide_eq_true (BL i)]
 split at h
 ·rename_i e;rw [if_pos e,decide_eq_true h];rfl
 rename_i e;rw [if_neg e,decide_eq_true h];rfl
theorem qbu {n:Node} (h1:(jc n.kind).first.length≤n.kids.length) (h2:(jc n.kind).rest=(0,0)→n.kids.length≤(jc n.kind).first.length) (h3:∀(i:Nat) (m:Node),n.kids[i]? =some m→fits n.kind i m.kind=true):Yd n=true:=by
 unfold Yd
 by_cases h14:n.kind=14∧n.kids.length=0
 ·rw [if_pos h14]
 rw [if_neg h14,if_neg (by rintro (h | ⟨h,e⟩);omega;have:=h2 e;omega)]
 unfold qfc
 exact qyz _ _ _ fun j m hm=>by rw [AN];exact h3 j m hm
theorem Yn {k:Int} (h:yo k=3):known k=true:=by
 unfold yo at h
 unfold known
 by_cases h1:k=2∨k=7∨k=9
 ·rw [if_pos h1] at h;exact absurd h (by decide)
 rw [if_neg h1] at h
 by_cases h2:k=10∨k=11∨k=12∨k=13∨k=15∨k=16
 ·rw [if_pos h2] at h;exact absurd h (by decide)
 rw [if_neg h2] at h
 by_cases h3:17≤k∧k≤26
 ·rw [decide_eq_true (by omega),decide_eq_true (by omega)];rfl
 rw [if_neg h3] at h;exact absurd h (by decide)
theorem q41 {k:Int} (h:yo k=2):known k=true:=by
 unfold yo at h
 unfold known
 by_cases h1:k=2∨k=7∨k=9
 ·rw [if_pos h1] at h;exact absurd h (by decide)
 rw [if_neg h1] at h
 by_cases h2:k=10∨k=11∨k=12∨k=13∨k=15∨k=16
 ·rw [decide_eq_true (by omega),decide_eq_true (by omega)];rfl
 rw [if_neg h2] at h
 split at h <;> exact absurd h (by decide)
theorem q42 {k:Int} (h:yo k=1):known k=true:=by
 unfold yo at h
 unfold known
 by_cases h1:k=2∨k=7∨k=9
 ·rw [decide_eq_true (by omega),decide_eq_true (by omega)];rfl
 rw [if_neg h1] at h
 split at h
 ·exact absurd h (by decide)
 split at h <;> exact absurd h (by decide)
inductive KL (p:Int→Prop):List Node→List Token→Prop
 | nil:KL p [] []
 | cons {m:Node} {T1 T2:List Token} {ks:List Node}:WF m T1→p m.kind→KL p ks T2→KL p (m::ks) (T1++T2)
theorem KL.mem {p:Int→Prop} {ks:List Node} {T:List Token} (h:KL p ks T):∀m∈ks,(firstErr m=0∧fullN m)∧p m.kind:=by
 induction h with
 | nil=>exact fun m hm=>by cases hm
 | cons h1 h2 _ ih=>
   intro m hm
   rcases AE.1 hm with e | hm
   ·rw [e];exact ⟨⟨h1.fe,h1.fu⟩,h2⟩
   exact ih m hm
theorem KL.weaveA {p:Int→Prop} {ks:List Node} {T:List Token} (h:KL p ks T):∀(l:BA) (v:Int) (R:List Step) (g:List BA),Z1 (allS l v ks.length++R) g (Ka 0 ks)=tw T++Z1 R g []:=by
 induction h with
 | nil=>exact fun l v R g=>rfl
 | cons h1 _ _ ih=>
   intro l v R g
   rw [Ae,allS,Ka,AJ,Z1,h1.tk,ih,Yb,Ap]
theorem KL.weaveF {p:Int→Prop} {ks:List Node} {T:List Token} (h:KL p ks T):∀(l:BA) (v:Int) (R:List Step) (g:List BA),Z1 (qbe v l ks.length++R) g (Ka 0 ks)=tw T++Z1 R g []:=by
 induction h with
 | nil=>exact fun l v R g=>rfl
 | cons h1 _ _ ih=>
   intro l v R g
   rw [Ae,qbe,Ka,AJ,Z1,h1.tk,ih,Yb,Ap]
inductive AR (p:Int→Prop):Bool→List BA→List Node→List Token→Prop
 | last {b:Bool} {x:Token}:x.Text=⟨#[41]⟩→trivValid x.Lead=true→AR p b [x.Lead] [] [x]
 | first {m:Node} {T1 T2:List Token} {g:List BA} {ks:List Node}:WF m T1→p m.kind→AR p false g ks T2→AR p true g (m::ks) (T1++T2)
 | next {x:Token} {m:Node} {T1 T2:List Token} {g:List BA} {ks:List Node}:x.Text=⟨#[44]⟩→trivValid x.Lead=true→WF m T1→p m.kind→AR p false g ks T2→AR p false (x.Lead::g) (m::ks) (x::(T1++T2))
theorem AR.mem {p:Int→Prop} {b:Bool} {g:List BA} {ks:List Node} {T:List Token} (h:AR p b g ks T):(∀m∈ks,(firstErr m=0∧fullN m)∧p m.kind)∧vg g:=by
 induction h with
 | last _ hv=>exact ⟨fun m hm=>(by cases hm),fun y hy=>by rw [AO.1 hy];exact hv⟩
 | first h1 h2 _ ih=>
   refine ⟨fun m hm=> ?_,ih.2⟩
   rcases AE.1 hm with e | hm
   ·rw [e];exact ⟨⟨h1.fe,h1.fu⟩,h2⟩
   exact ih.1 m hm
 | next _ hv h1 h2 _ ih=>
   refine ⟨fun m hm=> ?_,fun y hy=> ?_⟩
   ·rcases AE.1 hm with e | hm
    ·rw [e];exact ⟨⟨h1.fe,h1.fu⟩,h2⟩
    exact ih.1 m hm
   rcases AE.1 hy with e | hy
   ·rw [e];exact hv
   exact ih.2 y hy
theorem AR.len {p:Int→Prop} {b:Bool} {g:List BA} {ks:List Node} {T:List Token} (h:AR p b g ks T):g.length=ks.length+1 - (if b=true∧0 < ks.length then 1 else 0):=by
 induction h with
 | last _ _=>simp
 | first _ _ _ ih=>simp at ih ⊢;omega
 | next _ _ _ _ _ ih=>simp at ih ⊢;omega
theorem AR.weaveR {p:Int→Prop} {b:Bool} {g:List BA} {ks:List Node} {T:List Token} (h:AR p b g ks T):∀(v:Int),Z1 (Zi v b ks.length) g (Ka 0 ks)=tw T:=by
 induction h with
 | @last b x hx _=>
   intro v
   have e:Z1 (Zi v b ([]:List Node).length) [x.Lead] (Ka 0 [])= [(x.Lead,⟨#[41]⟩)]:=by cases b <;> rfl
   rw [e,←hx];rfl
 | first h1 _ _ ih=>
   intro v
   rw [Ae,Zi,Ka,Z1,h1.tk,ih,Yb]
 | next hx _ h1 _ _ ih=>
   intro v
   rw [Ae,Zi,Ka,Z1,Z1,h1.tk,ih,←hx]
   show _=(_,_)::tw _
   rw [Yb]
theorem vg1 {a:BA} (h:trivValid a=true):vg [a]:=fun x hx=>by rw [AO.1 hx];exact h
theorem vgc {a:BA} {g:List BA} (h:trivValid a=true) (hg:vg g):vg (a::g):=fun x hx=>by
 rcases AE.1 hx with e | hx
 ·rw [e];exact h
 exact hg x hx
theorem vg0:vg []:=fun x hx=>by cases hx
theorem qn1 {k:Int} {t:BA} {g:List BA} (h:(jc k).first= []):Yd (.mk k t g [])=true:=qbu (by show (jc k).first.length≤0;rw [h];exact Aj _) (fun _=>AD _) (fun i m hm=>by cases i <;> cases hm)
theorem qm7 {k:Int} {t:BA} {g:List BA} {a:Node} {q:Int × Int} (hk:known k=true) (h:(jc k).first= [q]) (hq:Kb k 0=q) (ha:known a.kind=true) (hf:if q.2=0 then q.1=a.kind else q.2=yo a.kind):Yd (.mk k t g [a])=true:=
 qbu (by show (jc k).first.length≤1;rw [h];exact Aj _) (fun _=>by show 1≤(jc k).first.length;rw [h];exact Aj _) (fun i m hm=>match i,hm with
  | 0,hm=>by cases hm;exact qfd hk hq ha hf
  | i+1,hm=>by cases hm)
theorem q8a {k:Int} {t:BA} {g:List BA} {a b:Node} {q q2:Int × Int} (hk:known k=true) (h:(jc k).first= [q,q2]) (hq:Kb k 0=q) (hq2:Kb k 1=q2) (ha:known a.kind=true) (hf:if q.2=0 then q.1=a.kind else q.2=yo a.kind) (hb:known b.kind=true) (hf2:if q2.2=0 then q2.1=b.kind else q2.2=yo b.kind):Yd (.mk k t g [a,b])=true:=
 qbu (by show (jc k).first.length≤2;rw [h];exact Aj _) (fun _=>by show 2≤(jc k).first.length;rw [h];exact Aj _) (fun i m hm=>match i,hm with
  | 0,hm=>by cases hm;exact qfd hk hq ha hf
  | 1,hm=>by cases hm;exact qfd hk hq2 hb hf2
  | i+2,hm=>by cases hm)
theorem q79 {k:Int} {t:BA} {g:List BA} {a b c:Node} {q q2 q3:Int × Int} (hk:known k=true) (h:(jc k).first= [q,q2,q3]) (hq:Kb k 0=q) (hq2:Kb k 1=q2) (hq3:Kb k 2=q3) (ha:known a.kind=true) (hf:if q.2=0 then q.1=a.kind else q.2=yo a.kind) (hb:known b.kind=true) (hf2:if q2.2=0 then q2.1=b.kind else q2.2=yo b.kind)
 (hc:known c.kind=true) (hf3:if q3.2=0 then q3.1=c.kind else q3.2=yo c.kind):Yd (.mk k t g [a,b,c])=true:=
 qbu (by show (jc k).first.length≤3;rw [h];exact Aj _) (fun _=>by show 3≤(jc k).first.length;rw [h];exact Aj _) (fun i m hm=>match i,hm with
  | 0,hm=>by cases hm;exact qfd hk hq ha hf
  | 1,hm=>by cases hm;exact qfd hk hq2 hb hf2
  | 2,hm=>by cases hm;exact qfd hk hq3 hc hf3
  | i+3,hm=>by cases hm)
theorem mem1 {P:Node→Prop} {a:Node} (h:P a):∀m∈ [a],P m:=fun m hm=>by rw [AO.1 hm];exact h
theorem memc {P:Node→Prop} {a:Node} {l:List Node} (h:P a) (hl:∀m∈l,P m):∀m∈a::l,P m:=fun m hm=>by
 rcases AE.1 hm with e | hm
 ·rw [e];exact h
 exact hl m hm
def WF.p {n:Node} {T:List Token} (h:WF n T):firstErr n=0∧fullN n:=⟨h.fe,h.fu⟩
abbrev V (x:Token):Prop:=trivValid x.Lead=true
abbrev Nm (x:Token):Prop:=qal x.Text.data.toList=true
section
variable {x y z u w:Token} {a b c:Node} {Ta Tb Tc:List Token}
theorem qy1 (k:Int) (h:k=17∨k=18∨k=19∨k=23∨k=5) (hv:V x) (hs:Kw (.mk k x.Text [x.Lead] [])=true) (hc:qat (.mk k x.Text [x.Lead] [])=true):WF (.mk k x.Text [x.Lead] []) [x]:=by
 rcases h with rfl | rfl | rfl | rfl | rfl <;> exact WF.make rfl (qn1 rfl) hs rfl hc (vg1 hv) rfl (fun m hm=>by cases hm) (fun l v=>rfl)
theorem zau (h1:x.Text=⟨#[110,101,119]⟩) (h2:Nm y) (h3:z.Text=⟨#[40]⟩) (h4:u.Text=⟨#[41]⟩) (v1:V x) (v2:V y) (v3:V z) (v4:V u):WF (.mk 22 y.Text [x.Lead,y.Lead,z.Lead,u.Lead] []) [x,y,z,u]:=
 WF.make rfl (qn1 rfl) rfl rfl h2 (vgc v1 (vgc v2 (vgc v3 (vg1 v4)))) rfl (fun m hm=>by cases hm) (fun l v=>by
  show [(x.Lead,_),(y.Lead,y.Text),(z.Lead,_),(u.Lead,_)]=_
  rw [←h1,←h3,←h4];rfl)
theorem zat (h1:x.Text=⟨#[40]⟩) (ha:WF a Ta) (ga:yo a.kind=3) (h2:y.Text=⟨#[41]⟩) (v1:V x) (v2:V y):WF (.mk 26 ⟨#[]⟩ [x.Lead,y.Lead] [a]) (x::(Ta++ [y])):=
 WF.make rfl (qm7 (q:=(0,3)) rfl rfl rfl (Yn ga) ga.symm) rfl rfl rfl (vgc v1 (vg1 v2)) rfl (mem1 ha.p) (fun l v=>by
  show (x.Lead,_)::(toks 0 a _ _++ [(y.Lead,_)])=_
  rw [ha.tk,←h1,←h2];show _=(_,_)::tw _;rw [Yb];rfl)
theorem W_un (h1:x.Text=⟨#[45]⟩∨x.Text=⟨#[33]⟩) (ha:WF a Ta) (ga:yo a.kind=3) (la:6≤vn a) (v1:V x):WF (.mk 25 x.Text [x.Lead] [a]) (x::Ta):=
 WF.make rfl (qm7 (q:=(0,3)) rfl rfl rfl (Yn ga) ga.symm) (by rcases h1 with h | h <;> rw [h] <;> rfl) (decide_eq_true la) rfl (vg1 v1) rfl (mem1 ha.p) (fun l v=>by
  show (x.Lead,x.Text)::(toks 0 a _ _++ [])=_
  rw [ha.tk,Az];rfl)
theorem q80 {t:BA} (h:0 < Jr t):memB t [⟨#[124]⟩,⟨#[38]⟩,⟨#[61,61]⟩,⟨#[60]⟩,⟨#[43]⟩,⟨#[45]⟩,⟨#[42]⟩,⟨#[47]⟩]=true:=by
 unfold Jr at h
 unfold memB
 simp only [List.any_cons,List.any_nil,Bool.or_false]
 by_cases a1:t=⟨#[124]⟩ <;> by_cases a2:t=⟨#[38]⟩ <;> by_cases a3:t=⟨#[61,61]⟩ <;> by_cases a4:t=⟨#[60]⟩ <;> by_cases a5:t=⟨#[43]⟩ <;> by_cases a6:t=⟨#[45]⟩ <;> by_cases a7:t=⟨#[42]⟩ <;> by_cases a8:t=⟨#[47]⟩ <;> simp_all
theorem zax {v:Int} (hv0:1≤v) (ho:Jr x.Text=v) (ha:WF a Ta) (ga:yo a.kind=3) (la:v≤vn a) (l3:v=3→3 < vn a) (hb:WF b Tb) (gb:yo b.kind=3) (lb:v+1≤vn b) (v1:V x):WF (.mk 24 x.Text [x.Lead] [a,b]) (Ta++(x::Tb)):=
 WF.make rfl (q8a (q:=(0,3)) (q2:=(0,3)) rfl rfl rfl rfl (Yn ga) ga.symm (Yn gb) gb.symm) (q80 (show 0 < Jr x.Text by omega)) (by
  have hlev:vn (.mk 24 x.Text [x.Lead] [a,b])=v:=ho
  have e:Wn (.mk 24 x.Text [x.Lead] [a,b])=(!(decide (vn a < vn (.mk 24 x.Text [x.Lead] [a,b])) || (decide (vn a=vn (.mk 24 x.Text [x.Lead] [a,b])) && decide (vn (.mk 24 x.Text [x.Lead] [a,b])=3))) && decide (vn (.mk 24 x.Text [x.Lead] [a,b]) < vn b)):=rfl
  rw [e,hlev,decide_eq_false (by omega),decide_eq_true (show v < vn b by omega),Bool.and_true,BC]
  by_cases h3:v=3
  ·rw [decide_eq_false (show ¬vn a=v by have:=l3 h3;omega)];rfl
  ·rw [decide_eq_false h3,Bool.and_false];rfl) rfl (vg1 v1) rfl (memc ha.p (mem1 hb.p)) (fun l v=>by
  show toks 0 a _ _++((x.Lead,x.Text)::(toks 0 b _ _++ []))=_
  rw [ha.tk,hb.tk,Az,Yb];rfl)
theorem q9w (hn:Nm x) (h2:y.Text=⟨#[40]⟩) (v1:V x) (v2:V y) {g:List BA} {ks:List Node} {T:List Token} (h:AR (fun k=>yo k=3) true g ks T) (hl:ks.length≤1000000):WF (.mk 20 x.Text (x.Lead::y.Lead::g) ks) (x::y::T):=
 WF.make rfl (qbu (AD _) (fun e=>absurd (show (jc 20).rest=(0,0) from e) (by decide)) (fun i m hm=>by
  have:=(h.mem.1 m (Af hm)).2
  exact qfd (q:=(0,3)) rfl (by show (if (i:Int) < 0 then _ else _)=_;rw [if_neg (by omega)];rfl) (Yn this) this.symm)) rfl rfl hn (vgc v1 (vgc v2 h.mem.2)) (by
  have e:own (.mk 20 x.Text (x.Lead::y.Lead::g) ks)=IntKind.i64.wrap (3+max 0 ((ks.length:Int) - 1)):=rfl
  have hlen:=h.len
  rw [e,Ae,Ae,we (by omega) (by omega),hlen]
  by_cases h0:0 < ks.length
  ·rw [if_pos ⟨rfl,h0⟩];omega
  ·rw [if_neg (fun e=>h0 e.2)];omega) (fun m hm=>(h.mem.1 m hm).1) (fun l v=>by
  show (x.Lead,x.Text)::(y.Lead,_)::Z1 (Zi v true ks.length) g (Ka 0 ks)=_
  rw [h.weaveR,←h2];rfl)
theorem q9s (ha:WF a Ta) (la:vn a=7) (ga:yo a.kind=3) (h1:x.Text=⟨#[46]⟩) (hn:Nm y) (h2:z.Text=⟨#[40]⟩) (v1:V x) (v2:V y) (v3:V z) {g:List BA} {ks:List Node} {T:List Token} (h:AR (fun k=>yo k=3) true g ks T) (hl:ks.length≤1000000):WF (.mk 21 y.Text (x.Lead::y.Lead::z.Lead::g) (a::ks)) (Ta++(x::y::z::T)):=
 WF.make rfl (qbu (by show 1≤(a::ks).length;rw [Ae];omega) (fun e=>absurd (show (jc 21).rest=(0,0) from e) (by decide)) (fun i m hm=>by
  have hm3:yo m.kind=3:=by
   cases i with
   | zero=>cases hm;exact ga
   | succ i=>exact (h.mem.1 m (Af (show ks[i]? =some m from hm))).2
  refine qfd (q:=(0,3)) rfl ?_ (Yn hm3) hm3.symm
  cases i with
  | zero=>rfl
  | succ i=>show (if ((i+1:Nat):Int) < 1 then _ else _)=_;rw [if_neg (by omega)];rfl)) rfl (decide_eq_true la) hn (vgc v1 (vgc v2 (vgc v3 h.mem.2))) (by
  have e:own (.mk 21 y.Text (x.Lead::y.Lead::z.Lead::g) (a::ks))=IntKind.i64.wrap (4+max 0 (((a::ks).length:Int) - 2)):=rfl
  have hlen:=h.len
  rw [e]
  simp only [Ae]
  rw [we (by omega) (by omega),hlen]
  by_cases h0:0 < ks.length
  ·rw [if_pos ⟨rfl,h0⟩];omega
  ·rw [if_neg (fun e=>h0 e.2)];omega) (memc ha.p fun m hm=>(h.mem.1 m hm).1) (fun l v=>by
  show toks 0 a _ _++((x.Lead,_)::(y.Lead,y.Text)::(z.Lead,_)::Z1 (Zi v true (ks.length+1 - 1)) g (Ka 0 ks))=_
  rw [Nat.add_sub_cancel,h.weaveR,ha.tk,←h1,←h2,Yb];rfl)
theorem q7n (k:Int) (hk:k=9∨k=10) (h1:x.Text=if k=9 then ⟨#[99,111,110,115,116]⟩ else ⟨#[108,101,116]⟩) (hn:Nm y) (h3:z.Text=⟨#[61]⟩) (ha:WF a Ta) (ga:yo a.kind=3) (h5:u.Text=⟨#[59]⟩) (v1:V x) (v2:V y) (v3:V z) (v4:V u):WF (.mk k y.Text [x.Lead,y.Lead,z.Lead,u.Lead] [a]) (x::y::z::(Ta++ [u])):=by
 rcases hk with rfl | rfl <;> exact WF.make rfl (qm7 (q:=(0,3)) rfl rfl rfl (Yn ga) ga.symm) rfl rfl hn (vgc v1 (vgc v2 (vgc v3 (vg1 v4)))) rfl (mem1 ha.p) (fun l v=>by
  show (x.Lead,_)::(y.Lead,y.Text)::(z.Lead,_)::(toks 0 a _ _++ [(u.Lead,_)])=_
  rw [ha.tk,←h3,←h5]
  show _=(x.Lead,x.Text)::(_,_)::(_,_)::tw (Ta++ [u])
  rw [h1,Yb];rfl)
theorem zar (hn:Nm y) (h3:z.Text=⟨#[61]⟩) (ha:WF a Ta) (ga:yo a.kind=3) (h5:u.Text=⟨#[59]⟩) (v2:V y) (v3:V z) (v4:V u):WF (.mk 11 y.Text [y.Lead,z.Lead,u.Lead] [a]) (y::z::(Ta++ [u])):=
 WF.make rfl (qm7 (q:=(0,3)) rfl rfl rfl (Yn ga) ga.symm) rfl rfl hn (vgc v2 (vgc v3 (vg1 v4))) rfl (mem1 ha.p) (fun l v=>by
  show (y.Lead,y.Text)::(z.Lead,_)::(toks 0 a _ _++ [(u.Lead,_)])=_
  rw [ha.tk,←h3,←h5]
  show _=(_,_)::(_,_)::tw (Ta++ [u])
  rw [Yb];rfl)
theorem W_do (ha:WF a Ta) (ga:yo a.kind=3) (h5:u.Text=⟨#[59]⟩) (v4:V u):WF (.mk 16 ⟨#[]⟩ [u.Lead] [a]) (Ta++ [u]):=
 WF.make rfl (qm7 (q:=(0,3)) rfl rfl rfl (Yn ga) ga.symm) rfl rfl rfl (vg1 v4) rfl (mem1 ha.p) (fun l v=>by
  show toks 0 a _ _++ [(u.Lead,_)]=_
  rw [ha.tk,←h5,Yb];rfl)
theorem zas (h1:x.Text=⟨#[114,101,116,117,114,110]⟩) (ha:WF a Ta) (ga:yo a.kind=3) (h5:u.Text=⟨#[59]⟩) (v1:V x) (v4:V u):WF (.mk 12 ⟨#[]⟩ [x.Lead,u.Lead] [a]) (x::(Ta++ [u])):=
 WF.make rfl (qm7 (q:=(0,3)) rfl rfl rfl (Yn ga) ga.symm) rfl rfl rfl (vgc v1 (vg1 v4)) rfl (mem1 ha.p) (fun l v=>by
  show (x.Lead,_)::(toks 0 a _ _++ [(u.Lead,_)])=_
  rw [ha.tk,←h1,←h5]
  show _=(_,_)::tw (Ta++ [u])
  rw [Yb];rfl)
theorem q7l (h1:x.Text=⟨#[119,104,105,108,101]⟩) (ha:WF a Ta) (ga:yo a.kind=3) (hb:WF b Tb) (kb:b.kind=6) (v1:V x):WF (.mk 15 ⟨#[]⟩ [x.Lead] [a,b]) (x::(Ta++Tb)):=
 WF.make rfl (q8a (q:=(0,3)) (q2:=(6,0)) rfl rfl rfl rfl (Yn ga) ga.symm (by rw [kb];rfl) kb.symm) rfl rfl rfl (vg1 v1) rfl (memc ha.p (mem1 hb.p)) (fun l v=>by
  show (x.Lead,_)::(toks 0 a _ _++(toks 0 b _ _++ []))=_
  rw [ha.tk,hb.tk,Az,←h1]
  show _=(_,_)::tw (Ta++Tb)
  rw [Yb])
theorem q7o:WF (.mk 14 ⟨#[]⟩ [] []) []:=WF.make rfl rfl rfl rfl rfl vg0 rfl (fun m hm=>by cases hm) (fun l v=>rfl)
theorem q9v (h1:x.Text=⟨#[101,108,115,101]⟩) (hb:WF b Tb) (kb:b.kind=6) (v1:V x):WF (.mk 14 ⟨#[]⟩ [x.Lead] [b]) (x::Tb):=
 WF.make rfl (qm7 (q:=(6,0)) rfl rfl rfl (by rw [kb];rfl) kb.symm) rfl rfl rfl (vg1 v1) rfl (mem1 hb.p) (fun l v=>by
  show (x.Lead,_)::(toks 0 b _ _++ [])=_
  rw [hb.tk,Az,←h1];rfl)
theorem W_if (h1:x.Text=⟨#[105,102]⟩) (ha:WF a Ta) (ga:yo a.kind=3) (hb:WF b Tb) (kb:b.kind=6) (hc:WF c Tc) (kc:c.kind=14) (v1:V x):WF (.mk 13 ⟨#[]⟩ [x.Lead] [a,b,c]) (x::(Ta++(Tb++Tc))):=
 WF.make rfl (q79 (q:=(0,3)) (q2:=(6,0)) (q3:=(14,0)) rfl rfl rfl rfl rfl (Yn ga) ga.symm (by rw [kb];rfl) kb.symm (by rw [kc];rfl) kc.symm) rfl rfl rfl (vg1 v1) rfl (memc ha.p (memc hb.p (mem1 hc.p))) (fun l v=>by
  show (x.Lead,_)::(toks 0 a _ _++(toks 0 b _ _++(toks 0 c _ _++ [])))=_
  rw [ha.tk,hb.tk,hc.tk,Az,←h1]
  show _=(_,_)::tw (Ta++(Tb++Tc))
  rw [Yb,Yb])
theorem zaw (h1:x.Text=⟨#[123]⟩) {ks:List Node} {T:List Token} (h:KL (fun k=>yo k=2) ks T) (h2:y.Text=⟨#[125]⟩) (v1:V x) (v2:V y):WF (.mk 6 ⟨#[]⟩ [x.Lead,y.Lead] ks) (x::(T++ [y])):=
 WF.make rfl (qbu (AD _) (fun e=>absurd (show (jc 6).rest=(0,0) from e) (by decide)) (fun i m hm=>by
  have:=(h.mem m (Af hm)).2
  exact qfd (q:=(0,2)) rfl (by show (if (i:Int) < 0 then _ else _)=_;rw [if_neg (by omega)];rfl) (q41 this) this.symm)) rfl rfl rfl (vgc v1 (vg1 v2)) rfl (fun m hm=>(h.mem m hm).1) (fun l v=>by
  show (x.Lead,_)::Z1 (allS _ _ ks.length++_) [y.Lead] (Ka 0 ks)=_
  rw [h.weaveA,←h1]
  show _=(_,_)::tw (T++ [y])
  rw [Yb]
  show (_,_)::(_++ [(y.Lead,_)])=_
  rw [←h2];rfl)
theorem quq (hn:Nm x) (v1:V x):WF (.mk 5 x.Text [x.Lead] []) [x]:=qy1 5 (by simp) v1 rfl hn
theorem q7m (hn:Nm x) (v1:V x) (hn2:Nm y) (v2:V y):WF (.mk 4 x.Text [x.Lead] [.mk 5 y.Text [y.Lead] []]) [x,y]:=
 WF.make rfl (qm7 (q:=(5,0)) rfl rfl rfl rfl rfl) rfl rfl hn (vg1 v1) rfl (mem1 (quq hn2 v2).p) (fun l v=>by
  show (x.Lead,x.Text)::(toks 0 _ _ _++ [])=_
  rw [(quq hn2 v2).tk];rfl)
theorem q5t (h2:y.Text=⟨#[40]⟩) (v2:V y) {g:List BA} {ks:List Node} {T:List Token} (h:AR (fun k=>k=4) true g ks T) (hl:ks.length≤1000000):WF (.mk 3 ⟨#[]⟩ (y.Lead::g) ks) (y::T):=
 WF.make rfl (qbu (AD _) (fun e=>absurd (show (jc 3).rest=(0,0) from e) (by decide)) (fun i m hm=>by
  have:=(h.mem.1 m (Af hm)).2
  exact qfd (q:=(4,0)) rfl (by show (if (i:Int) < 0 then _ else _)=_;rw [if_neg (by omega)];rfl) (by rw [this];rfl) this.symm)) rfl rfl rfl (vgc v2 h.mem.2) (by
  have e:own (.mk 3 ⟨#[]⟩ (y.Lead::g) ks)=IntKind.i64.wrap (2+max 0 ((ks.length:Int) - 1)):=rfl
  have hlen:=h.len
  rw [e,Ae,we (by omega) (by omega),hlen]
  by_cases h0:0 < ks.length
  ·rw [if_pos ⟨rfl,h0⟩];omega
  ·rw [if_neg (fun e=>h0 e.2)];omega) (fun m hm=>(h.mem.1 m hm).1) (fun l v=>by
  show (y.Lead,_)::Z1 (Zi v true ks.length) g (Ka 0 ks)=_
  rw [h.weaveR,←h2];rfl)
theorem q9t (h1:x.Text=⟨#[102,110]⟩) (hn:Nm y) (v1:V x) (v2:V y) (ha:WF a Ta) (ka:a.kind=3) (hn2:Nm z) (v3:V z) (hc:WF c Tc) (kc:c.kind=6):WF (.mk 2 y.Text [x.Lead,y.Lead] [a, .mk 5 z.Text [z.Lead] [],c]) (x::y::(Ta++(z::Tc))):=
 WF.make rfl (q79 (q:=(3,0)) (q2:=(5,0)) (q3:=(6,0)) rfl rfl rfl rfl rfl (by rw [ka];rfl) ka.symm rfl rfl (by rw [kc];rfl) kc.symm) rfl rfl hn (vgc v1 (vg1 v2)) rfl (memc ha.p (memc (quq hn2 v3).p (mem1 hc.p))) (fun l v=>by
  show (x.Lead,_)::(y.Lead,y.Text)::(toks 0 a _ _++(toks 0 _ _ _++(toks 0 c _ _++ [])))=_
  rw [ha.tk,hc.tk,(quq hn2 v3).tk,Az,←h1]
  show _=(_,_)::(_,_)::tw (Ta++(z::Tc))
  rw [Yb];rfl)
theorem q7p:WF (.mk 8 ⟨#[]⟩ [] []) []:=WF.make rfl (qn1 rfl) rfl rfl rfl vg0 rfl (fun m hm=>by cases hm) (fun l v=>rfl)
theorem q9x (h1:x.Text=⟨#[58]⟩) (hn:Nm y) (v1:V x) (v2:V y):WF (.mk 8 y.Text [x.Lead,y.Lead] []) [x,y]:=by
 have ht:¬y.Text=⟨#[]⟩:=by
  intro e
  unfold Nm at hn
  rw [e] at hn
  exact absurd hn (by decide)
 refine WF.make rfl (qn1 rfl) rfl rfl ?_ (vgc v1 (vg1 v2)) ?_ (fun m hm=>by cases hm) (fun l v=> ?_)
 ·show (decide (y.Text=⟨#[]⟩) || qal y.Text.data.toList)=true
  rw [show qal y.Text.data.toList=true from hn,Bool.or_true]
 ·show (2:Int)=if y.Text=⟨#[]⟩ then 0 else 2
  rw [if_neg ht]
 show Z1 (if y.Text=⟨#[]⟩ then [] else [.own l ⟨#[58]⟩, .own sp y.Text]) _ _=_
 rw [if_neg ht]
 show [(x.Lead,_),(y.Lead,y.Text)]=_
 rw [←h1];rfl
theorem zav (h1:x.Text=⟨#[99,108,97,115,115]⟩) (hn:Nm y) (v1:V x) (v2:V y) (ha:WF a Ta) (ka:a.kind=8) (h2:z.Text=⟨#[123]⟩) (v3:V z) {ks:List Node} {T:List Token} (h:KL (fun k=>k=2) ks T) (h4:u.Text=⟨#[125]⟩) (v4:V u):WF (.mk 7 y.Text [x.Lead,y.Lead,z.Lead,u.Lead] (a::ks)) (x::y::(Ta++(z::(T++ [u])))):=
 WF.make rfl (qbu (by show 1≤(a::ks).length;rw [Ae];omega) (fun e=>absurd (show (jc 7).rest=(0,0) from e) (by decide)) (fun i m hm=>by
  cases i with
  | zero=>cases hm;exact qfd (q:=(8,0)) rfl rfl (by rw [ka];rfl) ka.symm
  | succ i=>
    have:=(h.mem m (Af (show ks[i]? =some m from hm))).2
    exact qfd (q:=(2,0)) rfl (by show (if ((i+1:Nat):Int) < 1 then _ else _)=_;rw [if_neg (by omega)];rfl) (by rw [this];rfl) this.symm)) rfl rfl hn (vgc v1 (vgc v2 (vgc v3 (vg1 v4)))) rfl (memc ha.p fun m hm=>(h.mem m hm).1) (fun l v=>by
  show (x.Lead,_)::(y.Lead,y.Text)::(toks 0 a _ _++((z.Lead,_)::Z1 (allS _ _ (ks.length+1 - 1)++_) [u.Lead] (Ka 0 ks)))=_
  rw [Nat.add_sub_cancel,h.weaveA,ha.tk,←h1,←h2]
  show _=(_,_)::(_,_)::tw (Ta++(z::(T++ [u])))
  rw [Yb]
  show _=(_,_)::(_,_)::(tw Ta++((z.Lead,z.Text)::tw (T++ [u])))
  rw [Yb]
  show (_,_)::(_,_)::(_++((_,_)::(tw T++ [(u.Lead,_)])))=_
  rw [←h4];rfl)
theorem q9u {ks:List Node} {T:List Token} (h:KL (fun k=>yo k=1) ks T) (h4:u.Text=⟨#[]⟩) (v4:V u):WF (.mk 1 ⟨#[]⟩ [u.Lead] ks) (T++ [u]):=
 WF.make rfl (qbu (AD _) (fun e=>absurd (show (jc 1).rest=(0,0) from e) (by decide)) (fun i m hm=>by
  have:=(h.mem m (Af hm)).2
  exact qfd (q:=(0,1)) rfl (by show (if (i:Int) < 0 then _ else _)=_;rw [if_neg (by omega)];rfl) (q42 this) this.symm)) rfl rfl rfl (vg1 v4) rfl (fun m hm=>(h.mem m hm).1) (fun l v=>by
  show Z1 (qbe _ _ ks.length++_) [u.Lead] (Ka 0 ks)=_
  rw [h.weaveF,Yb]
  show _++ [(u.Lead,(⟨#[]⟩:BA))]=_
  rw [←h4];rfl)
end
end Ps
end Go.Proofs.YtpnkemogepoioaaGreatDoorW.Ex.Gr

namespace Go.Proofs.YtpnkemogepoioaaGreatDoorW.Ex.Gr
open Go Go.Proofs.YtpnkemogepoioaaGreatDoorW.Ex Go.Proofs.YtpnkemogepoioaaGreatDoorW.Plain
set_option linter.all false
set_option maxRecDepth 100000
namespace Ps
open Tk
def Gd (t:List Token):Prop:=Good t∧t.length≤70000
theorem qua {x:Token} {r:List Token} (h:Gd (x::r)):r.length≤70000:=by
 have:=h.2
 rw [Ae] at this
 omega
def QT {α:Type} (t:List Token) (P:α→List Token→List Token→Prop):Rs α→Prop
 | .ok y=>∃T,t=T++y.2∧Gd y.2∧P y.1 T y.2
 | .error _=>True
theorem QT.bind {α β:Type} {t:List Token} {P:α→List Token→List Token→Prop} {P':β→List Token→List Token→Prop} {x:Rs α} {k:α→List Token→Rs β} (h:QT t P x)
 (hk:∀n r T,t=T++r→Gd r→P n T r→QT r (fun m T' r'=>P' m (T++T') r') (k n r)):QT t P' (bR x k):=by
 cases x with
 | error u=>trivial
 | ok y=>
   obtain ⟨T,h1,h2,h3⟩:=h
   have:=hk y.1 y.2 T h1 h2 h3
   show QT t P' (k y.1 y.2)
   revert this
   cases k y.1 y.2 with
   | error u=>exact fun _=>trivial
   | ok z=>
     rintro ⟨T',q1,q2,q3⟩
     exact ⟨T++T',by rw [h1,q1,Ap],q2,q3⟩
theorem QT.mono {α:Type} {t:List Token} {P P':α→List Token→List Token→Prop} {x:Rs α} (h:QT t P x) (hp:∀n T r,P n T r→P' n T r):QT t P' x:=by
 cases x with
 | error u=>trivial
 | ok z=>obtain ⟨T,h1,h2,h3⟩:=h;exact ⟨T,h1,h2,hp _ _ _ h3⟩
theorem QT.mono2 {α:Type} {t:List Token} {P P':α→List Token→List Token→Prop} {x:Rs α} (h:QT t P x) (hp:∀n T r,t=T++r→P n T r→P' n T r):QT t P' x:=by
 cases x with
 | error u=>trivial
 | ok z=>obtain ⟨T,h1,h2,h3⟩:=h;exact ⟨T,h1,h2,hp _ _ _ h1 h3⟩
theorem QT.ok {α:Type} {t:List Token} {P:α→List Token→List Token→Prop} {n:α} (hg:Gd t) (h:P n [] t):QT t P (.ok (n,t)):=⟨[],rfl,hg,h⟩
theorem vh {w:BA} {t:List Token} (hg:Gd t) (hw:w≠⟨#[]⟩):QT t (fun g T _=>∃x,T= [x]∧x.Text=w∧x.Lead=g∧V x) (tkT w t):=by
 cases t with
 | nil=>exact hg.1.elim
 | cons x r=>
   simp only [tkT]
   by_cases h:x.Text=w
   ·rw [if_pos (decide_eq_true h)]
    exact ⟨[x],rfl,⟨Yv hg.1 (by rw [h];exact hw),qua hg⟩,x,rfl,h,rfl,hg.1.1.2.2⟩
   rw [if_neg (by rw [decide_eq_true_eq];exact h)]
   trivial
theorem qdw {t:List Token} (hg:Gd t):QT t (fun a T _=>∃x,T= [x]∧x.Text=a.1∧x.Lead=a.2∧V x∧Nm x) (tkN t):=by
 cases t with
 | nil=>exact hg.1.elim
 | cons x r=>
   simp only [tkN]
   by_cases h:(decide (x.Kind=1) && qal x.Text.data.toList)=true
   ·rw [if_pos h]
    have h2:=h
    rw [An] at h2
    exact ⟨[x],rfl,⟨qjv hg.1 (by rw [of_decide_eq_true h2.1];decide),qua hg⟩,x,rfl,rfl,rfl,hg.1.1.2.2,h2.2⟩
   rw [if_neg h]
   trivial
def PT:Cat→Node→List Token→List Token→Prop
 | .bin v,n,T,_=>WF n T∧yo n.kind=3∧v≤vn n
 | .binL v m,n,T,_=>∀Tm,WF m Tm→yo m.kind=3→v≤vn m→(v=3→3 < vn m)→WF n (Tm++T)∧yo n.kind=3∧v≤vn n
 | .un,n,T,_=>WF n T∧yo n.kind=3∧6≤vn n
 | .unL m,n,T,_=>∀Tm,WF m Tm→yo m.kind=3→vn m=7→WF n (Tm++T)∧yo n.kind=3∧vn n=7
 | .prim,n,T,_=>WF n T∧yo n.kind=3∧vn n=7
 | .args k x g ks,n,T,_=>∃y g' ks' T',T=y::T'∧y.Text=⟨#[40]⟩∧V y∧n= .mk k x (g++y.Lead::g') (ks++ks')∧AR (fun k=>yo k=3) true g' ks' T'
 | .argL b k x g ks,n,T,_=>∃g' ks',n= .mk k x (g++g') (ks++ks')∧AR (fun k=>yo k=3) b g' ks' T
 | .stmt,n,T,_=>WF n T∧yo n.kind=2
 | .blk,n,T,_=>WF n T∧n.kind=6
 | .blkL g ks,n,T,_=>∃ks' y T',n= .mk 6 ⟨#[]⟩ (g++ [y.Lead]) (ks++ks')∧T=T'++ [y]∧y.Text=⟨#[125]⟩∧V y∧KL (fun k=>yo k=2) ks' T'
 | .parL g ks,n,T,_=>∃g' ks',n= .mk 3 ⟨#[]⟩ (g++g') (ks++ks')∧AR (fun k=>k=4) (decide (ks.length=0)) g' ks' T
 | .func,n,T,_=>WF n T∧n.kind=2
 | .clsL x g ks,n,T,_=>∃ks' y T',n= .mk 7 x (g++ [y.Lead]) (ks++ks')∧T=T'++ [y]∧y.Text=⟨#[125]⟩∧V y∧KL (fun k=>k=2) ks' T'
 | .cls,n,T,_=>WF n T∧n.kind=7
 | .file ks,n,T,r=>∃ks' y q,r=y::q∧y.Kind=4∧n= .mk 1 ⟨#[]⟩ [y.Lead] (ks++ks')∧V y∧KL (fun k=>yo k=1) ks' T
abbrev EX (n:Node) (T:List Token):Prop:=WF n T∧yo n.kind=3
abbrev ST (n:Node) (T:List Token):Prop:=WF n T∧yo n.kind=2
abbrev BK (n:Node) (T:List Token):Prop:=WF n T∧n.kind=6
def Rt (B:List Token→Rs Node) (P:Node→List Token→Prop):Prop:=∀t,Gd t→QT t (fun n T _=>P n T) (B t)
section
variable {B C:List Token→Rs Node}
theorem q01 (hB:Rt B EX) (k:Int) {w:BA} (hk:k=9∨k=10) (hw:w=if k=9 then ⟨#[99,111,110,115,116]⟩ else ⟨#[108,101,116]⟩):Rt (qep B k w) (fun n T=>WF n T∧n.kind=k):=fun t hg=>by
 unfold qep
 have w0:w≠⟨#[]⟩:=by rw [hw];rcases hk with e | e <;> rw [e] <;> decide
 refine (vh hg w0).bind fun g1 r1 T1 e1 o1 p1=> ?_
 refine (qdw o1).bind fun a r2 T2 e2 o2 p2=> ?_
 refine (vh o2 (by decide)).bind fun g3 r3 T3 e3 o3 p3=> ?_
 refine (hB r3 o3).bind fun n r4 T4 e4 o4 p4=> ?_
 refine (vh o4 (by decide)).bind fun g5 r5 T5 e5 o5 p5=> ?_
 obtain ⟨x1,rfl,q1,rfl,v1⟩:=p1
 obtain ⟨x2,rfl,q2,q22,v2,n2⟩:=p2
 obtain ⟨x3,rfl,q3,rfl,v3⟩:=p3
 obtain ⟨x5,rfl,q5,rfl,v5⟩:=p5
 refine QT.ok o5 ?_
 rw [←q2,←q22]
 exact ⟨q7n k hk (by rw [q1,hw]) n2 q3 p4.1 p4.2 q5 v1 v2 v3 v5,rfl⟩
theorem q9z (hC:Rt C BK):Rt (qsv C) (fun n T=>WF n T∧n.kind=14):=fun t hg=>by
 unfold qsv
 split
 ·refine (vh hg (by decide)).bind fun g1 r1 T1 e1 o1 p1=> ?_
  refine (hC r1 o1).bind fun c r2 T2 e2 o2 p2=> ?_
  obtain ⟨x1,rfl,q1,rfl,v1⟩:=p1
  refine QT.ok o2 ?_
  rw [Az]
  exact ⟨q9v q1 p2.1 p2.2 v1,rfl⟩
 exact QT.ok hg ⟨q7o,rfl⟩
theorem q9y (hB:Rt B EX) (hC:Rt C BK):Rt (qop B C) ST:=fun t hg=>by
 unfold qop
 split
 ·exact (q01 hB 10 (.inr rfl) rfl t hg).mono fun n T _ h=>⟨h.1,by rw [h.2];rfl⟩
 split
 ·unfold retP
  refine (vh hg (by decide)).bind fun g1 r1 T1 e1 o1 p1=> ?_
  refine (hB r1 o1).bind fun n r4 T4 e4 o4 p4=> ?_
  refine (vh o4 (by decide)).bind fun g5 r5 T5 e5 o5 p5=> ?_
  obtain ⟨x1,rfl,q1,rfl,v1⟩:=p1
  obtain ⟨x5,rfl,q5,rfl,v5⟩:=p5
  exact QT.ok o5 ⟨zas q1 p4.1 p4.2 q5 v1 v5,rfl⟩
 split
 ·unfold ifP
  refine (vh hg (by decide)).bind fun g1 r1 T1 e1 o1 p1=> ?_
  refine (hB r1 o1).bind fun n r4 T4 e4 o4 p4=> ?_
  refine (hC r4 o4).bind fun c r5 T5 e5 o5 p5=> ?_
  refine (q9z hC r5 o5).bind fun e r6 T6 e6 o6 p6=> ?_
  obtain ⟨x1,rfl,q1,rfl,v1⟩:=p1
  refine QT.ok o6 ?_
  rw [Az]
  show WF _ (x1::(T4++(T5++T6)))∧_
  exact ⟨W_if q1 p4.1 p4.2 p5.1 p5.2 p6.1 p6.2 v1,rfl⟩
 split
 ·unfold qoi
  refine (vh hg (by decide)).bind fun g1 r1 T1 e1 o1 p1=> ?_
  refine (hB r1 o1).bind fun n r4 T4 e4 o4 p4=> ?_
  refine (hC r4 o4).bind fun c r5 T5 e5 o5 p5=> ?_
  obtain ⟨x1,rfl,q1,rfl,v1⟩:=p1
  refine QT.ok o5 ?_
  rw [Az]
  show WF _ (x1::(T4++T5))∧_
  exact ⟨q7l q1 p4.1 p4.2 p5.1 p5.2 v1,rfl⟩
 split
 ·unfold setP
  refine (qdw hg).bind fun a r2 T2 e2 o2 p2=> ?_
  refine (vh o2 (by decide)).bind fun g3 r3 T3 e3 o3 p3=> ?_
  refine (hB r3 o3).bind fun n r4 T4 e4 o4 p4=> ?_
  refine (vh o4 (by decide)).bind fun g5 r5 T5 e5 o5 p5=> ?_
  obtain ⟨x2,rfl,q2,q22,v2,n2⟩:=p2
  obtain ⟨x3,rfl,q3,rfl,v3⟩:=p3
  obtain ⟨x5,rfl,q5,rfl,v5⟩:=p5
  refine QT.ok o5 ?_
  rw [←q2,←q22]
  exact ⟨zar n2 q3 p4.1 p4.2 q5 v2 v3 v5,rfl⟩
 unfold doP
 refine (hB t hg).bind fun n r4 T4 e4 o4 p4=> ?_
 refine (vh o4 (by decide)).bind fun g5 r5 T5 e5 o5 p5=> ?_
 obtain ⟨x5,rfl,q5,rfl,v5⟩:=p5
 exact QT.ok o5 ⟨W_do p4.1 p4.2 q5 v5,rfl⟩
theorem zaz:Rt newP (fun n T=>WF n T∧yo n.kind=3∧vn n=7):=fun t hg=>by
 unfold newP
 refine (vh hg (by decide)).bind fun g1 r1 T1 e1 o1 p1=> ?_
 refine (qdw o1).bind fun a r2 T2 e2 o2 p2=> ?_
 refine (vh o2 (by decide)).bind fun g3 r3 T3 e3 o3 p3=> ?_
 refine (vh o3 (by decide)).bind fun g5 r5 T5 e5 o5 p5=> ?_
 obtain ⟨x1,rfl,q1,rfl,v1⟩:=p1
 obtain ⟨x2,rfl,q2,q22,v2,n2⟩:=p2
 obtain ⟨x3,rfl,q3,rfl,v3⟩:=p3
 obtain ⟨x5,rfl,q5,rfl,v5⟩:=p5
 refine QT.ok o5 ?_
 rw [←q2,←q22]
 exact ⟨zau q1 n2 q3 q5 v1 v2 v3 v5,rfl,rfl⟩
theorem zay (hB:Rt B EX):Rt (parP B) (fun n T=>WF n T∧yo n.kind=3∧vn n=7):=fun t hg=>by
 unfold parP
 refine (vh hg (by decide)).bind fun g1 r1 T1 e1 o1 p1=> ?_
 refine (hB r1 o1).bind fun n r4 T4 e4 o4 p4=> ?_
 refine (vh o4 (by decide)).bind fun g5 r5 T5 e5 o5 p5=> ?_
 obtain ⟨x1,rfl,q1,rfl,v1⟩:=p1
 obtain ⟨x5,rfl,q5,rfl,v5⟩:=p5
 exact QT.ok o5 ⟨zat q1 p4.1 p4.2 q5 v1 v5,rfl,rfl⟩
theorem q00:Rt qdn (fun n T=>WF n T∧n.kind=4):=fun t hg=>by
 unfold qdn
 refine (qdw hg).bind fun a r2 T2 e2 o2 p2=> ?_
 refine (qdw o2).bind fun b r3 T3 e3 o3 p3=> ?_
 obtain ⟨x2,rfl,q2,q22,v2,n2⟩:=p2
 obtain ⟨x3,rfl,q3,q33,v3,n3⟩:=p3
 refine QT.ok o3 ?_
 rw [←q2,←q22,←q3,←q33]
 exact ⟨q7m n2 v2 n3 v3,rfl⟩
theorem q90:Rt qs2 (fun n T=>WF n T∧n.kind=8):=fun t hg=>by
 unfold qs2
 split
 ·refine (vh hg (by decide)).bind fun g1 r1 T1 e1 o1 p1=> ?_
  refine (qdw o1).bind fun a r2 T2 e2 o2 p2=> ?_
  obtain ⟨x1,rfl,q1,rfl,v1⟩:=p1
  obtain ⟨x2,rfl,q2,q22,v2,n2⟩:=p2
  refine QT.ok o2 ?_
  rw [←q2,←q22]
  exact ⟨q9x q1 n2 v1 v2,rfl⟩
 exact QT.ok hg ⟨q7p,rfl⟩
end
theorem q9a {x:Token} {r:List Token} (hg:Good (x::r)) (h:x.Kind=2):Qg (L x.Text)=true:=by
 rcases hg.2 with ⟨_,h2,_⟩ | ⟨_,_,h2,_,_⟩
 ·rw [h] at h2;exact absurd h2 (by decide)
 rw [h] at h2
 have k2 : ∀l:List UInt8,qpo l=2→Qg l=true:=fun l h2=>by
  unfold qpo at h2
  split at h2
  ·rename_i hl
   cases l with
   | nil=>exact absurd h2 (by decide)
   | cons c l=>
     cases hw:letC c with
     | false=>
       cases hm:qe7 c with
       | false=>rw [qn0 l hw hm] at h2;exact absurd h2 (by decide)
       | true=>rw [qks l hw hm] at h2;split at h2;exact absurd h2 (by decide);split at h2 <;> exact absurd h2 (by decide)
     | true=>
       cases hd:digC c with
       | false=>rw [qpa l hw hd] at h2;split at h2 <;> exact absurd h2 (by simp)
       | true=>
         rw [qpb l hd] at h2 hl
         by_cases hi:Qg ((c::l).take (Tk.runL (c::l)))=true
         ·rw [if_pos hi] at hl
          rw [show Tk.runL (c::l)=(c::l).length from hl,List.take_length] at hi
          exact hi
         rw [if_neg hi] at h2;exact absurd h2 (by decide)
  exact absurd h2 (by decide)
 exact k2 _ h2.symm
theorem AR.glen {p:Int→Prop} {b:Bool} {g:List BA} {ks:List Node} {T:List Token} (h:AR p b g ks T):g.length≤T.length:=by
 induction h with
 | last _ _=>exact Aj _
 | first _ _ _ ih=>rw [Ad];omega
 | next _ _ _ _ _ ih=>rw [Ae,Ae,Ad];omega
theorem AR.klen {p:Int→Prop} {b:Bool} {g:List BA} {ks:List Node} {T:List Token} (h:AR p b g ks T):ks.length≤T.length+1:=by
 have h1:=h.glen
 have h2:=h.len
 split at h2 <;> omega
def preT:Cat→Prop
 | .bin v=>1≤v∧v≤6
 | .binL v _=>1≤v∧v≤5
 | _=>True
theorem QT.step {α:Type} {x:Token} {r:List Token} {P:α→List Token→List Token→Prop} {y:Rs α} (hr:Gd r) (h:QT r (fun n T q=>P n (x::T) q) y):QT (x::r) P y:=by
 cases y with
 | error u=>trivial
 | ok z=>
   obtain ⟨T,h1,h2,h3⟩:=h
   exact ⟨x::T,by rw [h1];rfl,h2,h3⟩
theorem q0h {x:Token} {r:List Token} (h:Gd (x::r)) (ht:x.Text≠⟨#[]⟩):Gd r:=⟨Yv h.1 ht,qua h⟩
theorem zao {w:BA} {x:Token} {r:List Token} (h:isT w (x::r)=true) (hg:Gd (x::r)) (hw:w≠⟨#[]⟩):Gd r:=⟨q65 h hg.1 hw,qua hg⟩
theorem qy2:∀(f:Nat) (c:Cat) (t:List Token),Gd t→preT c→QT t (PT c) (S f c t)
 | 0,c,t,hg,_=>trivial
 | f + 1, c,t,hg,hp=>by
   have ih:=qy2 f
   have hB:∀v:Int,1≤v→v≤6→∀t,Gd t→QT t (fun n T _=>WF n T∧yo n.kind=3∧v≤vn n) (S f (.bin v) t):=fun v h1 h6 t hg=>ih (.bin v) t hg ⟨h1,h6⟩
   have hB1:Rt (S f (.bin 1)) EX:=fun t hg=>(hB 1 (by decide) (by decide) t hg).mono fun n T r h=>⟨h.1,h.2.1⟩
   have hC:Rt (S f .blk) BK:=fun t hg=>ih .blk t hg trivial
   have hT:Rt (S f .stmt) ST:=fun t hg=>ih .stmt t hg trivial
   have hF:Rt (S f .func) (fun n T=>WF n T∧n.kind=2):=fun t hg=>ih .func t hg trivial
   have hK:Rt (S f .cls) (fun n T=>WF n T∧n.kind=7):=fun t hg=>ih .cls t hg trivial
   cases c with
   | bin v=>
     simp only [S]
     split
     ·rename_i h5
      have h5:=of_decide_eq_true h5
      refine (ih .un t hg trivial).mono fun n T r h=> ?_
      exact ⟨h.1,h.2.1,by have:=h.2.2;have:=hp.2;omega⟩
     rename_i h5
     rw [decide_eq_true_eq] at h5
     refine (hB (v+1) (by have:=hp.1;omega) (by omega) t hg).bind fun n r T e o h=> ?_
     refine (ih (.binL v n) r o ⟨hp.1,by omega⟩).mono fun m T' r' h'=> ?_
     exact h' T h.1 h.2.1 (by have:=h.2.2;omega) (fun e3=>by have:=h.2.2;omega)
   | binL v m=>
     obtain ⟨p1,p5⟩:=hp
     cases t with
     | nil=>exact hg.1.elim
     | cons x r=>
       simp only [S,binP]
       split
       ·rename_i hx
        have hx:=of_decide_eq_true hx
        have hr:Gd r:=q0h hg (by
         rintro h0
         rw [h0] at hx
         rw [show Jr ⟨#[]⟩=0 from by decide] at hx
         omega)
        refine QT.step hr ?_
        refine (hB (v+1) (by omega) (by omega) r hr).bind fun n q T e o h=> ?_
        have hw:∀Tm,WF m Tm→yo m.kind=3→v≤vn m→(v=3→3 < vn m)→WF (.mk 24 x.Text [x.Lead] [m,n]) (Tm++(x::T)):=fun Tm h1 h2 h3 h4=>zax p1 hx h1 h2 h3 h4 h.1 h.2.1 h.2.2 hg.1.1.2.2
        split
        ·rename_i h3
         refine QT.ok o fun Tm h1 h2 h3' h4=> ?_
         rw [Az]
         exact ⟨hw Tm h1 h2 h3' h4,rfl,by show v≤Jr x.Text;omega⟩
        rename_i h3
        rw [decide_eq_true_eq] at h3
        refine (ih (.binL v (.mk 24 x.Text [x.Lead] [m,n])) q o ⟨p1,p5⟩).mono fun n' T' r' h' Tm h2 h3' h4 h5=> ?_
        have:=h' (Tm++(x::T)) (hw Tm h2 h3' h4 h5) rfl (by show v≤Jr x.Text;omega) (fun e=>absurd e h3)
        rw [Ap] at this
        exact this
       exact QT.ok hg fun Tm h1 h2 h3 _=>by rw [Az];exact ⟨h1,h2,h3⟩
   | un =>
     cases t with
     | nil=>exact hg.1.elim
     | cons x r=>
       simp only [S,unP]
       have neg:∀{w:BA},isT w (x::r)=true→w=⟨#[45]⟩∨w=⟨#[33]⟩→QT (x::r) (PT .un) (bR (S f .un r) fun n t=> .ok (.mk 25 x.Text [x.Lead] [n],t)):=fun {w} h h2=>by
        have hx:x.Text=w:=of_decide_eq_true h
        have hr:Gd r:=zao h hg (by rcases h2 with e | e <;> rw [e] <;> decide)
        refine QT.step hr ?_
        refine (ih .un r hr trivial).bind fun n q T e o p=> ?_
        refine QT.ok o ?_
        rw [Az]
        exact ⟨W_un (by rw [hx];exact h2) p.1 p.2.1 p.2.2 hg.1.1.2.2,rfl,Int.le_refl _⟩
       split
       ·rename_i h;exact neg h (.inl rfl)
       split
       ·rename_i h;exact neg h (.inr rfl)
       refine (ih .prim (x::r) hg trivial).bind fun n q T e o h=> ?_
       refine (ih (.unL n) q o trivial).mono fun m T' r' h'=> ?_
       have:=h' T h.1 h.2.1 h.2.2
       exact ⟨this.1,this.2.1,by rw [this.2.2];decide⟩
   | unL m=>
     simp only [S]
     split
     ·simp only [qzm]
      refine (vh hg (by decide)).bind fun g1 r1 T1 e1 o1 q1=> ?_
      refine (qdw o1).bind fun a r2 T2 e2 o2 q2=> ?_
      refine (ih (.args 21 a.1 [g1,a.2] [m]) r2 o2 trivial).bind fun n r3 T3 e3 o3 q3=> ?_
      refine (ih (.unL n) r3 o3 trivial).mono fun n' T' r' h' Tm h1 h2 h3=> ?_
      obtain ⟨x1,rfl,w1,rfl,v1⟩:=q1
      obtain ⟨x2,rfl,w2,w22,v2,n2⟩:=q2
      obtain ⟨y,g',ks',T4,rfl,wy,vy,hn,ar⟩:=q3
      have hks:=ar.klen
      have hT:T4.length≤70000:=by
       have:=o2.2
       rw [e3,Ad,Ae] at this
       omega
      have hw:=q9s h1 h3 h2 w1 n2 wy v1 v2 vy ar (by omega)
      have hn':n= .mk 21 x2.Text (x1.Lead::x2.Lead::y.Lead::g') (m::ks'):=by rw [hn,w2,w22];rfl
      have:=h' (Tm++(x1::x2::y::T4)) (by rw [hn'];exact hw) (by rw [hn'];rfl) (by rw [hn'];rfl)
      rw [Ap] at this
      exact this
     exact QT.ok hg fun Tm h1 h2 h3=>by rw [Az];exact ⟨h1,h2,h3⟩
   | prim =>
     cases t with
     | nil=>exact hg.1.elim
     | cons x r=>
       have vx:V x:=hg.1.1.2.2
       have leaf:∀k:Int,(k=17∨k=18∨k=23)→x.Text≠⟨#[]⟩→Kw (.mk k x.Text [x.Lead] [])=true→qat (.mk k x.Text [x.Lead] [])=true→QT (x::r) (PT .prim) (.ok (.mk k x.Text [x.Lead] [],r)):=fun k hk h hs hc=>by
        have hr:=q0h hg h
        refine QT.step hr (QT.ok hr ⟨qy1 k (by rcases hk with e | e | e <;> simp [e]) vx hs hc,?_,?_⟩) <;> (rcases hk with e | e | e <;> rw [e] <;> rfl)
       have lit:∀{w:BA},isT w (x::r)=true→x.Text=w:=fun h=>of_decide_eq_true h
       simp only [S,qv6]
       split
       ·rename_i h
        have h:=of_decide_eq_true h
        refine leaf 17 (.inl rfl) ?_ rfl (q9a hg.1 h)
        rcases hg.1.2 with ⟨_,h2,_⟩ | ⟨_,_,_,h2,_⟩
        ·rw [h] at h2;exact absurd h2 (by decide)
        exact h2
       split
       ·rename_i h;have e:=lit h;exact leaf 18 (.inr (.inl rfl)) (by rw [e];decide) (by rw [e];rfl) rfl
       split
       ·rename_i h;have e:=lit h;exact leaf 18 (.inr (.inl rfl)) (by rw [e];decide) (by rw [e];rfl) rfl
       split
       ·rename_i h;have e:=lit h;exact leaf 23 (.inr (.inr rfl)) (by rw [e];decide) (by rw [e];rfl) rfl
       split
       ·exact zaz _ hg
       split
       ·exact zay hB1 _ hg
       unfold qw8
       refine (qdw hg).bind fun a r2 T2 e2 o2 q2=> ?_
       obtain ⟨x2,rfl,w2,w22,v2,n2⟩:=q2
       split
       ·refine (ih (.args 20 a.1 [a.2] []) r2 o2 trivial).mono2 fun n T3 r3 e3 q3=> ?_
        obtain ⟨y,g',ks',T4,rfl,wy,vy,hn,ar⟩:=q3
        have hks:=ar.klen
        have hT:T4.length≤70000:=by
         have:=o2.2
         rw [e3,Ad,Ae] at this
         omega
        rw [hn,←w2,←w22]
        exact ⟨q9w (ks:=ks') n2 wy v2 vy ar (by omega),rfl,rfl⟩
       refine QT.ok o2 ?_
       rw [←w2,←w22]
       exact ⟨qy1 19 (by simp) v2 rfl n2,rfl,rfl⟩
   | args k x g ks=>
     simp only [S]
     refine (vh hg (by decide)).bind fun g1 r1 T1 e1 o1 q1=> ?_
     refine (ih (.argL true k x (g++ [g1]) ks) r1 o1 trivial).mono fun n T r h=> ?_
     obtain ⟨x1,rfl,w1,rfl,v1⟩:=q1
     obtain ⟨g',ks',hn,ar⟩:=h
     exact ⟨x1,g',ks',T,rfl,w1,v1,by rw [hn,Ap];rfl,ar⟩
   | argL b k x g ks=>
     simp only [S,argP]
     split
     ·refine (vh hg (by decide)).bind fun g1 r1 T1 e1 o1 q1=> ?_
      obtain ⟨x1,rfl,w1,rfl,v1⟩:=q1
      exact QT.ok o1 ⟨[x1.Lead], [],by rw [Az], .last w1 v1⟩
     split
     ·rename_i hb
      refine (hB1 t hg).bind fun n r T e o h=> ?_
      refine (ih (.argL false k x g (ks++ [n])) r o trivial).mono fun n' T' r' h'=> ?_
      obtain ⟨g',ks',hn,ar⟩:=h'
      rw [hb]
      exact ⟨g',n::ks',by rw [hn,Ap];rfl, .first h.1 h.2 ar⟩
     rename_i hb
     have hb:b=false:=by cases b with | true=>exact absurd rfl hb | false=>rfl
     refine (vh hg (by decide)).bind fun g1 r1 T1 e1 o1 q1=> ?_
     refine (hB1 r1 o1).bind fun n r T e o h=> ?_
     refine (ih (.argL false k x (g++ [g1]) (ks++ [n])) r o trivial).mono fun n' T' r' h'=> ?_
     obtain ⟨x1,rfl,w1,rfl,v1⟩:=q1
     obtain ⟨g',ks',hn,ar⟩:=h'
     rw [hb]
     exact ⟨x1.Lead::g',n::ks',by rw [hn,Ap,Ap];rfl, .next (T1:=T) (T2:=T') w1 v1 h.1 h.2 ar⟩
   | stmt=>exact q9y hB1 hC t hg
   | blk=>
     simp only [S]
     refine (vh hg (by decide)).bind fun g1 r1 T1 e1 o1 q1=> ?_
     refine (ih (.blkL [g1] []) r1 o1 trivial).mono fun n T r h=> ?_
     obtain ⟨x1,rfl,w1,rfl,v1⟩:=q1
     obtain ⟨ks',y,T',hn,rfl,wy,vy,kl⟩:=h
     rw [hn]
     exact ⟨zaw w1 kl wy v1 vy,rfl⟩
   | blkL g ks=>
     simp only [S,blkP]
     split
     ·refine (vh hg (by decide)).bind fun g1 r1 T1 e1 o1 q1=> ?_
      obtain ⟨x1,rfl,w1,rfl,v1⟩:=q1
      exact QT.ok o1 ⟨[],x1, [],by rw [Az],rfl,w1,v1, .nil⟩
     refine (hT t hg).bind fun n r T e o h=> ?_
     refine (ih (.blkL g (ks++ [n])) r o trivial).mono fun n' T' r' h'=> ?_
     obtain ⟨ks',y,T2,hn,rfl,wy,vy,kl⟩:=h'
     exact ⟨n::ks',y,T++T2,by rw [hn,Ap];rfl,by rw [Ap],wy,vy, .cons h.1 h.2 kl⟩
   | parL g ks=>
     simp only [S,qzu]
     split
     ·refine (vh hg (by decide)).bind fun g1 r1 T1 e1 o1 q1=> ?_
      obtain ⟨x1,rfl,w1,rfl,v1⟩:=q1
      exact QT.ok o1 ⟨[x1.Lead], [],by rw [Az], .last w1 v1⟩
     have nz:∀n:Node,decide ((ks++ [n]).length=0)=false:=fun n=>decide_eq_false (by rw [Ad,Ai];omega)
     split
     ·rename_i hb
      have hb:=of_decide_eq_true hb
      refine (vh hg (by decide)).bind fun g1 r1 T1 e1 o1 q1=> ?_
      refine (q00 r1 o1).bind fun n r T e o h=> ?_
      refine (ih (.parL (g++ [g1]) (ks++ [n])) r o trivial).mono fun n' T' r' h'=> ?_
      obtain ⟨x1,rfl,w1,rfl,v1⟩:=q1
      obtain ⟨g',ks',hn,ar⟩:=h'
      rw [nz] at ar
      show ∃g' ks',_∧AR _ (decide (ks.length=0)) _ _ _
      rw [decide_eq_false (show ¬ks.length=0 by omega)]
      exact ⟨x1.Lead::g',n::ks',by rw [hn,Ap,Ap];rfl, .next (T1:=T) (T2:=T') w1 v1 h.1 h.2 ar⟩
     rename_i hb
     rw [decide_eq_true_eq] at hb
     refine (q00 t hg).bind fun n r T e o h=> ?_
     refine (ih (.parL g (ks++ [n])) r o trivial).mono fun n' T' r' h'=> ?_
     obtain ⟨g',ks',hn,ar⟩:=h'
     rw [nz] at ar
     show ∃g' ks',_∧AR _ (decide (ks.length=0)) _ _ _
     rw [decide_eq_true (show ks.length=0 by omega)]
     exact ⟨g',n::ks',by rw [hn,Ap];rfl, .first h.1 h.2 ar⟩
   | func=>
     simp only [S,funP]
     refine (vh hg (by decide)).bind fun g1 r1 T1 e1 o1 q1=> ?_
     refine (qdw o1).bind fun a r2 T2 e2 o2 q2=> ?_
     refine (vh o2 (by decide)).bind fun g3 r3 T3 e3 o3 q3=> ?_
     refine (ih (.parL [g3] []) r3 o3 trivial).bind fun p r4 T4 e4 o4 q4=> ?_
     unfold funK
     refine (qdw o4).bind fun b r5 T5 e5 o5 q5=> ?_
     refine (hC r5 o5).bind fun c r6 T6 e6 o6 q6=> ?_
     obtain ⟨x1,rfl,w1,rfl,v1⟩:=q1
     obtain ⟨x2,rfl,w2,w22,v2,n2⟩:=q2
     obtain ⟨x3,rfl,w3,rfl,v3⟩:=q3
     obtain ⟨g',ks',hn,ar⟩:=q4
     obtain ⟨x5,rfl,w5,w55,v5,n5⟩:=q5
     have hks:=ar.klen
     have hT:T4.length≤70000:=by
      have:=o3.2
      rw [e4,Ad] at this
      omega
     have hp:=q5t w3 v3 ar (by omega)
     refine QT.ok o6 ?_
     rw [Az,hn,←w2,←w22,←w5,←w55]
     show WF _ (x1::x2::((x3::T4)++(x5::T6)))∧_
     exact ⟨q9t w1 n2 v1 v2 hp rfl n5 v5 q6.1 q6.2,rfl⟩
   | clsL x g ks=>
     simp only [S,q0p]
     split
     ·refine (hF t hg).bind fun n r T e o h=> ?_
      refine (ih (.clsL x g (ks++ [n])) r o trivial).mono fun n' T' r' h'=> ?_
      obtain ⟨ks',y,T2,hn,rfl,wy,vy,kl⟩:=h'
      exact ⟨n::ks',y,T++T2,by rw [hn,Ap];rfl,by rw [Ap],wy,vy, .cons h.1 h.2 kl⟩
     refine (vh hg (by decide)).bind fun g1 r1 T1 e1 o1 q1=> ?_
     obtain ⟨x1,rfl,w1,rfl,v1⟩:=q1
     exact QT.ok o1 ⟨[],x1, [],by rw [Az],rfl,w1,v1, .nil⟩
   | cls=>
     simp only [S,clsP]
     refine (vh hg (by decide)).bind fun g1 r1 T1 e1 o1 q1=> ?_
     refine (qdw o1).bind fun a r2 T2 e2 o2 q2=> ?_
     refine (q90 r2 o2).bind fun b r3 T3 e3 o3 q3=> ?_
     refine (vh o3 (by decide)).bind fun g4 r4 T4 e4 o4 q4=> ?_
     refine (ih (.clsL a.1 [g1,a.2,g4] [b]) r4 o4 trivial).mono fun n T r h=> ?_
     obtain ⟨x1,rfl,w1,rfl,v1⟩:=q1
     obtain ⟨x2,rfl,w2,w22,v2,n2⟩:=q2
     obtain ⟨x4,rfl,w4,rfl,v4⟩:=q4
     obtain ⟨ks',y,T',hn,rfl,wy,vy,kl⟩:=h
     rw [hn,←w2,←w22]
     show WF _ (x1::x2::(T3++(x4::(T'++ [y]))))∧_
     exact ⟨zav w1 n2 v1 v2 q3.1 q3.2 w4 v4 kl wy vy,rfl⟩
   | file ks=>
     cases t with
     | nil=>exact hg.1.elim
     | cons x r=>
       have on:∀{G:List Token→Rs Node} {P:Node→List Token→Prop},Rt G P→(∀n T,P n T→WF n T∧yo n.kind=1)→QT (x::r) (PT (.file ks)) (bR (G (x::r)) fun n l=>S f (.file (ks++ [n])) l):=fun {G P} hG hP=>by
        refine (hG _ hg).bind fun n r1 T e o h=> ?_
        refine (ih (.file (ks++ [n])) r1 o trivial).mono fun n' T' r' h'=> ?_
        obtain ⟨ks',y,q,h1,h2,hn,h4,kl⟩:=h'
        exact ⟨n::ks',y,q,h1,h2,by rw [hn,Ap];rfl,h4, .cons (hP n T h).1 (hP n T h).2 kl⟩
       simp only [S,q0k]
       split
       ·rename_i h
        exact QT.ok hg ⟨[],x,r,rfl,of_decide_eq_true h,by rw [Az],hg.1.1.2.2, .nil⟩
       split
       ·exact on hF fun n T h=>⟨h.1,by rw [h.2];rfl⟩
       split
       ·exact on hK fun n T h=>⟨h.1,by rw [h.2];rfl⟩
       split
       ·exact on (q01 hB1 9 (.inl rfl) rfl) fun n T h=>⟨h.1,by rw [h.2];rfl⟩
       trivial
end Ps
end Go.Proofs.YtpnkemogepoioaaGreatDoorW.Ex.Gr
