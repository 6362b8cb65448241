/- Glue, and what print writes behind a source. Conditions: those in each theorem. The walk of print's methods along the steps of a node (instance T). Conditions: those in each theorem. Small trees; the tokens of a small tree are small; what the functions of print and of the reference return. Conditions: those in each theorem. -/
import Derived.Test.YtpnkemogepoioaaGreatDoorKe
import Derived.Test.YtpnkemogepoioaaGreatDoorKc
import Derived.Test.YtpnkemogepoioaaGreatDoorYb
namespace Go.Proofs.YtpnkemogepoioaaGreatDoorW.Ex.Gr
open Go Go.Proofs.YtpnkemogepoioaaGreatDoorW.Ex Go.Proofs.YtpnkemogepoioaaGreatDoorW.Plain
set_option linter.all false
set_option maxRecDepth 100000
namespace Tk
theorem zaa (a b:ByteArray) (ha:a.size≤281474976710656):qa7 a b=some (qwr (L a) (L b)):=by
 rw [qa7.eq_def]
 simp only [J5.eq_def]
 have q0:=qgb a [];have q1:=qgb b [];have q2:=qgb a [61];have q3:=qgb b [61];have q4:=qgb b [61,61];have q5:=qgb a [47];have q6:=qgb b [47]
 simp only [q0,q1,q2,q3,q4,q5,q6]
 unfold qwr
 cases hA:L a with
 | nil=>simp
 | cons c l=>
   cases hB:L b with
   | nil=>simp
   | cons d r=>
     have hx:=qnu (k:=0) (show (L b).drop 0=d::r from hB)
     rw [show ((0:Nat):Int)=0 from rfl] at hx
     have hy:=q6g (s:=a) (by rw [hA];simp) (by omega)
     rw [hA] at hy
     rw [hx,hy]
     simp only [bs,q04,List.headD_cons,reduceCtorEq,false_or,if_false,decide_false,AA,or_self]
     obtain ⟨x,w1⟩:∃x,letC ((c::l).getLastD 0)=x:=⟨_,rfl⟩
     obtain ⟨y,w2⟩:∃y,letC d=y:=⟨_,rfl⟩
     simp only [w1,w2]
     clear w1 w2 hy hx hA hB
     obtain ⟨A,hA⟩:∃A,c::l=A:=⟨_,rfl⟩
     obtain ⟨B,hB⟩:∃B,d::r=B:=⟨_,rfl⟩
     simp only [hA,hB]
     clear hA hB
     have n1:¬([61]:List UInt8)= [47]:=by decide
     have n2:¬([61]:List UInt8)= [61,61]:=by decide
     have n3:¬([47]:List UInt8)= [61,61]:=by decide
     have n4:¬([47]:List UInt8)= [61]:=by decide
     cases x <;> cases y <;> by_cases h1:A= [61] <;> by_cases h4:A= [47] <;> by_cases h2:B= [61] <;> by_cases h3:B= [61,61] <;> by_cases h5:B= [47] <;> simp_all
theorem q2f (g:BA):y5 g (⟨#[47]⟩:BA)=some (decide ((L g).head? =some 47)):=by
 rw [y5.eq_def,ko.eq_def,show ((⟨#[47]⟩:BA).size:Int)=1 from rfl]
 have hl:=Y5 g
 cases h:L g with
 | nil=>
   rw [h] at hl
   rw [if_neg (by rw [decide_eq_true_eq];simp only [Ar] at hl;omega)];rfl
 | cons c r=>
   rw [h,Ae] at hl
   rw [if_pos (decide_eq_true (by omega)),show (0:Int)=((0:Nat):Int) from rfl,show (1:Int)=((1:Nat):Int) from rfl,qf2 (by omega) (by omega),bs,bs,h]
   rw [show List.take (1 - 0) (List.drop 0 (c::r))= [c] from rfl,List.head?_cons]
   congr 1
   rw [show (⟨#[47]⟩:BA)=ofB [47] from rfl,decide_eq_decide]
   constructor
   ·intro e
    have:=congrArg L e
    rw [qd3,qd3] at this
    simp only [B7,and_true] at this
    rw [this]
   intro e
   rw [Bh e]
theorem zaf {l:List UInt8} (h:l.length≤1000000000000):yl l 32=some (l++ [32]):=by
 unfold yl
 rw [if_pos ⟨by omega,by omega,by omega⟩];rfl
theorem q7x {l:List UInt8} {s:BA} (h:l.length+s.size≤1000000000000):yw l s=some (l++L s):=by
 unfold yw
 rw [if_pos (by omega)]
theorem q9k (g w last:BA) (s:List UInt8) (hl:last.size≤1000000000) (h:s.length+g.size+w.size≤1000000000):qi0 g w last s=some (w,outL s (L last) (L g) (L w)):=by
 have hg:=Y5 g
 have hw:=Y5 w
 have t20:∀s':List UInt8,s'.length≤s.length+1→Qq g w last s'=some (w,s'++(L g++L w)):=by
  intro s' hs'
  rw [Qq.eq_def,q7x (by omega),bs,q7x (by rw [Ad];omega),bs,Ap]
 rw [qi0.eq_def,zaa last w (by omega)]
 simp only [q2f,bs]
 have q0:=qgb g [];have q5:=qgb last [47]
 simp only [q0,q5]
 rw [zaf (by omega)]
 simp only [bs]
 rw [t20 s (by omega),t20 (s++ [32]) (by simp)]
 unfold outL ql2
 clear q0 q5 t20 hg hw hl h
 generalize qwr (L last) (L w)=x
 cases hG:L g with
 | nil=>by_cases h2:L last= [47] <;> cases x <;> simp [h2]
 | cons c r=>by_cases h2:L last= [47] <;> by_cases h3:c=47 <;> cases x <;> simp [h2,h3]
end Tk
end Go.Proofs.YtpnkemogepoioaaGreatDoorW.Ex.Gr

namespace Go.Proofs.YtpnkemogepoioaaGreatDoorW.Ex.Gr
open Go Go.Proofs.YtpnkemogepoioaaGreatDoorW.Ex
set_option linter.all false
set_option maxRecDepth 100000
def qp6 (s:(BA × List UInt8)) (g w:BA):Option (BA × List UInt8):=qi0 g w s.1 s.2
def qpc (s:(BA × List UInt8)) (n:Node) (l:BA) (v:Int):Option (Node × (BA × List UInt8)):=qdb s.1 s.2 n l v
def ownT (n:Node):(BA × List UInt8)→List BA→BA→BA→Option ((BA × List UInt8) × List BA):=ownG qp6 n
def kidT (n:Node):(BA × List UInt8)→List Node→BA→Int→Option ((BA × List UInt8) × List Node):=kidG qpc n
theorem qhp (sa:BA) (sb:List UInt8) (n:Node) (k:Int) (t:BA) (g:List BA) (ks:List Node) (v:Int) (c w:BA):y3 sa sb n k t g ks v c w=ownT n (sa,sb) g c w >>=fun x=>some (x.1.1,x.1.2,x.2):=by
 rw [y3.eq_def,ownT,ownG]
 rcases qsp n.gaps g.length c with ⟨x,e1,e2⟩ | ⟨e1,e3,e2⟩
 ·have h:g.length < n.gaps.length:=by
   rcases Br g.length n.gaps.length with h | h
   ·exact h
   rw [AW h] at e1;cases e1
  have hx:n.gaps[g.length]? =some x:=by
   rw [Be h] at e1
   rw [Ak h];simp only [B7] at e1;rw [e1.1]
  rw [e2,if_pos (by rw [As];exact decide_eq_true (by omega)),qmb,hx,bs,qbs.eq_def]
  simp only [qp6,ba,bs]
 have h:¬g.length < n.gaps.length:=by
  intro h
  rw [Be h] at e1;cases e1
 rw [e2,if_neg (by rw [As,decide_eq_true_eq];omega),qbs.eq_def]
 simp only [qp6,ba,bs]
theorem qhu (sa:BA) (sb:List UInt8) (n:Node) (k:Int) (t:BA) (g:List BA) (ks:List Node) (v:Int) (l:BA):uw sa sb n k t g ks v l=kidT n (sa,sb) ks l v >>=fun x=>some (x.1.1,x.1.2,x.2):=by
 rw [uw.eq_def,kidT,kidG]
 simp only [qpc,qa,ba,bs]
theorem qht {n:Node} {s:(BA × List UInt8)} {ks:List Node} {l:BA} {v:Int} {x:(BA × List UInt8) × List Node} (h:kidT n s ks l v=some x):x.2.length=ks.length+1:=q4o h
abbrev runT (n:Node):=run (ownT n) (kidT n)
theorem qx9 (n:Node) (k:Int) (t:BA) (v:Int):∀(r:Nat) (b:Bool) (sa:BA) (sb:List UInt8) (g:List BA) (ks:List Node),n.kids.length - ks.length=r→
 Jq b n k t g ks v sa sb=runT n (Zi v b r) (sa,sb) g ks >>=fun x=>some (x.1.1,x.1.2,x.2.1,x.2.2)
 | 0,b,sa,sb,g,ks,h=>by
   rw [Jq.eq_def]
   simp only [qa]
   rw [if_neg (by rw [As,decide_eq_true_eq];omega),qhp]
   cases b <;> simp only [runT,Zi,run,ba,bs]
 | r+1,true,sa,sb,g,ks,h=>by
   rw [Jq.eq_def]
   simp only [qa]
   rw [if_pos (by rw [As];exact decide_eq_true (by omega)),if_pos trivial,qhu]
   simp only [runT,Zi,run,ba,bs]
   refine Yz fun x hx=> ?_
   have:=qht hx
   rw [W4.eq_def]
   simp only [qa]
   exact qx9 n k t v r false x.1.1 x.1.2 g x.2 (by omega)
 | r+1,false,sa,sb,g,ks,h=>by
   rw [Jq.eq_def]
   simp only [qa]
   rw [if_pos (by rw [As];exact decide_eq_true (by omega)),if_neg (by decide),qhp]
   simp only [runT,Zi,run,ba,bs]
   refine Yz fun y hy=> ?_
   rw [qhu]
   simp only [ba,bs]
   refine Yz fun x hx=> ?_
   have:=qht hx
   rw [W4.eq_def]
   simp only [qa]
   exact qx9 n k t v r false x.1.1 x.1.2 y.2 x.2 (by omega)
theorem q8d (n:Node) (k:Int) (t:BA) (v:Int) (g:List BA):∀(l:List Node) (sa:BA) (sb:List UInt8) (ks:List Node),
 uz l n k t g ks v sa sb=runT n (allS sp v l.length) (sa,sb) g ks >>=fun x=>some (x.1.1,x.1.2,x.2.1,x.2.2)
 | [],sa,sb,ks=>by rw [uz.eq_def];rfl
 | m::l,sa,sb,ks=>by
   rw [uz.eq_def]
   simp only [qa,Ae]
   rw [qhu]
   simp only [runT,allS,run,ba,bs]
   refine Yz fun x hx=> ?_
   exact q8d n k t v g l x.1.1 x.1.2 x.2
theorem q5l (n:Node) (k:Int) (t:BA) (v:Int) (h0:0≤v) (h1:v≤100000) (f:Nat):∀(r:Nat) (sa:BA) (sb:List UInt8) (g:List BA) (ks:List Node),n.kids.length - ks.length=r→
 Yj (f:Int) n k t g ks (v+1) sa sb=runT n (qg2 v f n.kids.length r) (sa,sb) g ks >>=fun x=>some (x.1.1,x.1.2,x.2.1,x.2.2,v)
 | 0,sa,sb,g,ks,h=>by
   rw [Yj.eq_def]
   simp only [qa]
   rw [if_neg (by rw [As,decide_eq_true_eq];omega),we (by omega) (by omega),show v+1 - 1=v by omega,As]
   by_cases c:f < n.kids.length
   ·rw [if_pos (decide_eq_true (by omega)),qz4 v h0 (by omega),bs,qhp,qg2,q5m,if_pos c]
    simp only [runT,allS,AQ,run,ba,bs]
   rw [if_neg (by rw [decide_eq_true_eq];omega),qhp,qg2,q5m,if_neg c]
   simp only [runT,allS,AQ,run,ba,bs]
 | r+1,sa,sb,g,ks,h=>by
   rw [Yj.eq_def]
   simp only [qa]
   rw [if_pos (by rw [As];exact decide_eq_true (by omega)),qz4 (v+1) (by omega) (by omega),bs,qhu]
   simp only [runT,qg2,allS,AJ,run,ba,bs]
   refine Yz fun x hx=> ?_
   have:=qht hx
   exact q5l n k t v h0 h1 f r x.1.1 x.1.2 g x.2 (by omega)
theorem qyn (n:Node) (k:Int) (t:BA) (v:Int) (g:List BA):∀(l:List Node) (j:Nat) (t1 l1:BA) (sa:BA) (sb:List UInt8) (ks:List Node),l1=(if 0 < j then ⟨#[10,10]⟩ else t1)→(l≠ []→0 < n.kids.length)→
 Ji l j t1 n k t g ks v sa sb=runT n (qbe v l1 l.length++ [.own (qm9 t1 n.kids.length) e0]) (sa,sb) g ks >>=fun x=>some (x.1.1,x.1.2,x.2.1,x.2.2,v)
 | [],j,t1,l1,sa,sb,ks,h,hn=>by
   rw [Ji.eq_def]
   simp only [qa]
   by_cases c:0 < n.kids.length
   ·rw [if_pos (by rw [As];exact decide_eq_true (by omega)),K9.eq_def,qhp,qm9,if_pos c]
    simp only [runT,qbe,Ar,AQ,run,ba,bs]
   rw [if_neg (by rw [As,decide_eq_true_eq];omega),K9.eq_def,qhp,qm9,if_neg c]
   simp only [runT,qbe,Ar,AQ,run,ba,bs]
 | m ::l,j,t1,l1,sa,sb,ks,h,hn=>by
   have hp:=hn (by simp)
   have fe:∀a b:BA,qm9 a n.kids.length=qm9 b n.kids.length:=fun a b=>by rw [qm9,qm9,if_pos hp,if_pos hp]
   rw [Ji.eq_def]
   simp only [qa,Ae]
   by_cases c:0 < j
   ·rw [if_pos c] at h
    rw [if_pos (decide_eq_true (by omega)),Yi.eq_def]
    simp only [qa]
    rw [qhu,←h,qbe,AJ,runT,run]
    simp only [ba,bs]
    refine Yz fun x hx=> ?_
    rw [fe t1 l1]
    exact qyn n k t v g l (j+1) l1 ⟨#[10,10]⟩ x.1.1 x.1.2 x.2 (by rw [if_pos (by omega)]) (fun _=>hp)
   rw [if_neg c] at h
   rw [if_neg (by rw [decide_eq_true_eq];omega),Yi.eq_def]
   simp only [qa]
   rw [qhu,←h,qbe,AJ,runT,run]
   simp only [ba,bs]
   refine Yz fun x hx=> ?_
   rw [h]
   exact qyn n k t v g l (j+1) t1 ⟨#[10,10]⟩ x.1.1 x.1.2 x.2 (by rw [if_pos (by omega)]) (fun _=>hp)
theorem qto (n:Node) (k:Int) (t:BA) (v:Int) (sa:BA) (sb:List UInt8) (g:List BA) (ks:List Node):qda sa sb n k t g ks v=runT n (Zi v true (n.kids.length - ks.length)) (sa,sb) g ks >>=fun x=>some (x.1.1,x.1.2,x.2.1,x.2.2):=by
 rw [qda.eq_def];exact qx9 n k t v _ true sa sb g ks rfl
theorem qz0 (sa:BA) (sb:List UInt8) (n:Node) (k:Int) (t:BA) (g:List BA) (ks:List Node) (v:Int) (l w:BA):qcf sa sb n k t g ks v l w=runT n (qhr w n.text l v) (sa,sb) g ks >>=fun x=>some (x.1.1,x.1.2,x.2.1,x.2.2):=by
 rw [qcf.eq_def]
 simp only [qa,qhp,qhu,runT,qhr,run,ba,bs]
theorem q0s (sa:BA) (sb:List UInt8) (n:Node) (k:Int) (t:BA) (g:List BA) (ks:List Node) (v:Int) (h0:0≤v) (h1:v≤100000) (f:Nat):qel sa sb n k t g ks v (f:Int)=runT n (qg2 v f n.kids.length (n.kids.length - ks.length)) (sa,sb) g ks >>=fun x=>some (x.1.1,x.1.2,x.2.1,x.2.2,v):=by
 rw [qel.eq_def]
 simp only [qa]
 rw [we (by omega) (by omega)]
 exact q5l n k t v h0 h1 f _ sa sb g ks rfl
theorem q9i (sa:BA) (sb:List UInt8) (n:Node) (k:Int) (t:BA) (v:Int) (l:BA) (hg:yo n.kind=3):Yx sa sb n k t [] [] v l=runT n (stepsOf 0 n.kind n.text n.kids.length l v) (sa,sb) [] [] >>=fun x=>some (x.1.1,x.1.2,x.2.1,x.2.2):=by
 rw [Yx.eq_def]
 simp only [qa]
 generalize hk:n.kind=kd at hg ⊢
 have:kd=17∨kd=18∨kd=19∨kd=20∨kd=21∨kd=22∨kd=23∨kd=24∨kd=25∨kd=26:=by
  unfold yo at hg;split at hg <;> (try split at hg) <;> (try split at hg) <;> omega
 rcases this with rfl | rfl | rfl | rfl | rfl | rfl | rfl | rfl | rfl | rfl <;> simp only [stepsOf,Int.reduceEq,decide_false,decide_true,ite_true,ite_false,AA,reduceCtorEq,qge,qgf] <;>
  simp only [qhp,qhu,qto,runT,run,ba,bs,Ar,Nat.sub_zero]
 refine Yz fun x hx=> ?_
 have:=qht hx
 rw [Ar] at this
 simp only [qhp,qhu,qto,runT,run,ba,bs,this]
theorem q8p (sa:BA) (sb:List UInt8) (n:Node) (k:Int) (t:BA) (v:Int) (l:BA) (hg:yo n.kind=2):K6 sa sb n k t [] [] v l=runT n (stepsOf 0 n.kind n.text n.kids.length l v) (sa,sb) [] [] >>=fun x=>some (x.1.1,x.1.2,x.2.1,x.2.2):=by
 rw [K6.eq_def]
 simp only [qa]
 generalize hk:n.kind=kd at hg ⊢
 have:kd=10∨kd=11∨kd=12∨kd=13∨kd=15∨kd=16:=by
  unfold yo at hg;split at hg <;> (try split at hg) <;> (try split at hg) <;> omega
 rcases this with rfl | rfl | rfl | rfl | rfl | rfl <;> simp only [stepsOf,Int.reduceEq,decide_false,decide_true,ite_true,ite_false,AA,reduceCtorEq,qge,qgf] <;>
  (try rw [u5.eq_def]) <;>
  simp only [qa,qhp,qhu,q8d,qz0,runT,run,ba,bs,Ar,Nat.sub_zero]
theorem q6t (sa:BA) (sb:List UInt8) (n:Node) (k:Int) (t:BA) (v:Int) (l:BA) (hk:known n.kind=true) (h0:0≤v) (h1:v≤100000) (hg3:yo n.kind≠3) (hg2:yo n.kind≠2):qfy sa sb n k t [] [] v l=runT n (stepsOf 0 n.kind n.text n.kids.length l v) (sa,sb) [] [] >>=fun x=>some (x.1.1,x.1.2,x.2.1,x.2.2,v):=by
 rw [qfy.eq_def]
 simp only [qa]
 have hb:∀(sa:BA) (sb:List UInt8) (g:List BA) (ks:List Node) (f:Int),f=0∨f=1→qel sa sb n k t g ks v f=runT n (qg2 v f.toNat n.kids.length (n.kids.length - ks.length)) (sa,sb) g ks >>=fun x=>some (x.1.1,x.1.2,x.2.1,x.2.2,v):=by
  intro sa sb  g ks f hf
  rcases hf with rfl | rfl
  ·exact q0s sa sb n k t g ks v h0 h1 0
  exact q0s sa sb n k t g ks v h0 h1 1
 generalize hkd:n.kind=kd at hk hg3 hg2 ⊢
 have:kd=1∨kd=2∨kd=3∨kd=4∨kd=5∨kd=6∨kd=7∨kd=8∨kd=9∨kd=14:=by
  unfold known at hk;unfold yo at hg3 hg2
  simp only [An,decide_eq_true_eq] at hk
  split at hg3 <;> (try split at hg3) <;> (try split at hg3) <;> omega
 rcases this with rfl | rfl | rfl | rfl | rfl | rfl | rfl | rfl | rfl | rfl <;> simp only [stepsOf,Int.reduceEq,decide_false,decide_true,ite_true,ite_false,AA,reduceCtorEq,qge,qgf] <;>
  simp only [qhp,qhu,qto,qz0,runT,run,ba,bs,Ar,Nat.sub_zero]
 ·rw [qyn n k t v [] n.kids 0 l l sa sb [] (by rfl) (fun h=>B4.2 h)]
 ·refine Yz fun x hx=> ?_
  rw [hb _ _ _ _ _ (.inl rfl)]
  simp only [ba,bs];rfl
 ·refine Yz fun x hx=> ?_
  refine Yz fun x hx=> ?_
  rw [Int.add_zero]
  refine Yz fun x hx=> ?_
  have:=qht hx
  rw [Ar] at this
  refine Yz fun x hx=> ?_
  rw [hb _ _ _ _ _ (.inr rfl),this]
  simp only [ba,bs];rfl
 ·by_cases c:n.text=e0
  ·rw [if_pos c,if_neg (by rw [decide_eq_true c];decide)];rfl
  rw [if_neg c,if_pos (by rw [decide_eq_false c];rfl)]
  simp only [run,ba,bs]
 by_cases c:n.kids.length=0
 ·rw [if_pos c,if_neg (by rw [As,decide_eq_true_eq];omega)];rfl
 rw [if_neg c,if_pos (by rw [As];exact decide_eq_true (by omega))]
 simp only [run,ba,bs]
theorem q8m (n:Node) (s:(BA × List UInt8)) (l:BA) (v:Int) (hk:known n.kind=true) (h0:0≤v) (h1:v≤100000):
 qpc s n l v=run (ownG qp6 n) (kidG qpc n) (stepsOf 0 n.kind n.text n.kids.length l v) s [] [] >>=fun x=>some (Node.mk n.kind n.text x.2.1 x.2.2,x.1):=by
 rw [qpc,qdb.eq_def]
 simp only [qa,q4x hk,bs]
 by_cases c3:yo n.kind=3
 ·rw [if_pos (decide_eq_true c3),q9i _ _ _ _ _ _ _ c3]
  simp only [Kr.eq_def,ba,bs];rfl
 rw [if_neg (by rw [decide_eq_true_eq];exact c3)]
 by_cases c2:yo n.kind=2
 ·rw [if_pos (decide_eq_true c2),q8p _ _ _ _ _ _ _ c2]
  simp only [Kr.eq_def,qad.eq_def,ba,bs];rfl
 rw [if_neg (by rw [decide_eq_true_eq];exact c2),q6t _ _ _ _ _ _ _ hk h0 h1 c3 c2]
 simp only [Kr.eq_def,qad.eq_def,ba,bs];rfl
end Go.Proofs.YtpnkemogepoioaaGreatDoorW.Ex.Gr

namespace Go.Proofs.YtpnkemogepoioaaGreatDoorW.Ex.Gr
open Go Go.Proofs.YtpnkemogepoioaaGreatDoorW.Ex Tk
set_option linter.all false
set_option maxRecDepth 100000
mutual
def bdN:Node→Prop
 | .mk _ t g l=>t.size≤4000∧g.length≤4000∧(∀x∈g,x.size≤4000)∧bdL l
def bdL:List Node→Prop
 | []=>True
 | n::l=>bdN n∧bdL l
end
theorem q0u (n:Node):bdN n=(n.text.size≤4000∧n.gaps.length≤4000∧(∀x∈n.gaps,x.size≤4000)∧bdL n.kids):=by cases n;rw [bdN];rfl
theorem q0v:∀{l:List Node} {m:Node},bdL l→m∈l→bdN m
 | a::l,m,h,hm=>by
   rw [bdL] at h
   rcases AE.1 hm with rfl | hm
   ·exact h.1
   exact q0v h.2 hm
def okT (x:Tok):Prop:=x.1.size≤4000∧x.2.size≤4000
theorem q0l:∀(T:List Tok) (s:List UInt8) (last:BA),(∀x∈T,okT x)→last.size≤4000→s.length+8001*T.length≤1000000000→Yf qp6 (last,s) T=some ((srcL T s last).2,(srcL T s last).1)
 | [],s,last,_,_,_=>rfl
 | (g,w)::T,s,last,h,hl,hb=>by
   rw [Ae] at hb
   have a:=h _ (AK ..)
   have a1:g.size≤4000:=a.1
   have a2:w.size≤4000:=a.2
   have ho:=q6s s (L last) (L g) (L w)
   rw [Y5,Y5] at ho
   rw [Yf,qp6,q9k g w last s (by omega) (by omega),bs,srcL]
   exact q0l T _ w (fun x hx=>h x (Ay _ hx)) a2 (by omega)
theorem q29 {σ:Type} (emit:σ→BA→BA→Option σ) (node:σ→Node→BA→Int→Option (Node × σ))
 (hnode:∀(n:Node) (s:σ) (l:BA) (v:Int),known n.kind=true→0≤v→v≤100000→node s n l v=run (ownG emit n) (kidG node n) (stepsOf 0 n.kind n.text n.kids.length l v) s [] [] >>=fun x=>some (Node.mk n.kind n.text x.2.1 x.2.2,x.1))
 (n:Node) (hc:checkErr n=0) (hs:u3 n≤90000) (s:σ) (l:BA):node s n l 0=Yf emit s (toks 0 n l 0) >>=fun s=>some (layN 0 n l 0,s):=by
 refine qzx emit node (fun n=>checkErr n=0) (fun n h m hm=>(wn h).kids m hm) (fun n h l v=> ?_) (fun n h l l' v v' hst=>q17 0 (.inl rfl) (wn h).kn hst) (fun n s l v h h0 h1=>hnode n s l v (wn h).kn h0 h1) (u3 n) n (Aj _) hc s l 0 (Int.le_refl _) (by omega)
 have w:=wn h
 have e:=zal 0 n.text l v w.kn w.nk
 have o:=q8y 0 l v w.kn w.nk
 have p:=ql9 (stepsOf 0 n.kind n.text n.kids.length l v)
 have hle:=w.le
 exact ⟨by omega,by omega,by omega⟩
theorem q7e {n:Node} (h:wfB n=true):u0 n=some (checkErr n)∧True:=by
 unfold u0
 rw [if_pos h];exact ⟨rfl,trivial⟩
theorem q6u {a b:Int}:((!decide (a=b))=true)=¬a=b:=by simp
end Go.Proofs.YtpnkemogepoioaaGreatDoorW.Ex.Gr
