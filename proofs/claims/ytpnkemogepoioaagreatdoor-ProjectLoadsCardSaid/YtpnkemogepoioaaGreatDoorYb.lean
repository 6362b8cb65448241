/- Well-formed nodes and their steps: how many own tokens, kids, levels. Conditions: those in each theorem. -/
import Derived.Test.YtpnkemogepoioaaGreatDoorYa
import Derived.Test.YtpnkemogepoioaaGreatDoorGq
namespace Go.Proofs.YtpnkemogepoioaaGreatDoorW.Ex.Gr
open Go Go.Proofs.YtpnkemogepoioaaGreatDoorW.Ex
set_option linter.all false
set_option maxRecDepth 100000
def ut:List Step→List (BA × Int)
 | []=> []
 | .own _ _::r=>ut r
 | .kid l v::r=>(l,v)::ut r
theorem qf1:∀a b,wordsS (a++b)=wordsS a++wordsS b
 | [],b=>rfl
 | .own c w::a,b=>by rw [AJ,wordsS,wordsS,qf1 a b];rfl
 | .kid l v::a,b=>by rw [AJ,wordsS,wordsS,qf1 a b]
theorem qju:∀a b,ut (a++b)=ut a++ut b
 | [],b=>rfl
 | .own c w::a,b=>by rw [AJ,ut,ut,qju a b]
 | .kid l v::a,b=>by rw [AJ,ut,ut,qju a b];rfl
theorem qty:∀a b,nkS (a++b)=nkS a+nkS b
 | [],b=>by rw [AQ,nkS,AN]
 | .own c w::a,b=>by rw [AJ,nkS,nkS,qty a b]
 | .kid l v::a,b=>by rw [AJ,nkS,nkS,qty a b];omega
theorem ql9:∀a:List Step,a.length=(wordsS a).length+nkS a
 | []=>rfl
 | .own c w::a=>by rw [wordsS,nkS,Ae,Ae,ql9 a];omega
 | .kid l v::a=>by rw [wordsS,nkS,Ae,ql9 a];omega
theorem qtx (v:Int):∀(r:Nat) (b:Bool),nkS (Zi v b r)=r
 | 0,true=>rfl
 | 0,false=>rfl
 | r+1,true=>by rw [Zi,nkS,qtx v r false]
 | r+1,false=>by rw [Zi,nkS,nkS,qtx v r false]
theorem q4c (l:BA) (v:Int):∀r,nkS (allS l v r)=r
 | 0=>rfl
 | r+1=>by rw [allS,nkS,q4c l v r]
theorem qzy (v:Int):∀r l,nkS (qbe v l r)=r
 | 0,l=>rfl
 | r+1,l=>by rw [qbe,nkS,qzy v r]
theorem qo6 (v:Int):∀(r:Nat),(wordsS (Zi v false r)).length=r+1
 | 0=>rfl
 | r+1=>by rw [Zi,wordsS,wordsS,Ae,qo6 v r]
theorem qoc (v:Int):∀(r:Nat),wordsS (Zi v true r)=wordsS (Zi v false (r - 1))
 | 0=>rfl
 | r+1=>by rw [Zi,wordsS];rfl
theorem qtv (l:BA) (v:Int):∀r,wordsS (allS l v r)= []
 | 0=>rfl
 | r+1=>by rw [allS,wordsS,qtv l v r]
theorem qo7 (v:Int):∀r l,wordsS (qbe v l r)= []
 | 0,l=>rfl
 | r+1,l=>by rw [qbe,wordsS,qo7 v r]
theorem qpn (v:Int):∀(r i:Nat) (x:BA × Int),(ut (Zi v false r))[i]? =some x→x=(sp,v)
 | 0,i,x,h=>by simp [Zi,ut] at h
 | r+1,i,x,h=>by
   rw [Zi,ut,ut] at h
   cases i with
   | zero=>simpa using h.symm
   | succ i=>exact qpn v r i x (by simpa using h)
theorem q2d (v:Int) (r i:Nat) (x:BA × Int) (h:(ut (Zi v true r))[i]? =some x):x=(if i=0 then e0 else sp,v):=by
 cases r with
 | zero=>simp [Zi,ut] at h
 | succ r=>
   rw [Zi,ut] at h
   cases i with
   | zero=>simpa using h.symm
   | succ i=>rw [if_neg (by omega)];exact qpn v r i x (by simpa using h)
theorem qwg (l:BA) (v:Int):∀(r i:Nat) (x:BA × Int),(ut (allS l v r))[i]? =some x→x=(l,v)
 | 0,i,x,h=>by simp [allS,ut] at h
 | r+1,i,x,h=>by
   rw [allS,ut] at h
   cases i with
   | zero=>simpa using h.symm
   | succ i=>exact qwg l v r i x (by simpa using h)
theorem qsj (v:Int):∀(r i:Nat) (l:BA) (x:BA × Int),(ut (qbe v l r))[i]? =some x→x=(if i=0 then l else ⟨#[10,10]⟩,v)
 | 0,i,l,x,h=>by simp [qbe,ut] at h
 | r +1,i,l,x,h=>by
   rw [qbe,ut] at h
   cases i with
   | zero=>simpa using h.symm
   | succ i=>
     have:=qsj v r i _ x (by simpa using h)
     rw [this,if_neg (show ¬i+1=0 by omega)]
     split <;> rfl
def nkOk (k:Int) (nk:Nat):Prop:=
 if k=2 then nk=3 else if k=4∨k=9∨k=10∨k=11∨k=12∨k=16∨k=25∨k=26 then nk=1
 else if k=5∨k=8∨k=17∨k=18∨k=19∨k=22∨k=23 then nk=0
 else if k=7∨k=21 then 1≤nk else if k=14 then nk≤1 else if k=15∨k=24 then nk=2 else if k=13 then nk=3 else True
theorem kinds {k:Int} (h:known k=true):k=1∨k=2∨k=3∨k=4∨k=5∨k=6∨k=7∨k=8∨k=9∨k=10∨k=11∨k=12∨k=13∨k=14∨k=15∨k=16∨k=17∨k=18∨k=19∨k=20∨k=21∨k=22∨k=23∨k=24∨k=25∨k=26:=by
 unfold known at h
 simp only [An,decide_eq_true_eq] at h
 omega
theorem zak {n:Node} (h:known n.kind=true) (hk:Yd n=true):nkOk n.kind n.kids.length:=by
 unfold Yd at hk
 generalize n.kind=k at h hk ⊢
 generalize hl:n.kids.length=nk at hk ⊢
 rcases kinds h with rfl | rfl | rfl | rfl | rfl | rfl | rfl | rfl | rfl | rfl | rfl | rfl | rfl | rfl | rfl | rfl | rfl | rfl | rfl | rfl | rfl | rfl | rfl | rfl | rfl | rfl
 all_goals simp only [jc,shapes,Int.reduceToNat,List.getD_cons_succ,List.getD_cons_zero,Ae,Ar,Int.reduceEq,false_and,ite_false,true_and,ite_true,nkOk,or_self,or_false,false_or,and_true,and_false,or_true,true_or,Al,if_false,if_true] at hk ⊢
 all_goals (try (split at hk))
 all_goals (try (split at hk))
 all_goals (try omega)
 all_goals (try (cases hk;done))
theorem zal (d:Int) {k:Int} (t:BA) {nk:Nat} (l:BA) (v:Int) (h:known k=true) (hk:nkOk k nk):nkS (stepsOf d k t nk l v)=nk:=by
 rcases kinds h with rfl | rfl | rfl | rfl | rfl | rfl | rfl | rfl | rfl | rfl | rfl | rfl | rfl | rfl | rfl | rfl | rfl | rfl | rfl | rfl | rfl | rfl | rfl | rfl | rfl | rfl
 all_goals simp only [nkOk,Int.reduceEq,ite_false,ite_true,or_self,or_false,false_or,or_true,true_or,stepsOf,qty,qzy,q4c,qtx,nkS,qhr,qg2] at hk ⊢
 all_goals (try omega)
 all_goals (split <;> simp only [nkS] <;> omega)
theorem q8z (d:Int) {n:Node} (l:BA) (v:Int) (h:known n.kind=true) (hk:nkOk n.kind n.kids.length) (hn:n.kids.length≤50000):own n=((wordsS (stepsOf d n.kind n.text n.kids.length l v)).length:Int):=by
 unfold own
 rw [h,if_neg (by decide)]
 generalize n.kind=k at h hk ⊢
 rcases kinds h with rfl | rfl | rfl | rfl | rfl | rfl | rfl | rfl | rfl | rfl | rfl | rfl | rfl | rfl | rfl | rfl | rfl | rfl | rfl | rfl | rfl | rfl | rfl | rfl | rfl | rfl
 all_goals simp only [nkOk,ownN,Int.reduceEq,ite_false,ite_true,or_self,or_false,false_or,or_true,true_or,stepsOf,qf1,qo7,qtv,qoc,qo6,wordsS,qhr,qg2,Ad,Ae,Ar] at hk ⊢
 all_goals (try rfl)
 all_goals (try (rw [we (by omega) (by omega)];omega))
 all_goals (split <;> rfl)
theorem q8y (d:Int) {n:Node} (l:BA) (v:Int) (h:known n.kind=true) (hk:nkOk n.kind n.kids.length):(wordsS (stepsOf d n.kind n.text n.kids.length l v)).length≤n.kids.length+5:=by
 generalize n.kind=k at h hk ⊢
 rcases kinds h with rfl | rfl | rfl | rfl | rfl | rfl | rfl | rfl | rfl | rfl | rfl | rfl | rfl | rfl | rfl | rfl | rfl | rfl | rfl | rfl | rfl | rfl | rfl | rfl | rfl | rfl
 all_goals simp only [nkOk,Int.reduceEq,ite_false,ite_true,or_self,or_false,false_or,or_true,true_or,stepsOf,qf1,qo7,qtv,qoc,qo6,wordsS,qhr,qg2,Ad,Ae,Ar] at hk ⊢
 all_goals (try omega)
 all_goals (split <;> simp only [wordsS,Ae,Ar] <;> omega)
theorem ql8 {l:BA} {v:Int}:∀{S:List Step},Step.kid l v∈S→(l,v)∈ut S
 | .own c w::r,h=>by
   rw [ut]
   rcases AE.1 h with h | h
   ·cases h
   exact ql8 h
 | .kid a b::r,h=>by
   rw [ut]
   rcases AE.1 h with h | h
   ·cases h;exact AK ..
   exact Ay _ (ql8 h)
theorem qwf (v:Int) (r:Nat) {x:BA × Int} (h:x∈ut (Zi v true r)):x.2=v:=by
 obtain ⟨i,hi⟩:=AB h
 rw [q2d v r i x hi]
theorem qz5 (l:BA) (v:Int) (r:Nat) {x:BA × Int} (h:x∈ut (allS l v r)):x.2=v:=by
 obtain ⟨i,hi⟩:=AB h
 rw [qwg l v r i x hi]
theorem q4h (l:BA) (v:Int) (r:Nat) {x:BA × Int} (h:x∈ut (qbe v l r)):x.2=v:=by
 obtain ⟨i,hi⟩:=AB h
 rw [qsj v r i l x hi]
theorem q17 (d:Int) (hd:d=0∨d=1) {k:Int} {t:BA} {nk:Nat} {l l':BA} {v v':Int} (hk:known k=true) (h:Step.kid l' v'∈stepsOf d k t nk l v):v≤v'∧v'≤v+1:=by
 have key:∀x∈ut (stepsOf d k t nk l v),v≤x.2∧x.2≤v+1:=by
  intro x hx
  rcases kinds hk with rfl | rfl | rfl | rfl | rfl | rfl | rfl | rfl | rfl | rfl | rfl | rfl | rfl | rfl | rfl | rfl | rfl | rfl | rfl | rfl | rfl | rfl | rfl | rfl | rfl | rfl
  case' inr.inr.inr.inr.inr.inr.inr.inl=>by_cases c:t=e0 <;> simp [stepsOf,c,ut] at hx
  case' inr.inr.inr.inr.inr.inr.inr.inr.inr.inr.inr.inr.inr.inl=>by_cases c:nk=0 <;> simp [stepsOf,c,ut] at hx
  all_goals try simp only [stepsOf,Int.reduceEq,ite_false,ite_true,qju,ut,List.mem_append,AE,Bw,or_false,false_or,qhr,qg2,Az] at hx
  all_goals first
   | (have:=q4h _ _ _ hx;omega)
   | (have:=qwf _ _ hx;omega)
   | (have:=qz5 _ _ _ hx;omega)
   | (rcases hx with rfl | hx
      ·dsimp only;omega
      first
      | (have:=qwf _ _ hx;omega)
      | (have:=qz5 _ _ _ hx;omega))
   | (rcases hx with rfl | rfl | rfl <;> dsimp only <;> omega)
   | (rcases hx with rfl | rfl <;> dsimp only <;> omega)
   | (subst hx;dsimp only;omega)
 exact key _ (ql8 h)
structure WN (n:Node):Prop where
 kn:known n.kind=true
 nk:nkOk n.kind n.kids.length
 le:n.kids.length≤200
 gaps:∀d l v,n.gaps= []∨n.gaps.length=(wordsS (stepsOf d n.kind n.text n.kids.length l v)).length
 base:n.kind=7→∀m,n.kids[0]? =some m→m.kind=8
 kids:∀m∈n.kids,checkErr m=0
theorem wn {n:Node} (h:checkErr n=0):WN n:=by
 obtain ⟨p1,p2,p3⟩:=parts n h
 obtain ⟨_,_,_,h3⟩:=qqa h
 obtain ⟨h4,_⟩:=qwv h3
 obtain ⟨k0,k1,_⟩:=qzw h4
 have k2:=zak k0 k1
 refine ⟨k0,k2,p1,fun d l v=> ?_,fun h7 m hm=> ?_,fun m hm=> ?_⟩
 ·rw [q8z d l v k0 k2 (by omega)] at p2
  exact p2.imp id (fun e=>by omega)
 ·have:=(p3 0 m hm).2
  rw [h7] at this
  unfold fits at this
  simp only [An] at this
  have h8:=this.2
  rw [show Kb 7 ((0:Nat):Int)=(8,0) from rfl] at h8
  simp at h8;exact h8.symm
 obtain ⟨i,hi⟩:=AB hm
 exact (p3 i m hi).1
end Go.Proofs.YtpnkemogepoioaaGreatDoorW.Ex.Gr
