/- A symbolic executor for the machine's code, part S: straight runs, by computation. 'runK' computes on abstract values, as far as no test, no call and no side condition stands in the way; what it computes is so (Z3). General over the program; no conditions beside those in each theorem. -/
import Derived.Test.YtpnkemogepoioaaGreatDoorExE
namespace Go.Proofs.YtpnkemogepoioaaGreatDoorW.Ex
set_option linter.all false
open Go
set_option linter.unusedVariables false
structure TI where
 sz:Nat
 agg:Bool
 elem:Option (TypeId × Nat)
 arr:Option (Nat × TypeId × Nat)
 fields:List (TypeId × Nat × Nat)
 str:Bool
 int:Option IntKind
 zero:Option (List AV)
 places:Option (List (Nat × Nat))
 sk:Option (List SK)
 eqt:Nat
 plain:Bool
def eqtF:Nat→AV→Bool
 | 1, .bool _=>true
 | 2, .ptr _ _ _=>true
 | 2, .rptr _=>true
 | 2, .nilp=>true
 | 3, .nilf=>true
 | 3, .fn _ _=>true
 | _,_=>false
structure TIok (P:Program) (t:TypeId) (i:TI):Prop where
 sz:szP P t=some i.sz
 agg:aggP P t=some i.agg
 elem:∀e,i.elem=some e→elemP P t=some e
 arr:∀e,i.arr=some e→arrP P t=some e
 arr0:∀e,i.arr=some e→placesP P t=none
 fields:∀f x,i.fields[f]? =some x→fieldP P t f=some x
 str:i.str=true→strP P t=true
 int:∀k,i.int=some k→intP P t=some k
 zero:∀z,i.zero=some z→zeroAV P t=some z
 places:∀z,i.places=some z→placesP P t=some z
 sk:∀z,i.sk=some z→structSK P t=some z
 eqt:∀x,eqtF i.eqt x=true→eqTypeAV P t x=true
 plain:i.plain=true→notIfaceP P t=true
def optB {α:Type} [DecidableEq α] (x:Option α) (y:Option α):Bool:=match x with | none=>true | some a=>decide (y=some a)
def eqtP (P:Program) (t:TypeId):Nat:=match P.underlying t with | some .bool=>1 | some (.pointer _)=>2 | some (.func _ _ _)=>3 | _=>0
def skN:SK→Nat | .i=>0 | .s=>1 | .b=>2
theorem q6h {a b:SK} (h:skN a=skN b):a=b:=by cases a <;> cases b <;> first | rfl | simp [skN] at h
def tiB (P:Program) (t:TypeId) (i:TI):Bool:=
 decide (szP P t=some i.sz) && decide (aggP P t=some i.agg) && optB i.elem (elemP P t) && optB i.arr (arrP P t) && (i.arr.isNone || (placesP P t).isNone) &&
 (List.range i.fields.length).all (fun f=>decide (fieldP P t f=i.fields[f]?)) && (!i.str || strP P t) && optB i.int (intP P t) && optB i.places (placesP P t) &&
 optB (i.sk.map (·.map skN)) ((structSK P t).map (·.map skN)) && (decide (i.eqt=0) || decide (eqtP P t=i.eqt)) && (!i.plain || notIfaceP P t)
theorem qe6 {α:Type} [DecidableEq α] {x y:Option α} (h:optB x y=true):∀e,x=some e→y=some e:=by
 rintro e rfl
 simpa [optB] using h
theorem qm4:∀{a b:List SK},a.map skN=b.map skN→a=b
 | [], [],_=>rfl
 | [],_::_,h=>by simp at h
 | _::_, [],h=>by simp at h
 | x::a,y::b,h=>by
   simp only [AX,B7] at h
   rw [q6h h.1,qm4 h.2]
theorem tiOk {P:Program} {t:TypeId} {i:TI} (h:tiB P t i=true) (hz:i.zero=none∨zeroAV P t=i.zero):TIok P t i:=by
 simp only [tiB,An] at h
 obtain ⟨⟨⟨⟨⟨⟨⟨⟨⟨⟨⟨h1,h2⟩,h3⟩,h4⟩,h4'⟩,h5⟩,h6⟩,h7⟩,h8⟩,h9⟩,h10⟩,h11⟩:=h
 refine ⟨of_decide_eq_true h1,of_decide_eq_true h2,qe6 h3,qe6 h4,fun e he=> ?_,fun f x hx=> ?_,fun hs=> ?_,qe6 h7,fun z hzz=> ?_,qe6 h8,fun z hzz=> ?_,fun x hx=> ?_,fun hs=> ?_⟩
 ·rw [he] at h4';simpa using h4'
 ·have hl:=(Ah.1 hx).1
  have:=of_decide_eq_true (Aw.1 h5 f (BS.2 hl))
  rw [this,hx]
 ·simpa [hs] using h6
 ·rcases hz with hz | hz
  ·rw [hz] at hzz;cases hzz
  rw [hz,hzz]
 ·have:=qe6 h9 (z.map skN) (by rw [hzz];rfl)
  cases hs:structSK P t with
  | none=>rw [hs] at this;cases this
  | some y=>
    rw [hs] at this
    simp only [Ba,Ab] at this
    rw [qm4 this]
 ·simp only [Bp,decide_eq_true_eq] at h10
  rcases h10 with h0 | h0
  ·rw [h0] at hx;cases x <;> simp [eqtF] at hx
  unfold eqtP at h0
  unfold eqTypeAV
  split at h0 <;> rename_i hu <;> rw [←h0] at hx <;> (try simp only [hu]) <;> cases x <;> first | rfl | simp [eqtF] at hx
 simpa [hs] using h11
inductive TT where
 | z
 | n (v:Option TI) (l r:TT)
def TT.get:TT→Nat→Option TI
 | .z,_=>none
 | .n v l r,i=>bif Nat.beq i 0 then v else bif Nat.beq (i % 2) 1 then l.get (i / 2) else r.get (i / 2 - 1)
def TT.ok (P:Program):TT→(Nat→Nat)→Prop
 | .z,_=>True
 | .n v l r,f=>(∀i,v=some i→TIok P (f 0) i)∧l.ok P (fun q=>f (2*q+1))∧r.ok P (fun q=>f (2*q+2))
theorem TT.get_ok {P:Program}:∀(T:TT) (f:Nat→Nat),T.ok P f→∀(t:Nat) (i:TI),T.get t=some i→TIok P (f t) i
 | .z,f,_,t,i,h=>by simp [TT.get] at h
 | .n v l r,f,hok,t,i,h=>by
   obtain ⟨h1,h2,h3⟩:=hok
   simp only [TT.get] at h
   cases h0:Nat.beq t 0 with
   | true=>
     have:=AF h0
     subst this
     exact h1 i (by simpa [h0] using h)
   | false=>
     have hne:t≠0:=Bb h0
     rw [h0,cond_false] at h
     cases h4:Nat.beq (t % 2) 1 with
     | true=>
       have:=AF h4
       rw [h4,cond_true] at h
       have:=TT.get_ok l _ h2 (t / 2) i h
       simpa [show 2*(t / 2)+1=t by omega] using this
     | false=>
       have:=Bb h4
       rw [h4,cond_false] at h
       have:=TT.get_ok r _ h3 (t / 2 - 1) i h
       simpa [show 2*(t / 2 - 1)+2=t by omega] using this
inductive FT where
 | z
 | n (v:AV) (l r:FT)
def FT.get:FT→Nat→AV
 | .z,_=> .undef
 | .n v l r,i=>bif Nat.beq i 0 then v else bif Nat.beq (i % 2) 1 then l.get (i / 2) else r.get (i / 2 - 1)
def frT (t:FT):Fr:=fun i=>t.get i
def FT.setK {α:Type}:Nat→FT→Nat→AV→(FT→Option α)→Option α
 | 0,_,_,_,_=>none
 | d+1, .z,i,v,k=>bif Nat.beq i 0 then k (.n v .z .z) else bif Nat.beq (i % 2) 1 then setK d .z (i / 2) v (fun l=>k (.n .undef l .z)) else setK d .z (i / 2 - 1) v (fun r=>k (.n .undef .z r))
 | d+1, .n u l r,i,v,k=>bif Nat.beq i 0 then k (.n v l r) else bif Nat.beq (i % 2) 1 then setK d l (i / 2) v (fun l=>k (.n u l r)) else setK d r (i / 2 - 1) v (fun r=>k (.n u l r))
def FT.Sets (t:FT) (i:Nat) (v:AV) (t':FT):Prop:=∀j,t'.get j=if j=i then v else t.get j
theorem FT.setK_ok {α:Type} {c:α}:∀(d:Nat) (t:FT) (i:Nat) (v:AV) (k:FT→Option α),FT.setK d t i v k=some c→∃t',FT.Sets t i v t'∧k t'=some c
 | 0,_,_,_,_,h=>by simp [setK] at h
 | d + 1, .z,i,v,k,h=>by
   simp only [setK] at h
   cases h0:Nat.beq i 0 with
   | true=>
     have:=AF h0;subst this
     rw [h0,cond_true] at h
     refine ⟨_,fun j=> ?_,h⟩
     by_cases hj:j=0
     ·subst hj;rfl
     have:Nat.beq j 0=false:=by cases hb:Nat.beq j 0 with | false=>rfl | true=>exact absurd (AF hb) hj
     rw [if_neg hj]
     simp only [get,this,cond_false]
     cases Nat.beq (j % 2) 1 <;> rfl
   | false =>
     have hi:i≠0:=Bb h0
     rw [h0,cond_false] at h
     cases h1:Nat.beq (i % 2) 1 with
     | true =>
       have e1:=AF h1
       rw [h1,cond_true] at h
       obtain ⟨l',hl,hk⟩:=setK_ok d _ _ _ _ h
       refine ⟨_,fun j=> ?_,hk⟩
       cases hj0:Nat.beq j 0 with
       | true=>have:=AF hj0;subst this;rw [if_neg (by omega)];rfl
       | false=>
         have hj:j≠0:=Bb hj0
         cases hj1:Nat.beq (j % 2) 1 with
         | true=>
           have:=AF hj1
           simp only [get,hj0,hj1,cond_false,cond_true]
           rw [hl]
           by_cases e:j=i
           ·rw [if_pos (by omega),if_pos e]
           rw [if_neg (by omega),if_neg e];rfl
         | false=>
           have:=Bb hj1
           rw [if_neg (by omega)]
           simp only [get,hj0,hj1,cond_false]
     | false=>
       have e1:=Bb h1
       rw [h1,cond_false] at h
       obtain ⟨l',hl,hk⟩:=setK_ok d _ _ _ _ h
       refine ⟨_,fun j=> ?_,hk⟩
       cases hj0:Nat.beq j 0 with
       | true=>have:=AF hj0;subst this;rw [if_neg (by omega)];rfl
       | false=>
         have hj:j≠0:=Bb hj0
         cases hj1:Nat.beq (j % 2) 1 with
         | true=>
           have:=AF hj1
           rw [if_neg (by omega)]
           simp only [get,hj0,hj1,cond_false,cond_true]
         | false=>
           have:=Bb hj1
           simp only [get,hj0,hj1,cond_false]
           rw [hl]
           by_cases e:j=i
           ·rw [if_pos (by omega),if_pos e]
           rw [if_neg (by omega),if_neg e];rfl
 | d + 1, .n u l r,i,v,k,h=>by
   simp only [setK] at h
   cases h0:Nat.beq i 0 with
   | true=>
     have:=AF h0;subst this
     rw [h0,cond_true] at h
     refine ⟨_,fun j=> ?_,h⟩
     by_cases hj:j=0
     ·subst hj;rfl
     have:Nat.beq j 0=false:=by cases hb:Nat.beq j 0 with | false=>rfl | true=>exact absurd (AF hb) hj
     rw [if_neg hj]
     simp only [get,this,cond_false]
   | false =>
     have hi:i≠0:=Bb h0
     rw [h0,cond_false] at h
     cases h1:Nat.beq (i % 2) 1 with
     | true =>
       have e1:=AF h1
       rw [h1,cond_true] at h
       obtain ⟨l',hl,hk⟩:=setK_ok d _ _ _ _ h
       refine ⟨_,fun j=> ?_,hk⟩
       cases hj0:Nat.beq j 0 with
       | true=>have:=AF hj0;subst this;rw [if_neg (by omega)];rfl
       | false=>
         have hj:j≠0:=Bb hj0
         cases hj1:Nat.beq (j % 2) 1 with
         | true=>
           have:=AF hj1
           simp only [get,hj0,hj1,cond_false,cond_true]
           rw [hl]
           by_cases e:j=i
           ·rw [if_pos (by omega),if_pos e]
           rw [if_neg (by omega),if_neg e]
         | false=>
           have:=Bb hj1
           rw [if_neg (by omega)]
           simp only [get,hj0,hj1,cond_false]
     | false=>
       have e1:=Bb h1
       rw [h1,cond_false] at h
       obtain ⟨l',hl,hk⟩:=setK_ok d _ _ _ _ h
       refine ⟨_,fun j=> ?_,hk⟩
       cases hj0:Nat.beq j 0 with
       | true=>have:=AF hj0;subst this;rw [if_neg (by omega)];rfl
       | false=>
         have hj:j≠0:=Bb hj0
         cases hj1:Nat.beq (j % 2) 1 with
         | true=>
           have:=AF hj1
           rw [if_neg (by omega)]
           simp only [get,hj0,hj1,cond_false,cond_true]
         | false=>
           have:=Bb hj1
           simp only [get,hj0,hj1,cond_false]
           rw [hl]
           by_cases e:j=i
           ·rw [if_pos (by omega),if_pos e]
           rw [if_neg (by omega),if_neg e]
theorem FT.Sets.put {t t':FT} {i:Nat} {v:AV} (h:FT.Sets t i v t'):frT t'=put (some i) v (frT t):=funext fun j=>by
 rw [ur];exact h j
end Go.Proofs.YtpnkemogepoioaaGreatDoorW.Ex
