/- What the functions of the token layer return. Conditions: those in each theorem. Lists along a loop; a tree is equal to itself. Conditions: those in each theorem. -/
import Derived.Test.YtpnkemogepoioaaGreatDoorKt
import Derived.Lib.AtoiAllCases
namespace Go.Proofs.YtpnkemogepoioaaGreatDoorW.Ex.Gr
open Go Go.Proofs.YtpnkemogepoioaaGreatDoorW.Ex Go.Proofs.YtpnkemogepoioaaGreatDoorW.Plain
set_option linter.all false
set_option maxRecDepth 100000
theorem qi3 (t0:BA) (t5:(List Token)) (t6:Int):wt t0 t5 t6=(
 K5 t0 t6 >>=fun x1=>
 if (decide (x1=(t0.size:Int)))=true then
  ssub t0 t6 (t0.size:Int) >>=fun x2=>
  app 48 t5 ([(Token.mk (4:Int) x2 (⟨#[]⟩) (t0.size:Int))]) >>=fun x3=>
  some (x3,(0:Int),(0:Int))
 else
  ssub t0 x1 (t0.size:Int) >>=fun x4=>
  Yw x4 >>=fun x5=>
  if (decide (x5.2=(0:Int)))=true then
   some (([]:(List Token)),(1:Int),x1)
  else
   ssub t0 t6 x1 >>=fun x6=>
   ssub t0 x1 (IntKind.i64.wrap (x1+x5.1)) >>=fun x7=>
   app 48 t5 ([(Token.mk x5.2 x6 x7 x1)]) >>=fun x8=>
   wt t0 x8 (IntKind.i64.wrap (x1+x5.1))
 :Option ((List Token) × Int × Int)):=wt.eq_def t0 t5 t6
theorem qfz (t0:BA) (t3:Int):vu t0 t3=(
 if (decide (t3 < (t0.size:Int)))=true then
  sx t0 t3 >>=fun x1=>
  Zj x1 >>=fun x2=>
  if x2=true then
   vu t0 (IntKind.i64.wrap (t3+(1:Int)))
  else
   Qp t3
 else
  Qp t3
 :Option Int):=vu.eq_def t0 t3
namespace Tk
open Go.Lib (decDigits parseUint10 parseMag atoiAll nDigits)
theorem qxf:∀(l:List UInt8) (s:ByteArray) (k:Nat),(L s).drop k=l→s.size≤9223372036854775806→k≤s.size→vu s (k:Int)=some ((k+runL l:Nat):Int)
 | [],s,k,h,hs,hk=>by
   have:=drop_nil h
   rw [qfz,decide_eq_false (by omega),ff,Qp.eq_def];rfl
 | c ::l,s,k,h,hs,hk=>by
   obtain ⟨h1,h2⟩:=q68 h
   rw [qfz,decide_eq_true (by omega),tt,qnu h,bs,q04,bs,runL]
   cases letC c with
   | false=>rw [ff,Qp.eq_def,if_neg (by decide)];rfl
   | true=>
     rw [tt,if_pos rfl,we (by omega) (by omega)]
     have:=qxf l s (k+1) h2 hs (by omega)
     rw [show ((k+1:Nat):Int)=(k:Int)+1 from rfl] at this
     rw [this]
     congr 2;omega
theorem za4 (s:ByteArray) (hs:s.size≤9223372036854775806):qac s=some (runL (L s):Int):=by
 rw [qac.eq_def]
 have:=qxf (L s) s 0 rfl hs (by omega)
 rw [AN] at this
 exact this
theorem qo5:∀(l:List UInt8) (acc u:Nat),parseUint10 acc l= .ok u→yj (acc:Int) l=some (u:Int)
 | [],acc,u,h=>by rw [parseUint10] at h;cases h;rfl
 | c ::r,acc,u,h=>by
   simp only [parseUint10] at h
   split at h
   ·rename_i hc
    split at h
    ·cases h
    split at h
    ·cases h
    have:=qo5 r _ u h
    rw [yj]
    have hd:vo (c.toNat:Int)=true:=decide_eq_true (by omega)
    rw [if_pos hd,show (acc:Int)*10+((c.toNat:Int) - 48)=((acc*10+(c.toNat - 48):Nat):Int) by omega]
    exact this
   cases h
theorem qji:∀(l:List UInt8) (acc n:Int),0≤acc→yj acc l=some n→acc≤n
 | [],acc,n,h0,h=>by cases h;exact Int.le_refl _
 | c ::r,acc,n,h0,h=>by
   rw [yj] at h
   split at h
   ·rename_i hd
    have hd:=of_decide_eq_true hd
    have:=qji r _ n (by omega) h
    omega
   cases h
theorem qwb:∀(l:List UInt8) (acc u:Nat),yj (acc:Int) l=some (u:Int)→u≤1000000000000→parseUint10 acc l= .ok u
 | [],acc,u,h,hu=>by
   rw [yj] at h
   rw [parseUint10]
   have:=Bh h
   rw [Int.ofNat_inj.1 this]
 | c ::r,acc,u,h,hu=>by
   rw [yj] at h
   split at h
   ·rename_i hd
    have hd:=of_decide_eq_true hd
    have hm:=qji r _ _ (by omega) h
    rw [show (acc:Int)*10+((c.toNat:Int) - 48)=((acc*10+(c.toNat - 48):Nat):Int) by omega] at h
    have:=qwb r _ u h hu
    simp only [parseUint10]
    rw [if_pos ⟨by omega,by omega⟩,if_neg (by omega),if_neg (by omega)]
    exact this
   cases h
theorem qp8 {c:UInt8} (h0:48≤c.toNat) (h1:c.toNat≤57):UInt8.ofNat (48+(c.toNat - 48))=c:=by
 apply B8.1
 rw [UInt8.toNat_ofNat']
 omega
theorem q5d (acc:Nat) (c:UInt8) (h:0 < acc) (h0:48≤c.toNat) (h1:c.toNat≤57):decDigits (acc*10+(c.toNat - 48))=decDigits acc++ [c]:=by
 rw [decDigits,dif_neg (by omega),show (acc*10+(c.toNat - 48)) / 10=acc by omega,show (acc*10+(c.toNat - 48)) % 10=c.toNat - 48 by omega,qp8 h0 h1]
theorem qsw:∀(l:List UInt8) (acc u:Nat),0 < acc→yj (acc:Int) l=some (u:Int)→decDigits u=decDigits acc++l
 | [],acc,u,h0,h=>by
   rw [yj] at h
   rw [Az,Int.ofNat_inj.1 (Bh h)]
 | c ::r,acc,u,h0,h=>by
   rw [yj] at h
   split at h
   ·rename_i hd
    have hd:=of_decide_eq_true hd
    rw [show (acc:Int)*10+((c.toNat:Int) - 48)=((acc*10+(c.toNat - 48):Nat):Int) by omega] at h
    rw [qsw r _ u (by omega) h,q5d acc c h0 (by omega) (by omega),Ap];rfl
   cases h
theorem qw5 (c:UInt8) (r:List UInt8) (u:Nat) (h:yj 0 (c::r)=some (u:Int)) (hc:c≠48):decDigits u=c::r:=by
 rw [yj] at h
 split at h
 ·rename_i hd
  have hd:=of_decide_eq_true hd
  have hne:c.toNat≠48:=fun e=>hc (B8.1 e)
  rw [show (0:Int)*10+((c.toNat:Int) - 48)=((c.toNat - 48:Nat):Int) by omega] at h
  rw [qsw r _ u (by omega) h,Go.Lib.decDigits_one (by omega),qp8 (by omega) (by omega)];rfl
 cases h
theorem q0m:∀(r:List UInt8) (u:Nat),r≠ []→yj 0 r=some (u:Int)→(decDigits u).length≤r.length
 | [],u,h,_=>absurd rfl h
 | c ::r,u,_,h=>by
   by_cases hc:c=48
   ·subst hc
    rw [yj] at h
    have hd:vo ((48:UInt8).toNat:Int)=true:=rfl
    rw [if_pos hd,show (0:Int)*10+(((48:UInt8).toNat:Int) - 48)=0 from rfl] at h
    cases r with
    | nil=>
      have hu:u=0:=by have:=Bh h;omega
      rw [hu,Go.Lib.decDigits_one (by decide)];decide
    | cons d r=>
      have:=q0m (d::r) u (by simp) h
      rw [Ae];omega
   rw [qw5 c r u h hc];exact Aj _
theorem qzz:∀(k u:Nat),0 < k→u < 10 ^ k→nDigits u≤k
 | 0,u,h,_=>absurd h (by decide)
 | k +1,u,_,h=>by
   by_cases hu:u < 10
   ·rw [Go.Lib.nDigits_small hu];omega
   rw [Go.Lib.nDigits_big hu]
   have h1:u / 10 < 10 ^ k:=by rw [Nat.div_lt_iff_lt_mul (by decide)];rw [Nat.pow_succ] at h;exact h
   have hk:0 < k:=by
    rcases Nat.eq_zero_or_pos k with rfl | h2
    ·rw [Nat.pow_zero] at h1;omega
    exact h2
   have:=qzz k (u / 10) hk h1
   omega
theorem q1k:∀(l:List UInt8) (acc:Nat) (n:Int),yj (acc:Int) l=some n→∃u:Nat,n=(u:Int):=fun l acc n h=>⟨n.toNat,by have:=qji l acc n (by omega) h;omega⟩
theorem q6f (c:UInt8) (r:List UInt8) (hd:digC c=true):qae (c::r)=Qg (c::r):=by
 have hdc:48≤c.toNat∧c.toNat≤57:=by have:=of_decide_eq_true hd;omega
 have hA:atoiAll (c::r)=Lib.signless (parseMag (c::r)):=Lib.atoiAll_plain c r (by omega) (by omega)
 have hM:parseMag (c::r)=parseUint10 0 (c::r):=by unfold Go.Lib.parseMag;rw [if_neg (by simp)]
 rw [hM] at hA
 have key:∀v:Int,atoiAll (c::r)= .ok v→yj 0 (c::r)=some v:=by
  intro v hv
  rw [hA] at hv
  cases hp:parseUint10 0 (c::r)
  ·rename_i u
   rw [hp] at hv
   simp only [Go.Lib.signless] at hv
   split at hv
   ·cases hv
   injection hv with hv
   rw [←hv]
   exact qo5 _ 0 u hp
  ·rw [hp] at hv;cases hv
  rw [hp] at hv;cases hv
 unfold Qg
 have e0:(!(c::r).isEmpty)=true:=rfl
 rw [e0,Bv]
 cases hv:yj 0 (c::r) with
 | none=>
   rw [Bool.and_false]
   unfold qae
   cases ha:atoiAll (c::r)
   ·rw [key _ ha] at hv;cases hv
   ·rfl
   rfl
 | some n=>
   obtain ⟨u,rfl⟩:=q1k (c::r) 0 n hv
   by_cases hn:(u:Int)≤1000000000000
   ·have hp:=qwb (c::r) 0 u hv (by omega)
    have ha:atoiAll (c::r)= .ok (u:Int):=by
     rw [hA,hp]
     unfold Go.Lib.signless
     simp only
     rw [if_neg (by omega)]
    have hi:Lib.itoa (u:Int)=decDigits u:=by unfold Go.Lib.itoa;rw [if_neg (by omega),Bj]
    unfold qae
    rw [ha]
    simp only
    rw [decide_eq_true hn,hi,Bool.and_true,Bv]
    have hlen:(decDigits u).length≤13:=by
     rw [Go.Lib.decDigits_length];exact qzz 13 u (by decide) (by omega)
    by_cases hc:c=48
    ·subst hc
     cases r with
     | nil=>
       have hu:u=0:=by
        rw [yj] at hv
        have hd:vo ((48:UInt8).toNat:Int)=true:=rfl
        rw [if_pos hd] at hv
        have:=Bh hv
        have h48:((48:UInt8).toNat:Int)=48:=rfl
        omega
       rw [hu,Go.Lib.decDigits_one (by decide)];rfl
     | cons d r=>
       have hl:(decDigits u).length≤(d::r).length:=by
        have h2:=hv
        rw [yj] at h2
        have hd:vo ((48:UInt8).toNat:Int)=true:=rfl
        rw [if_pos hd,show (0:Int)*10+(((48:UInt8).toNat:Int) - 48)=0 from rfl] at h2
        exact q0m (d::r) u (by simp) h2
       have hne:(decDigits u==48::d::r)=false:=by
        rw [beq_eq_false_iff_ne]
        intro e
        rw [e] at hl
        simp at hl
        omega
       rw [hne]
       have h1:decide (1 < (48::d::r).length)=true:=decide_eq_true (by simp)
       rw [h1]
       simp
    rw [qw5 c r u hv hc] at hlen ⊢
    have hh:((c::r).head? ==some 48)=false:=by
     rw [beq_eq_false_iff_ne]
     intro e
     exact hc (Bh e)
    rw [hh,decide_eq_true hlen]
    simp
   have hf:decide ((u:Int)≤1000000000000)=false:=decide_eq_false hn
   simp only [hf,Bool.and_false]
   unfold qae
   cases ha:atoiAll (c::r)
   ·have:=key _ ha
    rw [hv] at this
    cases this
    simp only [hf,Cf]
   ·rfl
   rfl
theorem q0f (s:ByteArray) (a b c:UInt8) (l:List UInt8) (h:L s=c::l):Z8 s ⟨#[a,b]⟩=decide (c=a∧l.head? =some b):=by
 have hl:=Y5 s
 rw [h,Ae] at hl
 unfold Z8
 have e:(s.extract 0 2=⟨#[a,b]⟩)=((c::l).take 2= [a,b]):=by
  apply propext
  rw [←h]
  constructor
  ·intro e
   have:=congrArg L e
   rw [show L (s.extract 0 2)=(L s).take 2 by unfold L;rw [Ca,Ch,B2];rfl] at this
   exact this
  intro e
  apply q1a
  rw [show L (s.extract 0 2)=(L s).take 2 by unfold L;rw [Ca,Ch,B2];rfl]
  exact e
 have e2:(⟨#[a,b]⟩:ByteArray).size=2:=rfl
 rw [Bool.eq_iff_iff]
 simp only [An,decide_eq_true_eq,e2,e]
 cases l with
 | nil=>simp at hl ⊢
 | cons d r=>simp;rw [Ae] at hl;omega
theorem q7d {c:UInt8} (hd:digC c=true):cls c=1:=by rw [cls,if_pos hd]
theorem q7c {c:UInt8} (hw:letC c=true) (hd:digC c=false):cls c=2:=by rw [cls,hd,if_neg (by decide),if_pos hw]
theorem q5g {c:UInt8} (hw:letC c=false) (hd:digC c=false) (hm:qe7 c=false):cls c=0:=by rw [cls,hd,if_neg (by decide),hw,if_neg (by decide),hm,if_neg (by decide)]
theorem q5h {c:UInt8} (hw:letC c=false) (hd:digC c=false) (hm:qe7 c=true):cls c=3:=by rw [cls,hd,if_neg (by decide),hw,if_neg (by decide),if_pos hm]
theorem za5 (s p:ByteArray):y5 s p=some (Z8 s p):=by
 rw [y5.eq_def,ko.eq_def,Z8]
 by_cases h:p.size≤s.size
 ·have h':(p.size:Int)≤(s.size:Int):=by omega
  have hs:ssub s 0 (p.size:Int)=some (s.extract 0 p.size):=by unfold ssub;rw [if_pos ⟨by omega,by omega,by omega⟩];rfl
  rw [if_pos (decide_eq_true h'),hs,bs,bs,decide_eq_true h,Bv]
 have h':¬(p.size:Int)≤(s.size:Int):=by omega
 rw [if_neg (by rw [decide_eq_true_eq];exact h'),bs,decide_eq_false h,Cf]
theorem q7r (s:ByteArray) (hs:s.size≤281474976710656):Yw s=some (((ke (L s)).1:Int),(ke (L s)).2):=by
 rw [Yw.eq_def]
 cases hL:L s with
 | nil=>
   have:s=⟨#[]⟩:=q1a hL
   rw [decide_eq_true this,tt];rfl
 | cons c l=>
   have hne:¬s=⟨#[]⟩:=by
    rintro rfl
    cases hL
   have hx:=qnu (k:=0) (show (L s).drop 0=c::l from hL)
   rw [show ((0:Nat):Int)=0 from rfl] at hx
   have hr:=qtn (c::l)
   have hl:=Y5 s
   rw [hL] at hl
   rw [decide_eq_false hne,ff,hx,bs,qlh,bs]
   have hrun:=za4 s (by omega)
   rw [hL] at hrun
   cases hd:digC c with
   | true=>
     rw [q7d hd,qpb l hd,show decide ((1:Int)=1)=true from rfl,tt,hrun,bs]
     have hsub:=qf2 (s:=s) (a:=0) (b:=runL (c::l)) (by omega) (by omega)
     rw [show ((0:Nat):Int)=0 from rfl] at hsub
     rw [hsub,bs,BR,Nat.sub_zero,hL]
     unfold Wy
     rw [if_pos (by rw [qhk,Bs];omega),bs]
     have:qae (ofB ((c::l).take (runL (c::l)))).data.toList=Qg ((c::l).take (runL (c::l))):=by
      show qae ((c::l).take (runL (c::l)))=_
      have hp:=qnw l (qz6 hd)
      obtain ⟨n,hn⟩:∃n,runL (c::l)=n+1:=⟨runL (c::l) - 1,by omega⟩
      rw [hn,BQ]
      exact q6f c _ hd
     rw [this]
     cases Qg ((c::l).take (runL (c::l))) with
     | true=>rfl
     | false=>rw [ff,vv.eq_def];rfl
   | false=>
     cases hw:letC c with
     | true=>
       rw [q7c hw hd,qpa l hw hd,show decide ((2:Int)=1)=false from rfl,ff,show decide ((2:Int)=2)=true from rfl,tt,hrun,bs]
       by_cases h:runL (c::l)≤32
       ·rw [decide_eq_true (by omega),tt,if_pos h]
       rw [decide_eq_false (by omega),ff,if_neg h,Qt.eq_def,vv.eq_def];rfl
     | false=>
       cases hm:qe7 c with
       | false=>
         rw [q5g hw hd hm,qn0 l hw hm,show decide ((0:Int)=1)=false from rfl,ff,show decide ((0:Int)=2)=false from rfl,ff,show decide ((0:Int)=3)=false from rfl,ff,Qt.eq_def,vv.eq_def];rfl
       | true=>
         rw [q5h hw hd hm,qks l hw hm,show decide ((3:Int)=1)=false from rfl,ff,show decide ((3:Int)=2)=false from rfl,ff,show decide ((3:Int)=3)=true from rfl,tt]
         simp only [za5]
         rw [bs,bs,q0f s 47 47 c l hL,q0f s 61 61 c l hL]
         simp only [decide_eq_true_eq]
         by_cases h1:c=47∧l.head? =some 47
         ·rw [if_pos h1,if_pos h1];rfl
         rw [if_neg h1,if_neg h1]
         by_cases h2:c=61∧l.head? =some 61
         ·rw [if_pos h2,if_pos h2];rfl
         rw [if_neg h2,if_neg h2];rfl
theorem za6 (s:ByteArray) (k:Nat) (hs:s.size≤9223372036854775807) (hk:k≤s.size):K5 s (k:Int)=some ((s.size - (zk ((L s).drop k)).length:Nat):Int):=by
 unfold K5
 rw [if_pos hs,qp4 hk];rfl
theorem q0x {α:Type} {by_:Nat} {l m:List α} (h:(l.length+m.length)*by_≤140737488355328) (h2:l.length+m.length≤9223372036854775807):app by_ l m=some (l++m):=by
 unfold app;rw [if_pos ⟨h,h2⟩]
theorem q6j (s:ByteArray) (k:Nat) (hk:k≤s.size):(L s).drop (s.size - (zk ((L s).drop k)).length)=zk ((L s).drop k)∧k≤s.size - (zk ((L s).drop k)).length∧(zk ((L s).drop k)).length≤s.size:=by
 have h1:=q1z ((L s).drop k)
 have h2:=qhg ((L s).drop k)
 have h3:((L s).drop k).length=s.size - k:=by rw [BH,Y5]
 rw [List.drop_drop,h3] at h1
 refine ⟨?_,by omega,by omega⟩
 rw [show k+(s.size - k - (zk ((L s).drop k)).length)=s.size - (zk ((L s).drop k)).length by omega] at h1
 exact h1.symm
theorem qnd (s:ByteArray) (hs:s.size≤65536):∀(f:Nat) (acc:List Token) (k:Nat),k≤s.size→s.size - k < f→acc.length+(s.size - k)≤65536→
 wt s acc (k:Int)=some (endT acc (qdj s.size f ((L s).drop k)))
 | 0,acc,k,_,h,_=>absurd h (by omega)
 | f +1,acc,k,hk,hf,ha=>by
   obtain ⟨r1,r2,r3⟩:=q6j s k hk
   have hlen:((L s).drop k).length=s.size - k:=by rw [BH,Y5]
   rw [qi3,za6 s k (by omega) hk,bs,qdj]
   generalize hr:zk ((L s).drop k)=r at r1 r2 r3
   by_cases h0:r= []
   ·subst h0
    rw [Ar,decide_eq_true (show ((s.size - 0:Nat):Int)=(s.size:Int) by omega),tt,if_pos rfl,qf2 hk (Aj _),bs,q0x (by rw [Ai];omega) (by rw [Ai];omega),bs,
     Bi (by omega)]
    rfl
   have hp:0 < r.length:=B4.2 h0
   have hn:=qn2 r
   rw [decide_eq_false (show ¬((s.size - r.length:Nat):Int)=(s.size:Int) by omega),ff,if_neg h0,qf2 (by omega) (Aj _),bs,r1,Bi (by omega),q7r _ (by rw [qhk];omega),bs,qd3]
   simp only
   by_cases h2:(ke r).2=0
   ·rw [decide_eq_true h2,tt,if_pos h2];rfl
   have hpos:=qpd r h2
   rw [decide_eq_false h2,ff,if_neg h2,qf2 r2 (by omega),bs,we (by omega) (by omega),show ((s.size - r.length:Nat):Int)+((ke r).1:Int)=((s.size - r.length+(ke r).1:Nat):Int) by omega,
    qf2 (by omega) (by omega),bs,q0x (by rw [Ai];omega) (by rw [Ai];omega),bs,r1,
    qnd s hs f _ (s.size - r.length+(ke r).1) (by omega) (by omega) (by rw [Ad,Ai];omega),q5b]
   rw [hlen,←List.drop_drop,r1,show s.size - r.length+(ke r).1 - (s.size - r.length)=(ke r).1 by omega,show s.size - k - r.length=s.size - r.length - k by omega]
def resT (s:ByteArray):List Token × Int × Int:=if 65536 < s.size then ([],3,0) else endT [] (qdj s.size (s.size+1) (L s))
theorem q5w (s:ByteArray):J4 s=some (resT s):=by
 rw [J4.eq_def]
 unfold resT
 by_cases h:65536 < s.size
 ·rw [decide_eq_true (by omega),tt,if_pos h]
 rw [decide_eq_false (by omega),ff,if_neg h]
 have:=qnd s (by omega) (s.size+1) [] 0 (by omega) (by omega) (by simp;omega)
 rw [BR] at this
 exact this
end Tk
end Go.Proofs.YtpnkemogepoioaaGreatDoorW.Ex.Gr

namespace Go.Proofs.YtpnkemogepoioaaGreatDoorW.Ex.Gr
open Go Go.Proofs.YtpnkemogepoioaaGreatDoorW.Ex Go.Proofs.YtpnkemogepoioaaGreatDoorW.Plain Tk
set_option linter.all false
set_option maxRecDepth 100000
theorem q89 {α:Type} (pre:List α) (m:α) (l:List α):ix (pre++m::l) (pre.length:Int)=some m:=by
 rw [qmb,Bu (Aj _),Nat.sub_self];rfl
theorem qdr {α:Type} {L pre l:List α} {m:α} (h:L=pre++m::l):ix L (pre.length:Int)=some m:=by rw [h,q89]
theorem qin {α β:Type} {C:α→β} {L pre l:List α} {m:α} (h:L=pre++m::l):decide ((pre.length:Int) < ((L.map C).length:Int))=true:=by
 rw [As,h,Ad,Ae];exact decide_eq_true (by omega)
theorem qio {α β:Type} {C:α→β} {L pre:List α} (h:L=pre++ []):decide ((pre.length:Int) < ((L.map C).length:Int))=false:=by
 rw [As,h,Ad,Ar];exact decide_eq_false (by omega)
theorem qez {α:Type} {pre:List α} (h:pre.length < 9223372036854775807) (m:α):IntKind.i64.wrap ((pre.length:Int)+1)=((pre++ [m]).length:Int):=by
 rw [Ad,Ai];exact we (by omega) (by omega)
theorem qdp {α:Type} {L pre l:List α} {m:α} (h:L=pre++m::l):L=(pre++ [m])++l:=by rw [h,Ap];rfl
theorem qjt {α:Type} {L pre l:List α} {m:α} (h:L=pre++m::l):pre.length < L.length:=by rw [h,Ad,Ae];omega
theorem qoo (L:List BA) (hn:L.length≤9223372036854775807):∀(l pre:List BA),L=pre++l→v7 L L (pre.length:Int)=some true
 | [],pre,h=>by rw [v7.eq_def,qio h,qgf]
 | m::l,pre,h=>by
   have hl:=qjt h
   rw [v7.eq_def]
   simp only [qa]
   rw [qin h,qge,qdr h,bs,bs,decide_eq_true rfl,nff,qez (by omega) m]
   exact qoo L hn l (pre++ [m]) (qdp h)
theorem qtj (l:List BA) (h:l.length≤9223372036854775807):qba l l=some true:=by
 rw [qba.eq_def,decide_eq_true rfl,nff]
 exact qoo l h l [] rfl
theorem qwy (n:Node) (hn:n.kids.length≤9223372036854775807) (ih:∀m∈n.kids,u4 m m=some true):∀(l pre:List Node),n.kids=pre++l→Qn (pre.length:Int) n n=some true
 | [],pre,h=>by rw [Qn.eq_def,qio h,qgf]
 | m::l,pre,h=>by
   have hl:=qjt h
   rw [Qn.eq_def]
   simp only [qa]
   rw [qin h,qge,qdr h,bs,bs,ih m (by rw [h];simp),bs,nff,qez (by omega) m]
   exact qwy n hn ih l (pre++ [m]) (qdp h)
theorem qyq {n:Node} (hg:n.gaps.length≤9223372036854775807) (hn:n.kids.length≤9223372036854775807) (ih:∀m∈n.kids,u4 m m=some true):u4 n n=some true:=by
 rw [u4.eq_def,decide_eq_true rfl,nff,decide_eq_true rfl,nff,qtj _ hg,bs,nff,decide_eq_true rfl,nff]
 exact qwy n hn ih n.kids [] rfl
end Go.Proofs.YtpnkemogepoioaaGreatDoorW.Ex.Gr
