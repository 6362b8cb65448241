/- What the functions of the token layer return. Conditions: those in each theorem. Lists along a loop; a tree is equal to itself. Conditions: those in each theorem. -/
import Derived.Test.YtpnkemogepoioaaGreatDoorKt
import Derived.Lib.AtoiAllCases
namespace Go.Proofs.YtpnkemogepoioaaGreatDoorW.Ex.Gr
open Go Go.Proofs.YtpnkemogepoioaaGreatDoorW.Ex Go.Proofs.YtpnkemogepoioaaGreatDoorW.Plain
set_option linter.all false
set_option maxRecDepth 100000
theorem qgt (t0:BA) (t5:(List Token)) (t6:Int):kl t0 t5 t6=(
 Yd t0 t6 >>=fun x1=>
 if (decide (x1=(t0.size:Int)))=true then
  ssub t0 t6 (t0.size:Int) >>=fun x2=>
  app 48 t5 ([(Token.mk (4:Int) x2 (⟨#[]⟩) (t0.size:Int))]) >>=fun x3=>
  some (x3,(0:Int),(0:Int))
 else
  ssub t0 x1 (t0.size:Int) >>=fun x4=>
  Jd x4 >>=fun x5=>
  if (decide (x5.2=(0:Int)))=true then
   some (([]:(List Token)),(1:Int),x1)
  else
   ssub t0 t6 x1 >>=fun x6=>
   ssub t0 x1 (IntKind.i64.wrap (x1+x5.1)) >>=fun x7=>
   app 48 t5 ([(Token.mk x5.2 x6 x7 x1)]) >>=fun x8=>
   kl t0 x8 (IntKind.i64.wrap (x1+x5.1))
 :Option ((List Token) × Int × Int)):=kl.eq_def t0 t5 t6
theorem qd8 (t0:BA) (t3:Int):uf t0 t3=(
 if (decide (t3 < (t0.size:Int)))=true then
  sx t0 t3 >>=fun x1=>
  Jc x1 >>=fun x2=>
  if x2=true then
   uf t0 (IntKind.i64.wrap (t3+(1:Int)))
  else
   ve t3
 else
  ve t3
 :Option Int):=uf.eq_def t0 t3
namespace Tk
open Go.Lib (decDigits parseUint10 parseMag atoiAll nDigits)
theorem qs5:∀(l:List UInt8) (s:ByteArray) (k:Nat),(L s).drop k=l→s.size≤9223372036854775806→k≤s.size→uf s (k:Int)=some ((k+runL l:Nat):Int)
 | [],s,k,h,hs,hk=>by
   have:=drop_nil h
   rw [qd8,decide_eq_false (by omega),ff,ve.eq_def];rfl
 | c ::l,s,k,h,hs,hk=>by
   obtain ⟨h1,h2⟩:=q1d h
   rw [qd8,decide_eq_true (by omega),tt,qpr h,bs,q1r,bs,runL]
   cases letC c with
   | false=>rw [ff,ve.eq_def,if_neg (by decide)];rfl
   | true=>
     rw [tt,if_pos rfl,ke (by omega) (by omega)]
     have:=qs5 l s (k+1) h2 hs (by omega)
     rw [show ((k+1:Nat):Int)=(k:Int)+1 from rfl] at this
     rw [this]
     congr 2;omega
theorem q36 (s:ByteArray) (hs:s.size≤9223372036854775806):Ki s=some (runL (L s):Int):=by
 rw [Ki.eq_def]
 have:=qs5 (L s) s 0 rfl hs (by omega)
 rw [Nat.zero_add] at this
 exact this
theorem ql9:∀(l:List UInt8) (acc u:Nat),parseUint10 acc l= .ok u→js (acc:Int) l=some (u:Int)
 | [],acc,u,h=>by rw [parseUint10] at h;cases h;rfl
 | c ::r,acc,u,h=>by
   simp only [parseUint10] at h
   split at h
   ·rename_i hc
    split at h
    ·cases h
    split at h
    ·cases h
    have:=ql9 r _ u h
    rw [js]
    have hd:ua (c.toNat:Int)=true:=decide_eq_true (by omega)
    rw [if_pos hd,show (acc:Int)*10+((c.toNat:Int) - 48)=((acc*10+(c.toNat - 48):Nat):Int) by omega]
    exact this
   cases h
theorem qg9:∀(l:List UInt8) (acc n:Int),0≤acc→js acc l=some n→acc≤n
 | [],acc,n,h0,h=>by cases h;exact Int.le_refl _
 | c ::r,acc,n,h0,h=>by
   rw [js] at h
   split at h
   ·rename_i hd
    have hd:=of_decide_eq_true hd
    have:=qg9 r _ n (by omega) h
    omega
   cases h
theorem qr9:∀(l:List UInt8) (acc u:Nat),js (acc:Int) l=some (u:Int)→u≤1000000000000→parseUint10 acc l= .ok u
 | [],acc,u,h,hu=>by
   rw [js] at h
   rw [parseUint10]
   have:=Option.some.inj h
   rw [Int.ofNat_inj.1 this]
 | c ::r,acc,u,h,hu=>by
   rw [js] at h
   split at h
   ·rename_i hd
    have hd:=of_decide_eq_true hd
    have hm:=qg9 r _ _ (by omega) h
    rw [show (acc:Int)*10+((c.toNat:Int) - 48)=((acc*10+(c.toNat - 48):Nat):Int) by omega] at h
    have:=qr9 r _ u h hu
    simp only [parseUint10]
    rw [if_pos ⟨by omega,by omega⟩,if_neg (by omega),if_neg (by omega)]
    exact this
   cases h
theorem qm0 {c:UInt8} (h0:48≤c.toNat) (h1:c.toNat≤57):UInt8.ofNat (48+(c.toNat - 48))=c:=by
 apply UInt8.toNat_inj.1
 rw [UInt8.toNat_ofNat']
 omega
theorem qzw (acc:Nat) (c:UInt8) (h:0 < acc) (h0:48≤c.toNat) (h1:c.toNat≤57):decDigits (acc*10+(c.toNat - 48))=decDigits acc++ [c]:=by
 rw [decDigits,dif_neg (by omega),show (acc*10+(c.toNat - 48)) / 10=acc by omega,show (acc*10+(c.toNat - 48)) % 10=c.toNat - 48 by omega,qm0 h0 h1]
theorem qo0:∀(l:List UInt8) (acc u:Nat),0 < acc→js (acc:Int) l=some (u:Int)→decDigits u=decDigits acc++l
 | [],acc,u,h0,h=>by
   rw [js] at h
   rw [List.append_nil,Int.ofNat_inj.1 (Option.some.inj h)]
 | c ::r,acc,u,h0,h=>by
   rw [js] at h
   split at h
   ·rename_i hd
    have hd:=of_decide_eq_true hd
    rw [show (acc:Int)*10+((c.toNat:Int) - 48)=((acc*10+(c.toNat - 48):Nat):Int) by omega] at h
    rw [qo0 r _ u (by omega) h,qzw acc c h0 (by omega) (by omega),List.append_assoc];rfl
   cases h
theorem qsw (c:UInt8) (r:List UInt8) (u:Nat) (h:js 0 (c::r)=some (u:Int)) (hc:c≠48):decDigits u=c::r:=by
 rw [js] at h
 split at h
 ·rename_i hd
  have hd:=of_decide_eq_true hd
  have hne:c.toNat≠48:=fun e=>hc (UInt8.toNat_inj.1 e)
  rw [show (0:Int)*10+((c.toNat:Int) - 48)=((c.toNat - 48:Nat):Int) by omega] at h
  rw [qo0 r _ u (by omega) h,Go.Lib.decDigits_one (by omega),qm0 (by omega) (by omega)];rfl
 cases h
theorem qvw:∀(r:List UInt8) (u:Nat),r≠ []→js 0 r=some (u:Int)→(decDigits u).length≤r.length
 | [],u,h,_=>absurd rfl h
 | c ::r,u,_,h=>by
   by_cases hc:c=48
   ·subst hc
    rw [js] at h
    have hd:ua ((48:UInt8).toNat:Int)=true:=rfl
    rw [if_pos hd,show (0:Int)*10+(((48:UInt8).toNat:Int) - 48)=0 from rfl] at h
    cases r with
    | nil=>
      have hu:u=0:=by have:=Option.some.inj h;omega
      rw [hu,Go.Lib.decDigits_one (by decide)];decide
    | cons d r=>
      have:=qvw (d::r) u (by simp) h
      rw [List.length_cons];omega
   rw [qsw c r u h hc];exact Nat.le_refl _
theorem qvf:∀(k u:Nat),0 < k→u < 10 ^ k→nDigits u≤k
 | 0,u,h,_=>absurd h (by decide)
 | k +1,u,_,h=>by
   by_cases hu:u < 10
   ·rw [Go.Lib.nDigits_small hu];omega
   rw [Go.Lib.nDigits_big hu]
   have h1:u / 10 < 10 ^ k:=by rw [Nat.div_lt_iff_lt_mul (by decide)];rw [Nat.pow_succ] at h;exact h
   have hk:0 < k:=by
    rcases Nat.eq_zero_or_pos k with rfl | h2
    ·rw [Nat.pow_zero] at h1;omega
    exact h2
   have:=qvf k (u / 10) hk h1
   omega
theorem qwo:∀(l:List UInt8) (acc:Nat) (n:Int),js (acc:Int) l=some n→∃u:Nat,n=(u:Int):=fun l acc n h=>⟨n.toNat,by have:=qg9 l acc n (by omega) h;omega⟩
theorem q0u (c:UInt8) (r:List UInt8) (hd:digC c=true):Km (c::r)=Q5 (c::r):=by
 have hdc:48≤c.toNat∧c.toNat≤57:=by have:=of_decide_eq_true hd;omega
 have hA:atoiAll (c::r)=Lib.signless (parseMag (c::r)):=Lib.atoiAll_plain c r (by omega) (by omega)
 have hM:parseMag (c::r)=parseUint10 0 (c::r):=by unfold Go.Lib.parseMag;rw [if_neg (by simp)]
 rw [hM] at hA
 have key:∀v:Int,atoiAll (c::r)= .ok v→js 0 (c::r)=some v:=by
  intro v hv
  rw [hA] at hv
  cases hp:parseUint10 0 (c::r)
  ·rename_i u
   rw [hp] at hv
   simp only [Go.Lib.signless] at hv
   split at hv
   ·cases hv
   injection hv with hv
   rw [←hv]
   exact ql9 _ 0 u hp
  ·rw [hp] at hv;cases hv
  rw [hp] at hv;cases hv
 unfold Q5
 have e0:(!(c::r).isEmpty)=true:=rfl
 rw [e0,Bool.true_and]
 cases hv:js 0 (c::r) with
 | none=>
   rw [Bool.and_false]
   unfold Km
   cases ha:atoiAll (c::r)
   ·rw [key _ ha] at hv;cases hv
   ·rfl
   rfl
 | some n=>
   obtain ⟨u,rfl⟩:=qwo (c::r) 0 n hv
   by_cases hn:(u:Int)≤1000000000000
   ·have hp:=qr9 (c::r) 0 u hv (by omega)
    have ha:atoiAll (c::r)= .ok (u:Int):=by
     rw [hA,hp]
     unfold Go.Lib.signless
     simp only
     rw [if_neg (by omega)]
    have hi:Lib.itoa (u:Int)=decDigits u:=by unfold Go.Lib.itoa;rw [if_neg (by omega),Int.toNat_natCast]
    unfold Km
    rw [ha]
    simp only
    rw [decide_eq_true hn,hi,Bool.and_true,Bool.true_and]
    have hlen:(decDigits u).length≤13:=by
     rw [Go.Lib.decDigits_length];exact qvf 13 u (by decide) (by omega)
    by_cases hc:c=48
    ·subst hc
     cases r with
     | nil=>
       have hu:u=0:=by
        rw [js] at hv
        have hd:ua ((48:UInt8).toNat:Int)=true:=rfl
        rw [if_pos hd] at hv
        have:=Option.some.inj hv
        have h48:((48:UInt8).toNat:Int)=48:=rfl
        omega
       rw [hu,Go.Lib.decDigits_one (by decide)];rfl
     | cons d r=>
       have hl:(decDigits u).length≤(d::r).length:=by
        have h2:=hv
        rw [js] at h2
        have hd:ua ((48:UInt8).toNat:Int)=true:=rfl
        rw [if_pos hd,show (0:Int)*10+(((48:UInt8).toNat:Int) - 48)=0 from rfl] at h2
        exact qvw (d::r) u (by simp) h2
       have hne:(decDigits u==48::d::r)=false:=by
        rw [beq_eq_false_iff_ne]
        intro e
        rw [e] at hl
        simp at hl
        omega
       rw [hne]
       have h1:decide (1 < (48::d::r).length)=true:=decide_eq_true (by simp)
       rw [h1]
       simp
    rw [qsw c r u hv hc] at hlen ⊢
    have hh:((c::r).head? ==some 48)=false:=by
     rw [beq_eq_false_iff_ne]
     intro e
     exact hc (Option.some.inj e)
    rw [hh,decide_eq_true hlen]
    simp
   have hf:decide ((u:Int)≤1000000000000)=false:=decide_eq_false hn
   simp only [hf,Bool.and_false]
   unfold Km
   cases ha:atoiAll (c::r)
   ·have:=key _ ha
    rw [hv] at this
    cases this
    simp only [hf,Bool.false_and]
   ·rfl
   rfl
theorem qvr (s:ByteArray) (a b c:UInt8) (l:List UInt8) (h:L s=c::l):Q0 s ⟨#[a,b]⟩=decide (c=a∧l.head? =some b):=by
 have hl:=qfn s
 rw [h,List.length_cons] at hl
 unfold Q0
 have e:(s.extract 0 2=⟨#[a,b]⟩)=((c::l).take 2= [a,b]):=by
  apply propext
  rw [←h]
  constructor
  ·intro e
   have:=congrArg L e
   rw [show L (s.extract 0 2)=(L s).take 2 by unfold L;rw [ByteArray.data_extract,Array.toList_extract,List.extract_eq_take_drop];rfl] at this
   exact this
  intro e
  apply q0j
  rw [show L (s.extract 0 2)=(L s).take 2 by unfold L;rw [ByteArray.data_extract,Array.toList_extract,List.extract_eq_take_drop];rfl]
  exact e
 have e2:(⟨#[a,b]⟩:ByteArray).size=2:=rfl
 rw [Bool.eq_iff_iff]
 simp only [Bool.and_eq_true,decide_eq_true_eq,e2,e]
 cases l with
 | nil=>simp at hl ⊢
 | cons d r=>simp;rw [List.length_cons] at hl;omega
theorem q1i {c:UInt8} (hd:digC c=true):cls c=1:=by rw [cls,if_pos hd]
theorem q1h {c:UInt8} (hw:letC c=true) (hd:digC c=false):cls c=2:=by rw [cls,hd,if_neg (by decide),if_pos hw]
theorem qzz {c:UInt8} (hw:letC c=false) (hd:digC c=false) (hm:qfk c=false):cls c=0:=by rw [cls,hd,if_neg (by decide),hw,if_neg (by decide),hm,if_neg (by decide)]
theorem qz0 {c:UInt8} (hw:letC c=false) (hd:digC c=false) (hm:qfk c=true):cls c=3:=by rw [cls,hd,if_neg (by decide),hw,if_neg (by decide),if_pos hm]
theorem q37 (s p:ByteArray):uj s p=some (Q0 s p):=by
 rw [uj.eq_def,ko.eq_def,Q0]
 by_cases h:p.size≤s.size
 ·have h':(p.size:Int)≤(s.size:Int):=by omega
  have hs:ssub s 0 (p.size:Int)=some (s.extract 0 p.size):=by unfold ssub;rw [if_pos ⟨by omega,by omega,by omega⟩];rfl
  rw [if_pos (decide_eq_true h'),hs,bs,bs,decide_eq_true h,Bool.true_and]
 have h':¬(p.size:Int)≤(s.size:Int):=by omega
 rw [if_neg (by rw [decide_eq_true_eq];exact h'),bs,decide_eq_false h,Bool.false_and]
theorem q1t (s:ByteArray) (hs:s.size≤281474976710656):Jd s=some (((y9 (L s)).1:Int),(y9 (L s)).2):=by
 rw [Jd.eq_def]
 cases hL:L s with
 | nil=>
   have:s=⟨#[]⟩:=q0j hL
   rw [decide_eq_true this,tt];rfl
 | cons c l=>
   have hne:¬s=⟨#[]⟩:=by
    rintro rfl
    cases hL
   have hx:=qpr (k:=0) (show (L s).drop 0=c::l from hL)
   rw [show ((0:Nat):Int)=0 from rfl] at hx
   have hr:=qpx (c::l)
   have hl:=qfn s
   rw [hL] at hl
   rw [decide_eq_false hne,ff,hx,bs,qi2,bs]
   have hrun:=q36 s (by omega)
   rw [hL] at hrun
   cases hd:digC c with
   | true=>
     rw [q1i hd,qt7 l hd,show decide ((1:Int)=1)=true from rfl,tt,hrun,bs]
     have hsub:=qf9 (s:=s) (a:=0) (b:=runL (c::l)) (by omega) (by omega)
     rw [show ((0:Nat):Int)=0 from rfl] at hsub
     rw [hsub,bs,List.drop_zero,Nat.sub_zero,hL]
     unfold Yy
     rw [if_pos (by rw [qfe,List.length_take];omega),bs]
     have:Km (ofB ((c::l).take (runL (c::l)))).data.toList=Q5 ((c::l).take (runL (c::l))):=by
      show Km ((c::l).take (runL (c::l)))=_
      have hp:=qpw l (qvk hd)
      obtain ⟨n,hn⟩:∃n,runL (c::l)=n+1:=⟨runL (c::l) - 1,by omega⟩
      rw [hn,List.take_succ_cons]
      exact q0u c _ hd
     rw [this]
     cases Q5 ((c::l).take (runL (c::l))) with
     | true=>rfl
     | false=>rw [ff,ug.eq_def];rfl
   | false=>
     cases hw:letC c with
     | true=>
       rw [q1h hw hd,qt6 l hw hd,show decide ((2:Int)=1)=false from rfl,ff,show decide ((2:Int)=2)=true from rfl,tt,hrun,bs]
       by_cases h:runL (c::l)≤32
       ·rw [decide_eq_true (by omega),tt,if_pos h]
       rw [decide_eq_false (by omega),ff,if_neg h,vl.eq_def,ug.eq_def];rfl
     | false=>
       cases hm:qfk c with
       | false=>
         rw [qzz hw hd hm,qve l hw hm,show decide ((0:Int)=1)=false from rfl,ff,show decide ((0:Int)=2)=false from rfl,ff,show decide ((0:Int)=3)=false from rfl,ff,vl.eq_def,ug.eq_def];rfl
       | true=>
         rw [qz0 hw hd hm,qp3 l hw hm,show decide ((3:Int)=1)=false from rfl,ff,show decide ((3:Int)=2)=false from rfl,ff,show decide ((3:Int)=3)=true from rfl,tt]
         simp only [q37]
         rw [bs,bs,qvr s 47 47 c l hL,qvr s 61 61 c l hL]
         simp only [decide_eq_true_eq]
         by_cases h1:c=47∧l.head? =some 47
         ·rw [if_pos h1,if_pos h1];rfl
         rw [if_neg h1,if_neg h1]
         by_cases h2:c=61∧l.head? =some 61
         ·rw [if_pos h2,if_pos h2];rfl
         rw [if_neg h2,if_neg h2];rfl
theorem q38 (s:ByteArray) (k:Nat) (hs:s.size≤9223372036854775807) (hk:k≤s.size):Yd s (k:Int)=some ((s.size - (ze ((L s).drop k)).length:Nat):Int):=by
 unfold Yd
 rw [if_pos hs,qmx hk];rfl
theorem qv5 {α:Type} {by_:Nat} {l m:List α} (h:(l.length+m.length)*by_≤140737488355328) (h2:l.length+m.length≤9223372036854775807):app by_ l m=some (l++m):=by
 unfold app;rw [if_pos ⟨h,h2⟩]
theorem q0x (s:ByteArray) (k:Nat) (hk:k≤s.size):(L s).drop (s.size - (ze ((L s).drop k)).length)=ze ((L s).drop k)∧k≤s.size - (ze ((L s).drop k)).length∧(ze ((L s).drop k)).length≤s.size:=by
 have h1:=qw3 ((L s).drop k)
 have h2:=qkd ((L s).drop k)
 have h3:((L s).drop k).length=s.size - k:=by rw [List.length_drop,qfn]
 rw [List.drop_drop,h3] at h1
 refine ⟨?_,by omega,by omega⟩
 rw [show k+(s.size - k - (ze ((L s).drop k)).length)=s.size - (ze ((L s).drop k)).length by omega] at h1
 exact h1.symm
theorem qkm (s:ByteArray) (hs:s.size≤65536):∀(f:Nat) (acc:List Token) (k:Nat),k≤s.size→s.size - k < f→acc.length+(s.size - k)≤65536→
 kl s acc (k:Int)=some (endT acc (qh2 s.size f ((L s).drop k)))
 | 0,acc,k,_,h,_=>absurd h (by omega)
 | f +1,acc,k,hk,hf,ha=>by
   obtain ⟨r1,r2,r3⟩:=q0x s k hk
   have hlen:((L s).drop k).length=s.size - k:=by rw [List.length_drop,qfn]
   rw [qgt,q38 s k (by omega) hk,bs,qh2]
   generalize hr:ze ((L s).drop k)=r at r1 r2 r3
   by_cases h0:r= []
   ·subst h0
    rw [List.length_nil,decide_eq_true (show ((s.size - 0:Nat):Int)=(s.size:Int) by omega),tt,if_pos rfl,qf9 hk (Nat.le_refl _),bs,qv5 (by rw [List.length_singleton];omega) (by rw [List.length_singleton];omega),bs,
     List.take_of_length_le (by omega)]
    rfl
   have hp:0 < r.length:=List.length_pos_iff.2 h0
   have hn:=qp5 r
   rw [decide_eq_false (show ¬((s.size - r.length:Nat):Int)=(s.size:Int) by omega),ff,if_neg h0,qf9 (by omega) (Nat.le_refl _),bs,r1,List.take_of_length_le (by omega),q1t _ (by rw [qfe];omega),bs,qpe]
   simp only
   by_cases h2:(y9 r).2=0
   ·rw [decide_eq_true h2,tt,if_pos h2];rfl
   have hpos:=qsa r h2
   rw [decide_eq_false h2,ff,if_neg h2,qf9 r2 (by omega),bs,ke (by omega) (by omega),show ((s.size - r.length:Nat):Int)+((y9 r).1:Int)=((s.size - r.length+(y9 r).1:Nat):Int) by omega,
    qf9 (by omega) (by omega),bs,qv5 (by rw [List.length_singleton];omega) (by rw [List.length_singleton];omega),bs,r1,
    qkm s hs f _ (s.size - r.length+(y9 r).1) (by omega) (by omega) (by rw [List.length_append,List.length_singleton];omega),qzu]
   rw [hlen,←List.drop_drop,r1,show s.size - r.length+(y9 r).1 - (s.size - r.length)=(y9 r).1 by omega,show s.size - k - r.length=s.size - r.length - k by omega]
def resT (s:ByteArray):List Token × Int × Int:=if 65536 < s.size then ([],3,0) else endT [] (qh2 s.size (s.size+1) (L s))
theorem q0e (s:ByteArray):Zr s=some (resT s):=by
 rw [Zr.eq_def]
 unfold resT
 by_cases h:65536 < s.size
 ·rw [decide_eq_true (by omega),tt,if_pos h]
 rw [decide_eq_false (by omega),ff,if_neg h]
 have:=qkm s (by omega) (s.size+1) [] 0 (by omega) (by omega) (by simp;omega)
 rw [List.drop_zero] at this
 exact this
end Tk
end Go.Proofs.YtpnkemogepoioaaGreatDoorW.Ex.Gr

namespace Go.Proofs.YtpnkemogepoioaaGreatDoorW.Ex.Gr
open Go Go.Proofs.YtpnkemogepoioaaGreatDoorW.Ex Go.Proofs.YtpnkemogepoioaaGreatDoorW.Plain Tk
set_option linter.all false
set_option maxRecDepth 100000
theorem q21 {α:Type} (pre:List α) (m:α) (l:List α):ix (pre++m::l) (pre.length:Int)=some m:=by
 rw [qqd,List.getElem?_append_right (Nat.le_refl _),Nat.sub_self];rfl
theorem Wn {α:Type} {L pre l:List α} {m:α} (h:L=pre++m::l):ix L (pre.length:Int)=some m:=by rw [h,q21]
theorem qcm {α β:Type} {C:α→β} {L pre l:List α} {m:α} (h:L=pre++m::l):decide ((pre.length:Int) < ((L.map C).length:Int))=true:=by
 rw [List.length_map,h,List.length_append,List.length_cons];exact decide_eq_true (by omega)
theorem qcn {α β:Type} {C:α→β} {L pre:List α} (h:L=pre++ []):decide ((pre.length:Int) < ((L.map C).length:Int))=false:=by
 rw [List.length_map,h,List.length_append,List.length_nil];exact decide_eq_false (by omega)
theorem qbo {α:Type} {pre:List α} (h:pre.length < 9223372036854775807) (m:α):IntKind.i64.wrap ((pre.length:Int)+1)=((pre++ [m]).length:Int):=by
 rw [List.length_append,List.length_singleton];exact ke (by omega) (by omega)
theorem Kr {α:Type} {L pre l:List α} {m:α} (h:L=pre++m::l):L=(pre++ [m])++l:=by rw [h,List.append_assoc];rfl
theorem qfm {α:Type} {L pre l:List α} {m:α} (h:L=pre++m::l):pre.length < L.length:=by rw [h,List.length_append,List.length_cons];omega
end Go.Proofs.YtpnkemogepoioaaGreatDoorW.Ex.Gr
