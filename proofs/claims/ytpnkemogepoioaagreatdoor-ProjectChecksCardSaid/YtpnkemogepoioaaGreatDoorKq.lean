/- What the functions of the token layer return. Conditions: those in each theorem. Lists along a loop; a tree is equal to itself. Conditions: those in each theorem. -/
import Derived.Test.YtpnkemogepoioaaGreatDoorKt
import Derived.Lib.AtoiAllCases
namespace Go.Proofs.YtpnkemogepoioaaGreatDoorW.Ex.Gr
open Go Go.Proofs.YtpnkemogepoioaaGreatDoorW.Ex Go.Proofs.YtpnkemogepoioaaGreatDoorW.Plain
set_option linter.all false
set_option maxRecDepth 100000
theorem qpa (t0:BA) (t5:(List Token)) (t6:Int):Qe t0 t5 t6=(
 if (decide (t6≤(t0.size:Int)))=true then
  qh2 t0 t6 >>=fun x1=>
  if (decide ((t0.size:Int)≤x1))=true then
   ssub t0 t6 (t0.size:Int) >>=fun x2=>
   app 48 t5 ([(Token.mk (4:Int) x2 (⟨#[]⟩) (t0.size:Int))]) >>=fun x3=>
   some (x3,(0:Int),(0:Int))
  else
   qe4 t0 x1 >>=fun x4=>
   if (decide (x4.2=(0:Int)))=true then
    some (([]:(List Token)),(1:Int),x1)
   else
    ssub t0 t6 x1 >>=fun x5=>
    ssub t0 x1 x4.1 >>=fun x6=>
    app 48 t5 ([(Token.mk x4.2 x5 x6 x1)]) >>=fun x7=>
    Qe t0 x7 x4.1
 else
  some (t5,(0:Int),(0:Int))
 :Option ((List Token) × Int × Int)):=Qe.eq_def t0 t5 t6
theorem qgl (t0:BA) (t3:Int) (t4:Int):uk t0 t3 t4=(
 if (decide (t4 < (t0.size:Int)))=true then
  sx t0 t4 >>=fun x2=>
  Jq x2 >>=fun x3=>
  if (!x3)=true then
   some false
  else
   sx t0 t4 >>=fun x4=>
   uk t0 (IntKind.i64.wrap ((IntKind.i64.wrap ((IntKind.i64.wrap (t3*(10:Int)))+(IntKind.i64.wrap x4))) - (48:Int))) (IntKind.i64.wrap (t4+(1:Int)))
 else
  some (decide (t3≤(1000000000000:Int)))
 :Option Bool):=uk.eq_def t0 t3 t4
theorem qkn (t0:Int) (t3:BA) (t4:Int):Z9 t0 t3 t4=(
 if (decide (t4 < (t3.size:Int)))=true then
  sx t3 t4 >>=fun x1=>
  if (decide (x1=t0))=true then
   some true
  else
   Z9 t0 t3 (IntKind.i64.wrap (t4+(1:Int)))
 else
  some false
 :Option Bool):=Z9.eq_def t0 t3 t4
theorem qlu (t0:BA) (t5:Int):Yg t0 t5=(
 if (decide (t5 < (t0.size:Int)))=true then
  sx t0 t5 >>=fun x1=>
  Ww x1 >>=fun x2=>
  if x2=true then
   Yg t0 (IntKind.i64.wrap (t5+(1:Int)))
  else
   Y6 t5
 else
  Y6 t5
 :Option Int):=Yg.eq_def t0 t5
theorem qlc (t0:BA) (t5:(List Token)) (t6:Int):w5 t0 t5 t6=(
 qab t0 t6 >>=fun x1=>
 if (decide (x1=(t0.size:Int)))=true then
  ssub t0 t6 (t0.size:Int) >>=fun x2=>
  app 48 t5 ([(Token.mk (4:Int) x2 (⟨#[]⟩) (t0.size:Int))]) >>=fun x3=>
  some (x3,(0:Int),(0:Int))
 else
  ssub t0 x1 (t0.size:Int) >>=fun x4=>
  Kz x4 >>=fun x5=>
  if (decide (x5.2=(0:Int)))=true then
   some (([]:(List Token)),(1:Int),x1)
  else
   ssub t0 t6 x1 >>=fun x6=>
   ssub t0 x1 (IntKind.i64.wrap (x1+x5.1)) >>=fun x7=>
   app 48 t5 ([(Token.mk x5.2 x6 x7 x1)]) >>=fun x8=>
   w5 t0 x8 (IntKind.i64.wrap (x1+x5.1))
 :Option ((List Token) × Int × Int)):=w5.eq_def t0 t5 t6
theorem qh4 (t0:BA) (t3:Int):v7 t0 t3=(
 if (decide (t3 < (t0.size:Int)))=true then
  sx t0 t3 >>=fun x1=>
  Ky x1 >>=fun x2=>
  if x2=true then
   v7 t0 (IntKind.i64.wrap (t3+(1:Int)))
  else
   Za t3
 else
  Za t3
 :Option Int):=v7.eq_def t0 t3
namespace Tk
open Go.Lib (decDigits parseUint10 parseMag atoiAll nDigits)
theorem qwy (c:UInt8):Jq (c.toNat:Int)=some (digC c):=by
 rw [Jq.eq_def]
 unfold digC ye
 by_cases h:(48:Int)≤c.toNat
 ·rw [decide_eq_true h,tt];congr 1;rw [decide_eq_decide];omega
 rw [decide_eq_false h,ff];congr 1;exact (decide_eq_false (by omega)).symm
theorem qzq (c:UInt8):Ww (c.toNat:Int)=some (letC c):=by
 rw [Ww.eq_def]
 simp only [qwy,bs]
 unfold letC digC ye wc
 generalize c.toNat=n
 simp only [decide_eq_true_eq]
 (repeat' split) <;> congr 1 <;> apply BP.2 <;> simp only [Bu,decide_eq_true_eq,true_iff] <;> omega
theorem qzn:∀(l:List UInt8) (s:ByteArray) (k:Nat),(L s).drop k=l→s.size≤9223372036854775806→k≤s.size→v7 s (k:Int)=some ((k+runL l:Nat):Int)
 | [],s,k,h,hs,hk=>by
   have:=drop_nil h
   rw [qh4,decide_eq_false (by omega),ff,Za.eq_def];rfl
 | c ::l,s,k,h,hs,hk=>by
   obtain ⟨h1,h2⟩:=qnt h
   rw [qh4,decide_eq_true (by omega),tt,qbn h,bs,q9n,bs,runL]
   cases letC c with
   | false=>rw [ff,Za.eq_def,if_neg (by decide)];rfl
   | true=>
     rw [tt,if_pos rfl,js (by omega) (by omega)]
     have:=qzn l s (k+1) h2 hs (by omega)
     rw [show ((k+1:Nat):Int)=(k:Int)+1 from rfl] at this
     rw [this]
     congr 2;omega
theorem zb7 (s:ByteArray) (hs:s.size≤9223372036854775806):qbh s=some (runL (L s):Int):=by
 rw [qbh.eq_def]
 have:=qzn (L s) s 0 rfl hs (by omega)
 rw [AO] at this
 exact this
theorem qpp:∀(l:List UInt8) (s:ByteArray) (k:Nat),(L s).drop k=l→s.size≤9223372036854775806→k≤s.size→Yg s (k:Int)=some ((k+runL l:Nat):Int)
 | [],s,k,h,hs,hk=>by
   have:=drop_nil h
   rw [qlu,decide_eq_false (by omega),ff,Y6.eq_def];rfl
 | c ::l,s,k,h,hs,hk=>by
   obtain ⟨h1,h2⟩:=qnt h
   rw [qlu,decide_eq_true (by omega),tt,qbn h,bs,qzq,bs,runL]
   cases letC c with
   | false=>rw [ff,Y6.eq_def,if_neg (by decide)];rfl
   | true=>
     rw [tt,if_pos rfl,js (by omega) (by omega)]
     have:=qpp l s (k+1) h2 hs (by omega)
     rw [show ((k+1:Nat):Int)=(k:Int)+1 from rfl] at this
     rw [this]
     congr 2;omega
theorem qn3 (c:UInt8):∀(l:List UInt8) (s:ByteArray) (k:Nat),(L s).drop k=l→s.size≤9223372036854775806→k≤s.size→Z9 (c.toNat:Int) s (k:Int)=some (l.any (fun d=>decide (d=c)))
 | [],s,k,h,hs,hk=>by
   have:=drop_nil h
   rw [qkn,decide_eq_false (by omega),ff];rfl
 | d ::l,s,k,h,hs,hk=>by
   obtain ⟨h1,h2⟩:=qnt h
   rw [qkn,decide_eq_true (by omega),tt,qbn h,bs,qmv,B8]
   cases decide (d=c) with
   | true=>rw [tt];rfl
   | false=>
     rw [ff,js (by omega) (by omega),Bn]
     exact qn3 c l s (k+1) h2 hs (by omega)
theorem q42 (c:UInt8):qh1 (c.toNat:Int)=some (qff c):=by
 rw [qh1.eq_def]
 exact qn3 c q6l _ 0 rfl (by decide) (by decide)
theorem qro:∀(l:List UInt8) (acc u:Nat),parseUint10 acc l= .ok u→jr (acc:Int) l=some (u:Int)
 | [],acc,u,h=>by rw [parseUint10] at h;cases h;rfl
 | c ::r,acc,u,h=>by
   simp only [parseUint10] at h
   split at h
   ·rename_i hc
    split at h
    ·cases h
    split at h
    ·cases h
    have:=qro r _ u h
    rw [jr]
    have hd:ye (c.toNat:Int)=true:=decide_eq_true (by omega)
    rw [if_pos hd,show (acc:Int)*10+((c.toNat:Int) - 48)=((acc*10+(c.toNat - 48):Nat):Int) by omega]
    exact this
   cases h
theorem qlw:∀(l:List UInt8) (acc n:Int),0≤acc→jr acc l=some n→acc≤n
 | [],acc,n,h0,h=>by cases h;exact Int.le_refl _
 | c ::r,acc,n,h0,h=>by
   rw [jr] at h
   split at h
   ·rename_i hd
    have hd:=of_decide_eq_true hd
    have:=qlw r _ n (by omega) h
    omega
   cases h
theorem qyn:∀(l:List UInt8) (acc u:Nat),jr (acc:Int) l=some (u:Int)→u≤1000000000000→parseUint10 acc l= .ok u
 | [],acc,u,h,hu=>by
   rw [jr] at h
   rw [parseUint10]
   have:=Bf h
   rw [Int.ofNat_inj.1 this]
 | c ::r,acc,u,h,hu=>by
   rw [jr] at h
   split at h
   ·rename_i hd
    have hd:=of_decide_eq_true hd
    have hm:=qlw r _ _ (by omega) h
    rw [show (acc:Int)*10+((c.toNat:Int) - 48)=((acc*10+(c.toNat - 48):Nat):Int) by omega] at h
    have:=qyn r _ u h hu
    simp only [parseUint10]
    rw [if_pos ⟨by omega,by omega⟩,if_neg (by omega),if_neg (by omega)]
    exact this
   cases h
theorem qsi {c:UInt8} (h0:48≤c.toNat) (h1:c.toNat≤57):UInt8.ofNat (48+(c.toNat - 48))=c:=by
 apply BF.1
 rw [UInt8.toNat_ofNat']
 omega
theorem q7e (acc:Nat) (c:UInt8) (h:0 < acc) (h0:48≤c.toNat) (h1:c.toNat≤57):decDigits (acc*10+(c.toNat - 48))=decDigits acc++ [c]:=by
 rw [decDigits,dif_neg (by omega),show (acc*10+(c.toNat - 48)) / 10=acc by omega,show (acc*10+(c.toNat - 48)) % 10=c.toNat - 48 by omega,qsi h0 h1]
theorem qu7:∀(l:List UInt8) (acc u:Nat),0 < acc→jr (acc:Int) l=some (u:Int)→decDigits u=decDigits acc++l
 | [],acc,u,h0,h=>by
   rw [jr] at h
   rw [Bs,Int.ofNat_inj.1 (Bf h)]
 | c ::r,acc,u,h0,h=>by
   rw [jr] at h
   split at h
   ·rename_i hd
    have hd:=of_decide_eq_true hd
    rw [show (acc:Int)*10+((c.toNat:Int) - 48)=((acc*10+(c.toNat - 48):Nat):Int) by omega] at h
    rw [qu7 r _ u (by omega) h,q7e acc c h0 (by omega) (by omega),AJ];rfl
   cases h
theorem qzb (c:UInt8) (r:List UInt8) (u:Nat) (h:jr 0 (c::r)=some (u:Int)) (hc:c≠48):decDigits u=c::r:=by
 rw [jr] at h
 split at h
 ·rename_i hd
  have hd:=of_decide_eq_true hd
  have hne:c.toNat≠48:=fun e=>hc (BF.1 e)
  rw [show (0:Int)*10+((c.toNat:Int) - 48)=((c.toNat - 48:Nat):Int) by omega] at h
  rw [qu7 r _ u (by omega) h,Go.Lib.decDigits_one (by omega),qsi (by omega) (by omega)];rfl
 cases h
theorem q2u:∀(r:List UInt8) (u:Nat),r≠ []→jr 0 r=some (u:Int)→(decDigits u).length≤r.length
 | [],u,h,_=>absurd rfl h
 | c ::r,u,_,h=>by
   by_cases hc:c=48
   ·subst hc
    rw [jr] at h
    have hd:ye ((48:UInt8).toNat:Int)=true:=rfl
    rw [if_pos hd,show (0:Int)*10+(((48:UInt8).toNat:Int) - 48)=0 from rfl] at h
    cases r with
    | nil=>
      have hu:u=0:=by have:=Bf h;omega
      rw [hu,Go.Lib.decDigits_one (by decide)];decide
    | cons d r=>
      have:=q2u (d::r) u (by simp) h
      rw [Af];omega
   rw [qzb c r u h hc];exact Ak _
theorem q2e:∀(k u:Nat),0 < k→u < 10 ^ k→nDigits u≤k
 | 0,u,h,_=>absurd h (by decide)
 | k +1,u,_,h=>by
   by_cases hu:u < 10
   ·rw [Go.Lib.nDigits_small hu];omega
   rw [Go.Lib.nDigits_big hu]
   have h1:u / 10 < 10 ^ k:=by rw [Nat.div_lt_iff_lt_mul (by decide)];rw [Nat.pow_succ] at h;exact h
   have hk:0 < k:=by
    rcases Nat.eq_zero_or_pos k with rfl | h2
    ·rw [Nat.pow_zero] at h1;omega
    exact h2
   have:=q2e k (u / 10) hk h1
   omega
theorem q3q:∀(l:List UInt8) (acc:Nat) (n:Int),jr (acc:Int) l=some n→∃u:Nat,n=(u:Int):=fun l acc n h=>⟨n.toNat,by have:=qlw l acc n (by omega) h;omega⟩
theorem q8k (c:UInt8) (r:List UInt8) (hd:digC c=true):qbm (c::r)=kx (c::r):=by
 have hdc:48≤c.toNat∧c.toNat≤57:=by have:=of_decide_eq_true hd;omega
 have hA:atoiAll (c::r)=Lib.signless (parseMag (c::r)):=Lib.atoiAll_plain c r (by omega) (by omega)
 have hM:parseMag (c::r)=parseUint10 0 (c::r):=by unfold Go.Lib.parseMag;rw [if_neg (by simp)]
 rw [hM] at hA
 have key:∀v:Int,atoiAll (c::r)= .ok v→jr 0 (c::r)=some v:=by
  intro v hv
  rw [hA] at hv
  cases hp:parseUint10 0 (c::r)
  ·rename_i u
   rw [hp] at hv
   simp only [Go.Lib.signless] at hv
   split at hv
   ·cases hv
   injection hv with hv
   rw [←hv]
   exact qro _ 0 u hp
  ·rw [hp] at hv;cases hv
  rw [hp] at hv;cases hv
 unfold kx
 have e0:(!(c::r).isEmpty)=true:=rfl
 rw [e0,Bh]
 cases hv:jr 0 (c::r) with
 | none=>
   rw [Bool.and_false]
   unfold qbm
   cases ha:atoiAll (c::r)
   ·rw [key _ ha] at hv;cases hv
   ·rfl
   rfl
 | some n=>
   obtain ⟨u,rfl⟩:=q3q (c::r) 0 n hv
   by_cases hn:(u:Int)≤1000000000000
   ·have hp:=qyn (c::r) 0 u hv (by omega)
    have ha:atoiAll (c::r)= .ok (u:Int):=by
     rw [hA,hp]
     unfold Go.Lib.signless
     simp only
     rw [if_neg (by omega)]
    have hi:Lib.itoa (u:Int)=decDigits u:=by unfold Go.Lib.itoa;rw [if_neg (by omega),Bi]
    unfold qbm
    rw [ha]
    simp only
    rw [decide_eq_true hn,hi,Bool.and_true,Bh]
    have hlen:(decDigits u).length≤13:=by
     rw [Go.Lib.decDigits_length];exact q2e 13 u (by decide) (by omega)
    by_cases hc:c=48
    ·subst hc
     cases r with
     | nil=>
       have hu:u=0:=by
        rw [jr] at hv
        have hd:ye ((48:UInt8).toNat:Int)=true:=rfl
        rw [if_pos hd] at hv
        have:=Bf hv
        have h48:((48:UInt8).toNat:Int)=48:=rfl
        omega
       rw [hu,Go.Lib.decDigits_one (by decide)];rfl
     | cons d r=>
       have hl:(decDigits u).length≤(d::r).length:=by
        have h2:=hv
        rw [jr] at h2
        have hd:ye ((48:UInt8).toNat:Int)=true:=rfl
        rw [if_pos hd,show (0:Int)*10+(((48:UInt8).toNat:Int) - 48)=0 from rfl] at h2
        exact q2u (d::r) u (by simp) h2
       have hne:(decDigits u==48::d::r)=false:=by
        rw [beq_eq_false_iff_ne]
        intro e
        rw [e] at hl
        simp at hl
        omega
       rw [hne]
       have h1:decide (1 < (48::d::r).length)=true:=decide_eq_true (by simp)
       rw [h1]
       simp
    rw [qzb c r u hv hc] at hlen ⊢
    have hh:((c::r).head? ==some 48)=false:=by
     rw [beq_eq_false_iff_ne]
     intro e
     exact hc (Bf e)
    rw [hh,decide_eq_true hlen]
    simp
   have hf:decide ((u:Int)≤1000000000000)=false:=decide_eq_false hn
   simp only [hf,Bool.and_false]
   unfold qbm
   cases ha:atoiAll (c::r)
   ·have:=key _ ha
    rw [hv] at this
    cases this
    simp only [hf,BM]
   ·rfl
   rfl
theorem qi5:∀(l:List UInt8) (s:ByteArray) (k:Nat) (n:Int),(L s).drop k=l→s.size≤13→k≤s.size→0≤n→n < 10 ^ k→
 uk s n (k:Int)=some (match jr n l with | some v=>decide (v≤1000000000000) | none=>false)
 | [],s,k,n,h,hs,hk,h0,h1=>by
   have:=drop_nil h
   rw [qgl,decide_eq_false (by omega),ff];rfl
 | c ::l,s,k,n,h,hs,hk,h0,h1=>by
   obtain ⟨h2,h3⟩:=qnt h
   have hc:=c.toNat_lt
   rw [qgl,decide_eq_true (by omega),tt,qbn h,bs,qwy,bs,jr]
   have hp:(10:Int) ^ k≤10 ^ 13:=by
    have:(10:Nat) ^ k≤10 ^ 13:=Nat.pow_le_pow_right (by decide) (by omega)
    have h:=Int.ofNat_le.2 this
    simpa using h
   cases hd:digC c with
   | false=>
     have hd':ye (c.toNat:Int)=false:=hd
     rw [ntt,hd'];rfl
   | true=>
     have hd':ye (c.toNat:Int)=true:=hd
     have hdc:=of_decide_eq_true hd'
     rw [nff,bs,hd',if_pos rfl,js (x:=n*10) (by omega) (by omega),js (x:=(c.toNat:Int)) (by omega) (by omega),js (x:=n*10+(c.toNat:Int)) (by omega) (by omega),js (x:=n*10+(c.toNat:Int) - 48) (by omega) (by omega),js (x:=(k:Int)+1) (by omega) (by omega),
      show n*10+(c.toNat:Int) - 48=n*10+((c.toNat:Int) - 48) by omega]
     exact qi5 l s (k+1) _ h3 hs (by omega) (by omega) (by rw [Int.pow_succ];omega)
theorem qwx (s:ByteArray) (hs:s.size≤9223372036854775806):qch s=some (kx (L s)):=by
 rw [qch.eq_def]
 have hl:=qbt s
 unfold kx
 by_cases c0:s.size=0
 ·rw [decide_eq_true (by omega),tt]
  have:L s= []:=AK.1 (by omega)
  rw [this];rfl
 rw [decide_eq_false (by omega),ff]
 by_cases c1:13 < s.size
 ·rw [decide_eq_true (by omega),tt,decide_eq_false (show ¬(L s).length≤13 by omega)];simp
 rw [decide_eq_false (by omega),ff]
 have hl0:=qi5 (L s) s 0 0 rfl (by omega) (by omega) (by omega) (by decide)
 cases hL:L s with
 | nil=>rw [hL] at hl;simp at hl;omega
 | cons c r=>
   rw [hL] at hl0 hl
   rw [decide_eq_true (show (c::r).length≤13 by omega)]
   have hx:=qbn (k:=0) (show (L s).drop 0=c::r from hL)
   rw [show ((0:Nat):Int)=0 from rfl] at hx hl0
   by_cases c2:1 < s.size
   ·rw [decide_eq_true (by omega),tt,hx,bs,decide_eq_true (show 1 < (c::r).length by omega)]
    by_cases c3:c=48
    ·subst c3;rfl
    have:¬((c.toNat:Int)=48):=fun e=>c3 (BF.1 (by show c.toNat=48;omega))
    rw [decide_eq_false this,ff,hl0]
    have hh:((c::r).head? ==some 48)=false:=by
     rw [beq_eq_false_iff_ne]
     intro e
     exact c3 (Bf e)
    rw [hh];simp;try rfl
   rw [decide_eq_false (by omega),ff,hl0,decide_eq_false (show ¬1 < (c::r).length by omega)];simp;try rfl
theorem q2q (s:ByteArray) (a b c:UInt8) (l:List UInt8) (h:L s=c::l):J0 s ⟨#[a,b]⟩=decide (c=a∧l.head? =some b):=by
 have hl:=qbt s
 rw [h,Af] at hl
 unfold J0
 have e:(s.extract 0 2=⟨#[a,b]⟩)=((c::l).take 2= [a,b]):=by
  apply propext
  rw [←h]
  constructor
  ·intro e
   have:=congrArg L e
   rw [show L (s.extract 0 2)=(L s).take 2 by unfold L;rw [Cb,Ch,B1];rfl] at this
   exact this
  intro e
  apply q79
  rw [show L (s.extract 0 2)=(L s).take 2 by unfold L;rw [Cb,Ch,B1];rfl]
  exact e
 have e2:(⟨#[a,b]⟩:ByteArray).size=2:=rfl
 rw [BP]
 simp only [An,decide_eq_true_eq,e2,e]
 cases l with
 | nil=>simp at hl ⊢
 | cons d r=>simp;rw [Af] at hl;omega
theorem q88 {c:UInt8} (hd:digC c=true):cls c=1:=by rw [cls,if_pos hd]
theorem q87 {c:UInt8} (hw:letC c=true) (hd:digC c=false):cls c=2:=by rw [cls,hd,if_neg (by decide),if_pos hw]
theorem q7h {c:UInt8} (hw:letC c=false) (hd:digC c=false) (hm:qff c=false):cls c=0:=by rw [cls,hd,if_neg (by decide),hw,if_neg (by decide),hm,if_neg (by decide)]
theorem q7i {c:UInt8} (hw:letC c=false) (hd:digC c=false) (hm:qff c=true):cls c=3:=by rw [cls,hd,if_neg (by decide),hw,if_neg (by decide),if_pos hm]
theorem zb8 (s p:ByteArray):Qh s p=some (J0 s p):=by
 rw [Qh.eq_def,w7.eq_def,J0]
 by_cases h:p.size≤s.size
 ·have h':(p.size:Int)≤(s.size:Int):=by omega
  have hs:ssub s 0 (p.size:Int)=some (s.extract 0 p.size):=by unfold ssub;rw [if_pos ⟨by omega,by omega,by omega⟩];rfl
  rw [if_pos (decide_eq_true h'),hs,bs,bs,decide_eq_true h,Bh]
 have h':¬(p.size:Int)≤(s.size:Int):=by omega
 rw [if_neg (by rw [decide_eq_true_eq];exact h'),bs,decide_eq_false h,BM]
theorem q9o (s:ByteArray) (hs:s.size≤281474976710656):Kz s=some (((ko (L s)).1:Int),(ko (L s)).2):=by
 rw [Kz.eq_def]
 cases hL:L s with
 | nil=>
   have:s=⟨#[]⟩:=q79 hL
   rw [decide_eq_true this,tt];rfl
 | cons c l=>
   have hne:¬s=⟨#[]⟩:=by
    rintro rfl
    cases hL
   have hx:=qbn (k:=0) (show (L s).drop 0=c::l from hL)
   rw [show ((0:Nat):Int)=0 from rfl] at hx
   have hr:=qqf (c::l)
   have hl:=qbt s
   rw [hL] at hl
   rw [decide_eq_false hne,ff,hx,bs,qn2,bs]
   have hrun:=zb7 s (by omega)
   rw [hL] at hrun
   cases hd:digC c with
   | true=>
     rw [q88 hd,qrs l hd,show decide ((1:Int)=1)=true from rfl,tt,hrun,bs]
     have hsub:=qdc (s:=s) (a:=0) (b:=runL (c::l)) (by omega) (by omega)
     rw [show ((0:Nat):Int)=0 from rfl] at hsub
     rw [hsub,bs,BO,Nat.sub_zero,hL]
     unfold qay
     rw [if_pos (by rw [qdh,Br];omega),bs]
     have:qbm (ofB ((c::l).take (runL (c::l)))).data.toList=kx ((c::l).take (runL (c::l))):=by
      show qbm ((c::l).take (runL (c::l)))=_
      have hp:=qv2 l (q2i hd)
      obtain ⟨n,hn⟩:∃n,runL (c::l)=n+1:=⟨runL (c::l) - 1,by omega⟩
      rw [hn,Cj]
      exact q8k c _ hd
     rw [this]
     cases kx ((c::l).take (runL (c::l))) with
     | true=>rfl
     | false=>rw [ff,v8.eq_def];rfl
   | false=>
     cases hw:letC c with
     | true=>
       rw [q87 hw hd,qrr l hw hd,show decide ((2:Int)=1)=false from rfl,ff,show decide ((2:Int)=2)=true from rfl,tt,hrun,bs]
       by_cases h:runL (c::l)≤32
       ·rw [decide_eq_true (by omega),tt,if_pos h]
       rw [decide_eq_false (by omega),ff,if_neg h,Zj.eq_def,v8.eq_def];rfl
     | false=>
       cases hm:qff c with
       | false=>
         rw [q7h hw hd hm,qqi l hw hm,show decide ((0:Int)=1)=false from rfl,ff,show decide ((0:Int)=2)=false from rfl,ff,show decide ((0:Int)=3)=false from rfl,ff,Zj.eq_def,v8.eq_def];rfl
       | true=>
         rw [q7i hw hd hm,qm7 l hw hm,show decide ((3:Int)=1)=false from rfl,ff,show decide ((3:Int)=2)=false from rfl,ff,show decide ((3:Int)=3)=true from rfl,tt]
         simp only [zb8]
         rw [bs,bs,q2q s 47 47 c l hL,q2q s 61 61 c l hL]
         simp only [decide_eq_true_eq]
         by_cases h1:c=47∧l.head? =some 47
         ·rw [if_pos h1,if_pos h1];rfl
         rw [if_neg h1,if_neg h1]
         by_cases h2:c=61∧l.head? =some 61
         ·rw [if_pos h2,if_pos h2];rfl
         rw [if_neg h2,if_neg h2];rfl
theorem q41 (s:ByteArray) (k:Nat) (hs:s.size≤281474976710656) (hk:k≤s.size):qe4 s (k:Int)=some (((k+(ko ((L s).drop k)).1:Nat):Int),(ko ((L s).drop k)).2):=by
 rw [qe4.eq_def]
 cases hL:(L s).drop k with
 | nil=>
   have:=drop_nil hL
   rw [decide_eq_true (by omega),tt];rfl
 | cons c l=>
   obtain ⟨h1,h2⟩:=qnt hL
   have hr:=qqf (c::l)
   have hl:=congrArg List.length hL
   rw [Bb,qbt] at hl
   have hrun:=qpp (c::l) s k hL (by omega) hk
   rw [decide_eq_false (by omega),ff,qbn hL,bs,qzq,bs]
   cases hw:letC c with
   | true=>
     rw [tt,qog.eq_def,hrun,bs,bs,qwy,bs]
     cases hd:digC c with
     | true=>
       rw [tt,qrs l hd,qdc (by omega) (by omega),bs,hL,show k+runL (c::l) - k=runL (c::l) by omega,qwx _ (by rw [qdh,Br];omega),bs,qn9]
       cases kx ((c::l).take (runL (c::l))) with
       | true=>rfl
       | false=>rfl
     | false=>
       rw [ff,qrr l hw hd,js (by omega) (by omega)]
       by_cases h:runL (c::l)≤32
       ·rw [decide_eq_true (by omega),tt,if_pos h]
       rw [decide_eq_false (by omega),ff,if_neg h];rfl
   | false =>
     rw [ff,bs,q42,bs]
     cases hm:qff c with
     | false=>rw [ntt,qqi l hw hm];rfl
     | true=>
       rw [nff,qm7 l hw hm]
       simp only [bs,uj.eq_def]
       have w1:IntKind.i64.wrap ((k:Int)+1)=((k+1:Nat):Int):=js (by omega) (by omega)
       have w2:IntKind.i64.wrap ((k:Int)+2)=((k+2:Nat):Int):=js (by omega) (by omega)
       rw [w1,w2]
       have e47:((c.toNat:Int)=47)=(c=47):=by
        apply propext
        constructor
        ·intro h;exact BF.1 (by show c.toNat=47;omega)
        rintro rfl;rfl
       have e61:((c.toNat:Int)=61)=(c=61):=by
        apply propext
        constructor
        ·intro h;exact BF.1 (by show c.toNat=61;omega)
        rintro rfl;rfl
       simp only [e47,e61]
       cases l with
       | nil=>
         rw [Af,Ao] at hl
         rw [decide_eq_false (show ¬((k+1:Nat):Int) < (s.size:Int) by omega)]
         simp
       | cons d r=>
         rw [Af,Af] at hl
         rw [decide_eq_true (show ((k+1:Nat):Int) < (s.size:Int) by omega),qbn h2]
         have d47:((d.toNat:Int)=47)=(d=47):=by
          apply propext
          constructor
          ·intro h;exact BF.1 (by show d.toNat=47;omega)
          rintro rfl;rfl
         have d61:((d.toNat:Int)=61)=(d=61):=by
          apply propext
          constructor
          ·intro h;exact BF.1 (by show d.toNat=61;omega)
          rintro rfl;rfl
         simp only [bs,d47,d61,List.head?_cons,Ac]
         by_cases a1:c=47
         ·subst a1
          by_cases a2:d=47
          ·subst a2;rfl
          by_cases a3:d=61 <;> simp [a2,a3]
         by_cases a2:c=61
         ·subst a2
          by_cases a3:d=61 <;> simp [a3]
         simp [a1,a2]
theorem zad (s:ByteArray) (k:Nat) (hs:s.size≤9223372036854775807) (hk:k≤s.size):qab s (k:Int)=some ((s.size - (jf ((L s).drop k)).length:Nat):Int)∧qh2 s (k:Int)=some ((s.size - (jf ((L s).drop k)).length:Nat):Int):=by
 unfold qab qh2
 rw [if_pos hs,qns hk]
 exact ⟨rfl,rfl⟩
theorem qqq {α:Type} {by_:Nat} {l m:List α} (h:(l.length+m.length)*by_≤140737488355328) (h2:l.length+m.length≤9223372036854775807):app by_ l m=some (l++m):=by
 unfold app;rw [if_pos ⟨h,h2⟩]
theorem q14 (s:ByteArray) (k:Nat) (hk:k≤s.size):(L s).drop (s.size - (jf ((L s).drop k)).length)=jf ((L s).drop k)∧k≤s.size - (jf ((L s).drop k)).length∧(jf ((L s).drop k)).length≤s.size:=by
 have h1:=q38 ((L s).drop k)
 have h2:=qpf ((L s).drop k)
 have h3:((L s).drop k).length=s.size - k:=by rw [Bb,qbt]
 rw [BS,h3] at h1
 refine ⟨?_,by omega,by omega⟩
 rw [show k+(s.size - k - (jf ((L s).drop k)).length)=s.size - (jf ((L s).drop k)).length by omega] at h1
 exact h1.symm
theorem qpo (s:ByteArray) (hs:s.size≤65536):∀(f:Nat) (acc:List Token) (k:Nat),k≤s.size→s.size - k < f→acc.length+(s.size - k)≤65536→
 w5 s acc (k:Int)=some (endT acc (qjp s.size f ((L s).drop k)))
 | 0,acc,k,_,h,_=>absurd h (by omega)
 | f +1,acc,k,hk,hf,ha=>by
   obtain ⟨r1,r2,r3⟩:=q14 s k hk
   have hlen:((L s).drop k).length=s.size - k:=by rw [Bb,qbt]
   rw [qlc,(zad s k (by omega) hk).1,bs,qjp]
   generalize hr:jf ((L s).drop k)=r at r1 r2 r3
   by_cases h0:r= []
   ·subst h0
    rw [Ao,decide_eq_true (show ((s.size - 0:Nat):Int)=(s.size:Int) by omega),tt,if_pos rfl,qdc hk (Ak _),bs,qqq (by rw [Ae];omega) (by rw [Ae];omega),bs,
     Bg (by omega)]
    rfl
   have hp:0 < r.length:=B6.2 h0
   have hn:=qqj r
   rw [decide_eq_false (show ¬((s.size - r.length:Nat):Int)=(s.size:Int) by omega),ff,if_neg h0,qdc (by omega) (Ak _),bs,r1,Bg (by omega),q9o _ (by rw [qdh];omega),bs,qn9]
   simp only
   by_cases h2:(ko r).2=0
   ·rw [decide_eq_true h2,tt,if_pos h2];rfl
   have hpos:=qrt r h2
   rw [decide_eq_false h2,ff,if_neg h2,qdc r2 (by omega),bs,js (by omega) (by omega),show ((s.size - r.length:Nat):Int)+((ko r).1:Int)=((s.size - r.length+(ko r).1:Nat):Int) by omega,
    qdc (by omega) (by omega),bs,qqq (by rw [Ae];omega) (by rw [Ae];omega),bs,r1,
    qpo s hs f _ (s.size - r.length+(ko r).1) (by omega) (by omega) (by rw [Ad,Ae];omega),qy6]
   rw [hlen,←BS,r1,show s.size - r.length+(ko r).1 - (s.size - r.length)=(ko r).1 by omega,show s.size - k - r.length=s.size - r.length - k by omega]
def resT (s:ByteArray):List Token × Int × Int:=if 65536 < s.size then ([],3,0) else endT [] (qjp s.size (s.size+1) (L s))
theorem q73 (s:ByteArray):Y0 s=some (resT s):=by
 rw [Y0.eq_def]
 unfold resT
 by_cases h:65536 < s.size
 ·rw [decide_eq_true (by omega),tt,if_pos h]
 rw [decide_eq_false (by omega),ff,if_neg h]
 have:=qpo s (by omega) (s.size+1) [] 0 (by omega) (by omega) (by simp;omega)
 rw [BO] at this
 exact this
theorem qke (s:ByteArray) (hs:s.size≤65536):∀(f:Nat) (acc:List Token) (k:Nat),k≤s.size→s.size - k < f→acc.length+(s.size - k)≤65536→
 Qe s acc (k:Int)=some (endT acc (qjp s.size f ((L s).drop k)))
 | 0,acc,k,_,h,_=>absurd h (by omega)
 | f +1,acc,k,hk,hf,ha=>by
   obtain ⟨r1,r2,r3⟩:=q14 s k hk
   have hlen:((L s).drop k).length=s.size - k:=by rw [Bb,qbt]
   rw [qpa,decide_eq_true (by omega),tt,(zad s k (by omega) hk).2,bs,qjp]
   generalize hr:jf ((L s).drop k)=r at r1 r2 r3
   by_cases h0:r= []
   ·subst h0
    rw [Ao,decide_eq_true (show (s.size:Int)≤((s.size - 0:Nat):Int) by omega),tt,if_pos rfl,qdc hk (Ak _),bs,qqq (by rw [Ae];omega) (by rw [Ae];omega),bs,
     Bg (by omega)]
    rfl
   have hp:0 < r.length:=B6.2 h0
   have hn:=qqj r
   rw [decide_eq_false (show ¬(s.size:Int)≤((s.size - r.length:Nat):Int) by omega),ff,if_neg h0,q41 s _ (by omega) (by omega),bs,r1]
   simp only
   by_cases h2:(ko r).2=0
   ·rw [decide_eq_true h2,tt,if_pos h2];rfl
   have hpos:=qrt r h2
   rw [decide_eq_false h2,ff,if_neg h2,qdc r2 (by omega),bs,
    qdc (by omega) (by omega),bs,qqq (by rw [Ae];omega) (by rw [Ae];omega),bs,r1,
    qke s hs f _ (s.size - r.length+(ko r).1) (by omega) (by omega) (by rw [Ad,Ae];omega),qy6]
   rw [hlen,←BS,r1,show s.size - r.length+(ko r).1 - (s.size - r.length)=(ko r).1 by omega,show s.size - k - r.length=s.size - r.length - k by omega]
theorem qzp (s:ByteArray):qdz s=some (resT s):=by
 rw [qdz.eq_def]
 unfold resT
 by_cases h:65536 < s.size
 ·rw [decide_eq_true (by omega),tt,if_pos h]
 rw [decide_eq_false (by omega),ff,if_neg h]
 have:=qke s (by omega) (s.size+1) [] 0 (by omega) (by omega) (by simp;omega)
 rw [BO] at this
 exact this
end Tk
end Go.Proofs.YtpnkemogepoioaaGreatDoorW.Ex.Gr

namespace Go.Proofs.YtpnkemogepoioaaGreatDoorW.Ex.Gr
open Go Go.Proofs.YtpnkemogepoioaaGreatDoorW.Ex Go.Proofs.YtpnkemogepoioaaGreatDoorW.Plain Tk
set_option linter.all false
set_option maxRecDepth 100000
theorem za0 {α:Type} (pre:List α) (m:α) (l:List α):ix (pre++m::l) (pre.length:Int)=some m:=by
 rw [qr3,Bx (Ak _),B3];rfl
theorem qbv {α:Type} {L pre l:List α} {m:α} (h:L=pre++m::l):ix L (pre.length:Int)=some m:=by rw [h,za0]
theorem qii {α β:Type} {C:α→β} {L pre l:List α} {m:α} (h:L=pre++m::l):decide ((pre.length:Int) < ((L.map C).length:Int))=true:=by
 rw [Av,h,Ad,Af];exact decide_eq_true (by omega)
theorem qij {α β:Type} {C:α→β} {L pre:List α} (h:L=pre++ []):decide ((pre.length:Int) < ((L.map C).length:Int))=false:=by
 rw [Av,h,Ad,Ao];exact decide_eq_false (by omega)
theorem qe6 {α:Type} {pre:List α} (h:pre.length < 9223372036854775807) (m:α):IntKind.i64.wrap ((pre.length:Int)+1)=((pre++ [m]).length:Int):=by
 rw [Ad,Ae];exact js (by omega) (by omega)
theorem qbs {α:Type} {L pre l:List α} {m:α} (h:L=pre++m::l):L=(pre++ [m])++l:=by rw [h,AJ];rfl
theorem qgn {α:Type} {L pre l:List α} {m:α} (h:L=pre++m::l):pre.length < L.length:=by rw [h,Ad,Af];omega
theorem qq8 (L:List BA) (hn:L.length≤9223372036854775807):∀(l pre:List BA),L=pre++l→Qk L L (pre.length:Int)=some true
 | [],pre,h=>by rw [Qk.eq_def,qij h,qma]
 | m::l,pre,h=>by
   have hl:=qgn h
   rw [Qk.eq_def]
   simp only [qa]
   rw [qii h,ql9,qbv h,bs,bs,decide_eq_true rfl,nff,qe6 (by omega) m]
   exact qq8 L hn l (pre++ [m]) (qbs h)
theorem qvx (l:List BA) (h:l.length≤9223372036854775807):qci l l=some true:=by
 rw [qci.eq_def,decide_eq_true rfl,nff]
 exact qq8 l h l [] rfl
theorem qy3 (n:Node) (hn:n.kids.length≤9223372036854775807) (ih:∀m∈n.kids,vg m m=some true):∀(l pre:List Node),n.kids=pre++l→Q5 (pre.length:Int) n n=some true
 | [],pre,h=>by rw [Q5.eq_def,qij h,qma]
 | m::l,pre,h=>by
   have hl:=qgn h
   rw [Q5.eq_def]
   simp only [qa]
   rw [qii h,ql9,qbv h,bs,bs,ih m (by rw [h];simp),bs,nff,qe6 (by omega) m]
   exact qy3 n hn ih l (pre++ [m]) (qbs h)
theorem q1c {n:Node} (hg:n.gaps.length≤9223372036854775807) (hn:n.kids.length≤9223372036854775807) (ih:∀m∈n.kids,vg m m=some true):vg n n=some true:=by
 rw [vg.eq_def,decide_eq_true rfl,nff,decide_eq_true rfl,nff,qvx _ hg,bs,nff,decide_eq_true rfl,nff]
 exact qy3 n hn ih n.kids [] rfl
end Go.Proofs.YtpnkemogepoioaaGreatDoorW.Ex.Gr
