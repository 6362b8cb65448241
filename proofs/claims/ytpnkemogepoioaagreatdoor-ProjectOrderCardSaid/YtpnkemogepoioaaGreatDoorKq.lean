/- What the functions of the token layer return. Conditions: those in each theorem. Lists along a loop; a tree is equal to itself. Conditions: those in each theorem. -/
import Derived.Test.YtpnkemogepoioaaGreatDoorKt
import Derived.Lib.AtoiAllCases
namespace Go.Proofs.YtpnkemogepoioaaGreatDoorW.Ex.Gr
open Go Go.Proofs.YtpnkemogepoioaaGreatDoorW.Ex Go.Proofs.YtpnkemogepoioaaGreatDoorW.Plain
set_option linter.all false
set_option maxRecDepth 100000
theorem qfh (t0:BA) (t5:(List Token)) (t6:Int):kj t0 t5 t6=(
 J1 t0 t6 >>=fun x1=>
 if (decide (x1=(t0.size:Int)))=true then
  ssub t0 t6 (t0.size:Int) >>=fun x2=>
  app 48 t5 ([(Token.mk (4:Int) x2 (⟨#[]⟩) (t0.size:Int))]) >>=fun x3=>
  some (x3,(0:Int),(0:Int))
 else
  ssub t0 x1 (t0.size:Int) >>=fun x4=>
  Zw x4 >>=fun x5=>
  if (decide (x5.2=(0:Int)))=true then
   some (([]:(List Token)),(1:Int),x1)
  else
   ssub t0 t6 x1 >>=fun x6=>
   ssub t0 x1 (IntKind.i64.wrap (x1+x5.1)) >>=fun x7=>
   app 48 t5 ([(Token.mk x5.2 x6 x7 x1)]) >>=fun x8=>
   kj t0 x8 (IntKind.i64.wrap (x1+x5.1))
 :Option ((List Token) × Int × Int)):=kj.eq_def t0 t5 t6
theorem qct (t0:BA) (t3:Int):uf t0 t3=(
 if (decide (t3 < (t0.size:Int)))=true then
  sx t0 t3 >>=fun x1=>
  Zv x1 >>=fun x2=>
  if x2=true then
   uf t0 (IntKind.i64.wrap (t3+(1:Int)))
  else
   u4 t3
 else
  u4 t3
 :Option Int):=uf.eq_def t0 t3
namespace Tk
open Go.Lib (decDigits parseUint10 parseMag atoiAll nDigits)
theorem qrq:∀(l:List UInt8) (s:ByteArray) (k:Nat),(L s).drop k=l→s.size≤9223372036854775806→k≤s.size→uf s (k:Int)=some ((k+runL l:Nat):Int)
 | [],s,k,h,hs,hk=>by
   have:=drop_nil h
   rw [qct,decide_eq_false (by omega),ff,u4.eq_def];rfl
 | c ::l,s,k,h,hs,hk=>by
   obtain ⟨h1,h2⟩:=qz7 h
   rw [qct,decide_eq_true (by omega),tt,qod h,bs,q0k,bs,runL]
   cases letC c with
   | false=>rw [ff,u4.eq_def,if_neg (by decide)];rfl
   | true=>
     rw [tt,if_pos rfl,ke (by omega) (by omega)]
     have:=qrq l s (k+1) h2 hs (by omega)
     rw [show ((k+1:Nat):Int)=(k:Int)+1 from rfl] at this
     rw [this]
     congr 2;omega
theorem q2w (s:ByteArray) (hs:s.size≤9223372036854775806):Y1 s=some (runL (L s):Int):=by
 rw [Y1.eq_def]
 have:=qrq (L s) s 0 rfl hs (by omega)
 rw [Nat.zero_add] at this
 exact this
theorem qkw:∀(l:List UInt8) (acc u:Nat),parseUint10 acc l= .ok u→jt (acc:Int) l=some (u:Int)
 | [],acc,u,h=>by rw [parseUint10] at h;cases h;rfl
 | c ::r,acc,u,h=>by
   simp only [parseUint10] at h
   split at h
   ·rename_i hc
    split at h
    ·cases h
    split at h
    ·cases h
    have:=qkw r _ u h
    rw [jt]
    have hd:ua (c.toNat:Int)=true:=decide_eq_true (by omega)
    rw [if_pos hd,show (acc:Int)*10+((c.toNat:Int) - 48)=((acc*10+(c.toNat - 48):Nat):Int) by omega]
    exact this
   cases h
theorem qfx:∀(l:List UInt8) (acc n:Int),0≤acc→jt acc l=some n→acc≤n
 | [],acc,n,h0,h=>by cases h;exact Int.le_refl _
 | c ::r,acc,n,h0,h=>by
   rw [jt] at h
   split at h
   ·rename_i hd
    have hd:=of_decide_eq_true hd
    have:=qfx r _ n (by omega) h
    omega
   cases h
theorem qqt:∀(l:List UInt8) (acc u:Nat),jt (acc:Int) l=some (u:Int)→u≤1000000000000→parseUint10 acc l= .ok u
 | [],acc,u,h,hu=>by
   rw [jt] at h
   rw [parseUint10]
   have:=Option.some.inj h
   rw [Int.ofNat_inj.1 this]
 | c ::r,acc,u,h,hu=>by
   rw [jt] at h
   split at h
   ·rename_i hd
    have hd:=of_decide_eq_true hd
    have hm:=qfx r _ _ (by omega) h
    rw [show (acc:Int)*10+((c.toNat:Int) - 48)=((acc*10+(c.toNat - 48):Nat):Int) by omega] at h
    have:=qqt r _ u h hu
    simp only [parseUint10]
    rw [if_pos ⟨by omega,by omega⟩,if_neg (by omega),if_neg (by omega)]
    exact this
   cases h
theorem qlp {c:UInt8} (h0:48≤c.toNat) (h1:c.toNat≤57):UInt8.ofNat (48+(c.toNat - 48))=c:=by
 apply UInt8.toNat_inj.1
 rw [UInt8.toNat_ofNat']
 omega
theorem qyn (acc:Nat) (c:UInt8) (h:0 < acc) (h0:48≤c.toNat) (h1:c.toNat≤57):decDigits (acc*10+(c.toNat - 48))=decDigits acc++ [c]:=by
 rw [decDigits,dif_neg (by omega),show (acc*10+(c.toNat - 48)) / 10=acc by omega,show (acc*10+(c.toNat - 48)) % 10=c.toNat - 48 by omega,qlp h0 h1]
theorem qno:∀(l:List UInt8) (acc u:Nat),0 < acc→jt (acc:Int) l=some (u:Int)→decDigits u=decDigits acc++l
 | [],acc,u,h0,h=>by
   rw [jt] at h
   rw [List.append_nil,Int.ofNat_inj.1 (Option.some.inj h)]
 | c ::r,acc,u,h0,h=>by
   rw [jt] at h
   split at h
   ·rename_i hd
    have hd:=of_decide_eq_true hd
    rw [show (acc:Int)*10+((c.toNat:Int) - 48)=((acc*10+(c.toNat - 48):Nat):Int) by omega] at h
    rw [qno r _ u (by omega) h,qyn acc c h0 (by omega) (by omega),List.append_assoc];rfl
   cases h
theorem qrg (c:UInt8) (r:List UInt8) (u:Nat) (h:jt 0 (c::r)=some (u:Int)) (hc:c≠48):decDigits u=c::r:=by
 rw [jt] at h
 split at h
 ·rename_i hd
  have hd:=of_decide_eq_true hd
  have hne:c.toNat≠48:=fun e=>hc (UInt8.toNat_inj.1 e)
  rw [show (0:Int)*10+((c.toNat:Int) - 48)=((c.toNat - 48:Nat):Int) by omega] at h
  rw [qno r _ u (by omega) h,Go.Lib.decDigits_one (by omega),qlp (by omega) (by omega)];rfl
 cases h
theorem qui:∀(r:List UInt8) (u:Nat),r≠ []→jt 0 r=some (u:Int)→(decDigits u).length≤r.length
 | [],u,h,_=>absurd rfl h
 | c ::r,u,_,h=>by
   by_cases hc:c=48
   ·subst hc
    rw [jt] at h
    have hd:ua ((48:UInt8).toNat:Int)=true:=rfl
    rw [if_pos hd,show (0:Int)*10+(((48:UInt8).toNat:Int) - 48)=0 from rfl] at h
    cases r with
    | nil=>
      have hu:u=0:=by have:=Option.some.inj h;omega
      rw [hu,Go.Lib.decDigits_one (by decide)];decide
    | cons d r=>
      have:=qui (d::r) u (by simp) h
      rw [List.length_cons];omega
   rw [qrg c r u h hc];exact Nat.le_refl _
theorem qt0:∀(k u:Nat),0 < k→u < 10 ^ k→nDigits u≤k
 | 0,u,h,_=>absurd h (by decide)
 | k +1,u,_,h=>by
   by_cases hu:u < 10
   ·rw [Go.Lib.nDigits_small hu];omega
   rw [Go.Lib.nDigits_big hu]
   have h1:u / 10 < 10 ^ k:=by rw [Nat.div_lt_iff_lt_mul (by decide)];rw [Nat.pow_succ] at h;exact h
   have hk:0 < k:=by
    rcases Nat.eq_zero_or_pos k with rfl | h2
    ·rw [Nat.pow_zero] at h1;omega
    exact h2
   have:=qt0 k (u / 10) hk h1
   omega
theorem qvd:∀(l:List UInt8) (acc:Nat) (n:Int),jt (acc:Int) l=some n→∃u:Nat,n=(u:Int):=fun l acc n h=>⟨n.toNat,by have:=qfx l acc n (by omega) h;omega⟩
theorem qzn (c:UInt8) (r:List UInt8) (hd:digC c=true):Y4 (c::r)=Qt (c::r):=by
 have hdc:48≤c.toNat∧c.toNat≤57:=by have:=of_decide_eq_true hd;omega
 have hA:atoiAll (c::r)=Lib.signless (parseMag (c::r)):=Lib.atoiAll_plain c r (by omega) (by omega)
 have hM:parseMag (c::r)=parseUint10 0 (c::r):=by unfold Go.Lib.parseMag;rw [if_neg (by simp)]
 rw [hM] at hA
 have key:∀v:Int,atoiAll (c::r)= .ok v→jt 0 (c::r)=some v:=by
  intro v hv
  rw [hA] at hv
  cases hp:parseUint10 0 (c::r)
  ·rename_i u
   rw [hp] at hv
   simp only [Go.Lib.signless] at hv
   split at hv
   ·cases hv
   injection hv with hv
   rw [←hv]
   exact qkw _ 0 u hp
  ·rw [hp] at hv;cases hv
  rw [hp] at hv;cases hv
 unfold Qt
 have e0:(!(c::r).isEmpty)=true:=rfl
 rw [e0,Bool.true_and]
 cases hv:jt 0 (c::r) with
 | none=>
   rw [Bool.and_false]
   unfold Y4
   cases ha:atoiAll (c::r)
   ·rw [key _ ha] at hv;cases hv
   ·rfl
   rfl
 | some n=>
   obtain ⟨u,rfl⟩:=qvd (c::r) 0 n hv
   by_cases hn:(u:Int)≤1000000000000
   ·have hp:=qqt (c::r) 0 u hv (by omega)
    have ha:atoiAll (c::r)= .ok (u:Int):=by
     rw [hA,hp]
     unfold Go.Lib.signless
     simp only
     rw [if_neg (by omega)]
    have hi:Lib.itoa (u:Int)=decDigits u:=by unfold Go.Lib.itoa;rw [if_neg (by omega),Int.toNat_natCast]
    unfold Y4
    rw [ha]
    simp only
    rw [decide_eq_true hn,hi,Bool.and_true,Bool.true_and]
    have hlen:(decDigits u).length≤13:=by
     rw [Go.Lib.decDigits_length];exact qt0 13 u (by decide) (by omega)
    by_cases hc:c=48
    ·subst hc
     cases r with
     | nil=>
       have hu:u=0:=by
        rw [jt] at hv
        have hd:ua ((48:UInt8).toNat:Int)=true:=rfl
        rw [if_pos hd] at hv
        have:=Option.some.inj hv
        have h48:((48:UInt8).toNat:Int)=48:=rfl
        omega
       rw [hu,Go.Lib.decDigits_one (by decide)];rfl
     | cons d r=>
       have hl:(decDigits u).length≤(d::r).length:=by
        have h2:=hv
        rw [jt] at h2
        have hd:ua ((48:UInt8).toNat:Int)=true:=rfl
        rw [if_pos hd,show (0:Int)*10+(((48:UInt8).toNat:Int) - 48)=0 from rfl] at h2
        exact qui (d::r) u (by simp) h2
       have hne:(decDigits u==48::d::r)=false:=by
        rw [beq_eq_false_iff_ne]
        intro e
        rw [e] at hl
        simp at hl
        omega
       rw [hne]
       have h1:decide (1 < (48::d::r).length)=true:=decide_eq_true (by simp)
       rw [h1]
       simp
    rw [qrg c r u hv hc] at hlen ⊢
    have hh:((c::r).head? ==some 48)=false:=by
     rw [beq_eq_false_iff_ne]
     intro e
     exact hc (Option.some.inj e)
    rw [hh,decide_eq_true hlen]
    simp
   have hf:decide ((u:Int)≤1000000000000)=false:=decide_eq_false hn
   simp only [hf,Bool.and_false]
   unfold Y4
   cases ha:atoiAll (c::r)
   ·have:=key _ ha
    rw [hv] at this
    cases this
    simp only [hf,Bool.false_and]
   ·rfl
   rfl
theorem quc (s:ByteArray) (a b c:UInt8) (l:List UInt8) (h:L s=c::l):Qo s ⟨#[a,b]⟩=decide (c=a∧l.head? =some b):=by
 have hl:=qd9 s
 rw [h,List.length_cons] at hl
 unfold Qo
 have e:(s.extract 0 2=⟨#[a,b]⟩)=((c::l).take 2= [a,b]):=by
  apply propext
  rw [←h]
  constructor
  ·intro e
   have:=congrArg L e
   rw [show L (s.extract 0 2)=(L s).take 2 by unfold L;rw [ByteArray.data_extract,Array.toList_extract,List.extract_eq_take_drop];rfl] at this
   exact this
  intro e
  apply qzc
  rw [show L (s.extract 0 2)=(L s).take 2 by unfold L;rw [ByteArray.data_extract,Array.toList_extract,List.extract_eq_take_drop];rfl]
  exact e
 have e2:(⟨#[a,b]⟩:ByteArray).size=2:=rfl
 rw [Bool.eq_iff_iff]
 simp only [Bool.and_eq_true,decide_eq_true_eq,e2,e]
 cases l with
 | nil=>simp at hl ⊢
 | cons d r=>simp;rw [List.length_cons] at hl;omega
theorem q0c {c:UInt8} (hd:digC c=true):cls c=1:=by rw [cls,if_pos hd]
theorem q0b {c:UInt8} (hw:letC c=true) (hd:digC c=false):cls c=2:=by rw [cls,hd,if_neg (by decide),if_pos hw]
theorem qyq {c:UInt8} (hw:letC c=false) (hd:digC c=false) (hm:qd7 c=false):cls c=0:=by rw [cls,hd,if_neg (by decide),hw,if_neg (by decide),hm,if_neg (by decide)]
theorem qyr {c:UInt8} (hw:letC c=false) (hd:digC c=false) (hm:qd7 c=true):cls c=3:=by rw [cls,hd,if_neg (by decide),hw,if_neg (by decide),if_pos hm]
theorem q2x (s p:ByteArray):uj s p=some (Qo s p):=by
 rw [uj.eq_def,km.eq_def,Qo]
 by_cases h:p.size≤s.size
 ·have h':(p.size:Int)≤(s.size:Int):=by omega
  have hs:ssub s 0 (p.size:Int)=some (s.extract 0 p.size):=by unfold ssub;rw [if_pos ⟨by omega,by omega,by omega⟩];rfl
  rw [if_pos (decide_eq_true h'),hs,bs,bs,decide_eq_true h,Bool.true_and]
 have h':¬(p.size:Int)≤(s.size:Int):=by omega
 rw [if_neg (by rw [decide_eq_true_eq];exact h'),bs,decide_eq_false h,Bool.false_and]
theorem q0m (s:ByteArray) (hs:s.size≤281474976710656):Zw s=some (((kg (L s)).1:Int),(kg (L s)).2):=by
 rw [Zw.eq_def]
 cases hL:L s with
 | nil=>
   have:s=⟨#[]⟩:=qzc hL
   rw [decide_eq_true this,tt];rfl
 | cons c l=>
   have hne:¬s=⟨#[]⟩:=by
    rintro rfl
    cases hL
   have hx:=qod (k:=0) (show (L s).drop 0=c::l from hL)
   rw [show ((0:Nat):Int)=0 from rfl] at hx
   have hr:=qoj (c::l)
   have hl:=qd9 s
   rw [hL] at hl
   rw [decide_eq_false hne,ff,hx,bs,qhp,bs]
   have hrun:=q2w s (by omega)
   rw [hL] at hrun
   cases hd:digC c with
   | true=>
     rw [q0c hd,qss l hd,show decide ((1:Int)=1)=true from rfl,tt,hrun,bs]
     have hsub:=qex (s:=s) (a:=0) (b:=runL (c::l)) (by omega) (by omega)
     rw [show ((0:Nat):Int)=0 from rfl] at hsub
     rw [hsub,bs,List.drop_zero,Nat.sub_zero,hL]
     unfold Ym
     rw [if_pos (by rw [qd0,List.length_take];omega),bs]
     have:Y4 (ofB ((c::l).take (runL (c::l)))).data.toList=Qt ((c::l).take (runL (c::l))):=by
      show Y4 ((c::l).take (runL (c::l)))=_
      have hp:=qoi l (qt5 hd)
      obtain ⟨n,hn⟩:∃n,runL (c::l)=n+1:=⟨runL (c::l) - 1,by omega⟩
      rw [hn,List.take_succ_cons]
      exact qzn c _ hd
     rw [this]
     cases Qt ((c::l).take (runL (c::l))) with
     | true=>rfl
     | false=>rw [ff,ug.eq_def];rfl
   | false=>
     cases hw:letC c with
     | true=>
       rw [q0b hw hd,qsr l hw hd,show decide ((2:Int)=1)=false from rfl,ff,show decide ((2:Int)=2)=true from rfl,tt,hrun,bs]
       by_cases h:runL (c::l)≤32
       ·rw [decide_eq_true (by omega),tt,if_pos h]
       rw [decide_eq_false (by omega),ff,if_neg h,u9.eq_def,ug.eq_def];rfl
     | false=>
       cases hm:qd7 c with
       | false=>
         rw [qyq hw hd hm,qtz l hw hm,show decide ((0:Int)=1)=false from rfl,ff,show decide ((0:Int)=2)=false from rfl,ff,show decide ((0:Int)=3)=false from rfl,ff,u9.eq_def,ug.eq_def];rfl
       | true=>
         rw [qyr hw hd hm,qop l hw hm,show decide ((3:Int)=1)=false from rfl,ff,show decide ((3:Int)=2)=false from rfl,ff,show decide ((3:Int)=3)=true from rfl,tt]
         simp only [q2x]
         rw [bs,bs,quc s 47 47 c l hL,quc s 61 61 c l hL]
         simp only [decide_eq_true_eq]
         by_cases h1:c=47∧l.head? =some 47
         ·rw [if_pos h1,if_pos h1];rfl
         rw [if_neg h1,if_neg h1]
         by_cases h2:c=61∧l.head? =some 61
         ·rw [if_pos h2,if_pos h2];rfl
         rw [if_neg h2,if_neg h2];rfl
theorem q2y (s:ByteArray) (k:Nat) (hs:s.size≤9223372036854775807) (hk:k≤s.size):J1 s (k:Int)=some ((s.size - (zd ((L s).drop k)).length:Nat):Int):=by
 unfold J1
 rw [if_pos hs,qlm hk];rfl
theorem qut {α:Type} {by_:Nat} {l m:List α} (h:(l.length+m.length)*by_≤140737488355328) (h2:l.length+m.length≤9223372036854775807):app by_ l m=some (l++m):=by
 unfold app;rw [if_pos ⟨h,h2⟩]
theorem qzq (s:ByteArray) (k:Nat) (hk:k≤s.size):(L s).drop (s.size - (zd ((L s).drop k)).length)=zd ((L s).drop k)∧k≤s.size - (zd ((L s).drop k)).length∧(zd ((L s).drop k)).length≤s.size:=by
 have h1:=qvs ((L s).drop k)
 have h2:=qi2 ((L s).drop k)
 have h3:((L s).drop k).length=s.size - k:=by rw [List.length_drop,qd9]
 rw [List.drop_drop,h3] at h1
 refine ⟨?_,by omega,by omega⟩
 rw [show k+(s.size - k - (zd ((L s).drop k)).length)=s.size - (zd ((L s).drop k)).length by omega] at h1
 exact h1.symm
theorem qjb (s:ByteArray) (hs:s.size≤65536):∀(f:Nat) (acc:List Token) (k:Nat),k≤s.size→s.size - k < f→acc.length+(s.size - k)≤65536→
 kj s acc (k:Int)=some (endT acc (qgq s.size f ((L s).drop k)))
 | 0,acc,k,_,h,_=>absurd h (by omega)
 | f +1,acc,k,hk,hf,ha=>by
   obtain ⟨r1,r2,r3⟩:=qzq s k hk
   have hlen:((L s).drop k).length=s.size - k:=by rw [List.length_drop,qd9]
   rw [qfh,q2y s k (by omega) hk,bs,qgq]
   generalize hr:zd ((L s).drop k)=r at r1 r2 r3
   by_cases h0:r= []
   ·subst h0
    rw [List.length_nil,decide_eq_true (show ((s.size - 0:Nat):Int)=(s.size:Int) by omega),tt,if_pos rfl,qex hk (Nat.le_refl _),bs,qut (by rw [List.length_singleton];omega) (by rw [List.length_singleton];omega),bs,
     List.take_of_length_le (by omega)]
    rfl
   have hp:0 < r.length:=List.length_pos_iff.2 h0
   have hn:=qor r
   rw [decide_eq_false (show ¬((s.size - r.length:Nat):Int)=(s.size:Int) by omega),ff,if_neg h0,qex (by omega) (Nat.le_refl _),bs,r1,List.take_of_length_le (by omega),q0m _ (by rw [qd0];omega),bs,qn1]
   simp only
   by_cases h2:(kg r).2=0
   ·rw [decide_eq_true h2,tt,if_pos h2];rfl
   have hpos:=qqu r h2
   rw [decide_eq_false h2,ff,if_neg h2,qex r2 (by omega),bs,ke (by omega) (by omega),show ((s.size - r.length:Nat):Int)+((kg r).1:Int)=((s.size - r.length+(kg r).1:Nat):Int) by omega,
    qex (by omega) (by omega),bs,qut (by rw [List.length_singleton];omega) (by rw [List.length_singleton];omega),bs,r1,
    qjb s hs f _ (s.size - r.length+(kg r).1) (by omega) (by omega) (by rw [List.length_append,List.length_singleton];omega),qyl]
   rw [hlen,←List.drop_drop,r1,show s.size - r.length+(kg r).1 - (s.size - r.length)=(kg r).1 by omega,show s.size - k - r.length=s.size - r.length - k by omega]
def resT (s:ByteArray):List Token × Int × Int:=if 65536 < s.size then ([],3,0) else endT [] (qgq s.size (s.size+1) (L s))
theorem qy7 (s:ByteArray):Ze s=some (resT s):=by
 rw [Ze.eq_def]
 unfold resT
 by_cases h:65536 < s.size
 ·rw [decide_eq_true (by omega),tt,if_pos h]
 rw [decide_eq_false (by omega),ff,if_neg h]
 have:=qjb s (by omega) (s.size+1) [] 0 (by omega) (by omega) (by simp;omega)
 rw [List.drop_zero] at this
 exact this
end Tk
end Go.Proofs.YtpnkemogepoioaaGreatDoorW.Ex.Gr

namespace Go.Proofs.YtpnkemogepoioaaGreatDoorW.Ex.Gr
open Go Go.Proofs.YtpnkemogepoioaaGreatDoorW.Ex Go.Proofs.YtpnkemogepoioaaGreatDoorW.Plain Tk
set_option linter.all false
set_option maxRecDepth 100000
theorem q1u {α:Type} (pre:List α) (m:α) (l:List α):ix (pre++m::l) (pre.length:Int)=some m:=by
 rw [qk6,List.getElem?_append_right (Nat.le_refl _),Nat.sub_self];rfl
theorem Wu {α:Type} {L pre l:List α} {m:α} (h:L=pre++m::l):ix L (pre.length:Int)=some m:=by rw [h,q1u]
theorem qe1 {α β:Type} {C:α→β} {L pre l:List α} {m:α} (h:L=pre++m::l):decide ((pre.length:Int) < ((L.map C).length:Int))=true:=by
 rw [List.length_map,h,List.length_append,List.length_cons];exact decide_eq_true (by omega)
theorem qe2 {α β:Type} {C:α→β} {L pre:List α} (h:L=pre++ []):decide ((pre.length:Int) < ((L.map C).length:Int))=false:=by
 rw [List.length_map,h,List.length_append,List.length_nil];exact decide_eq_false (by omega)
theorem qby {α:Type} {pre:List α} (h:pre.length < 9223372036854775807) (m:α):IntKind.i64.wrap ((pre.length:Int)+1)=((pre++ [m]).length:Int):=by
 rw [List.length_append,List.length_singleton];exact ke (by omega) (by omega)
theorem qau {α:Type} {L pre l:List α} {m:α} (h:L=pre++m::l):L=(pre++ [m])++l:=by rw [h,List.append_assoc];rfl
theorem qia {α:Type} {L pre l:List α} {m:α} (h:L=pre++m::l):pre.length < L.length:=by rw [h,List.length_append,List.length_cons];omega
end Go.Proofs.YtpnkemogepoioaaGreatDoorW.Ex.Gr
