/- The same units; small files; units that are loaded. Conditions: those in each theorem. The law ProjectChecks: what the reference's Check and Load return. Conditions: those in each theorem. What comes in for the rows of the layer, and their contracts. Conditions: none beside those in each theorem. -/
import Derived.Test.YtpnkemogepoioaaGreatDoorJ4
import Derived.Test.YtpnkemogepoioaaGreatDoorAG
import Derived.Test.YtpnkemogepoioaaGreatDoorGk
import Derived.Test.YtpnkemogepoioaaGreatDoorRows
import Derived.LaidMore
import Derived.Stop.Joined
import Derived.Stop.LaidErr
import Derived.MakeChecks
import Derived.LaidLaws
import Derived.Lib.LaidTab
namespace Go.Proofs.YtpnkemogepoioaaGreatDoorW.Ex.Gr
open Go Go.Proofs.YtpnkemogepoioaaGreatDoorW.Ex Go.Proofs.YtpnkemogepoioaaGreatDoorW.Plain Tk
set_option linter.all false
set_option maxRecDepth 100000
namespace Pj
theorem S_l0 (D:List Unit) (hD:D.length≤1000000) (hw:∀u∈D,vg u.Tree u.Tree=some true):∀(l pre:List Unit),D=pre++l→Jf D D (pre.length:Int)=some true
 | [],pre,h=>by
   rw [Jf.eq_def]
   simp only [qa]
   rw [qij h,qma]
 | x::l,pre,h=>by
   have hl:=qgn h
   rw [Jf.eq_def]
   simp only [qa,qbv h,bs]
   rw [qii h,ql9,if_neg (by simp),if_neg (by simp),if_neg (by simp),hw x (by rw [h];simp),bs,if_neg (by decide),qe6 (by omega) x]
   exact S_l0 D hD hw l (pre++ [x]) (qbs h)
theorem zbk (D:List Unit) (hD:D.length≤1000000) (hw:∀u∈D,vg u.Tree u.Tree=some true):qf1 D D=some true:=by
 unfold qf1
 rw [if_neg (by simp)]
 exact S_l0 D hD hw D [] rfl
theorem qsv (D:List File) (hD:D.length≤1000000):∀(l pre:List File) (left:Nat),D=pre++l→left≤3000→∃b,Zd D (left:Int) (pre.length:Int)=some b∧(b=true→∀x∈l,x.Text.size≤3000)
 | [],pre,left,h,hf=>⟨true,by
   rw [Zd.eq_def]
   simp only [qa]
   rw [qij h,qma],fun _ x hx=>absurd hx BH⟩
 | x::l,pre,left,h,hf=>by
   have hl:=qgn h
   rw [Zd.eq_def]
   simp only [qa,qbv h,bs]
   rw [qii h,ql9]
   by_cases h1:left < x.Path.size
   ·exact ⟨false,by rw [if_pos (decide_eq_true (by omega))],fun q=>by cases q⟩
   rw [if_neg (by rw [decide_eq_true_eq];omega)]
   by_cases h2:left < x.Text.size
   ·exact ⟨false,by rw [if_pos (decide_eq_true (by omega))],fun q=>by cases q⟩
   rw [if_neg (by rw [decide_eq_true_eq];omega),js (by omega) (by omega)]
   by_cases h3:left - x.Path.size < x.Text.size
   ·exact ⟨false,by rw [if_pos (decide_eq_true (by omega))],fun q=>by cases q⟩
   rw [if_neg (by rw [decide_eq_true_eq];omega),js (by omega) (by omega),qe6 (by omega) x]
   obtain ⟨b,e,hb⟩:=qsv D hD l (pre++ [x]) (left - x.Path.size - x.Text.size) (qbs h) (by omega)
   rw [show (((left - x.Path.size - x.Text.size:Nat)):Int)=(left:Int) - (x.Path.size:Int) - (x.Text.size:Int) by omega] at e
   refine ⟨b,e,fun q y hy=> ?_⟩
   rcases AQ.1 hy with rfl | hy
   ·omega
   exact hb q y hy
theorem q9p (l:List File):∃b,qd1 l=some b∧(b=true→∀x∈l,x.Text.size≤3000):=by
 unfold qd1
 by_cases h:(40:Int) < ((l.map File.cells).length:Int)
 ·exact ⟨false,by rw [if_pos (decide_eq_true h)],fun q=>by cases q⟩
 rw [if_neg (by rw [decide_eq_true_eq];exact h)]
 rw [Av] at h
 exact qsv l (by omega) l [] 3000 rfl (Ak _)
theorem q6m (l:List File):(qlh l).1.length≤32:=by
 unfold qlh
 split
 ·rename_i h
  rw [Av]
  rcases Bt 32 l.length with q | q
  ·unfold qfk at h;rw [if_pos q] at h;cases h
  exact q
 exact Az _
theorem q05 (l:List File):∀u∈(qlh l).1,vg u.Tree u.Tree=some true:=by
 intro u hu
 unfold qlh at hu
 split at hu
 ·obtain ⟨x,_,rfl⟩:=BJ.1 hu
  exact Ps.equal_wf _ (Ps.read_wf Ps.Q_fileR x.Text)
 cases hu
end Pj
end Go.Proofs.YtpnkemogepoioaaGreatDoorW.Ex.Gr

namespace Go.Proofs.YtpnkemogepoioaaGreatDoorW.Ex.Gr
open Go Go.Proofs.YtpnkemogepoioaaGreatDoorW.Ex Go.Proofs.YtpnkemogepoioaaGreatDoorW.Plain Tk
set_option linter.all false
set_option maxRecDepth 100000
namespace Pj
theorem q7u (c:Int):qd0 c=some (wc c):=by
 unfold qd0 wc
 by_cases h1:97≤c <;> by_cases h2:c≤122 <;> by_cases h3:65≤c <;> by_cases h4:c≤90 <;> simp [h1,h2,h3,h4]
 all_goals omega
theorem q9g (c:Int):qfz c=some (ye c):=by
 unfold qfz ye
 by_cases h1:48≤c <;> by_cases h2:c≤57 <;> simp [h1,h2]
theorem qvf (s:BA) (hs:s.size≤1000000):∀(l:List UInt8) (k:Nat),(L s).drop k=l→k≤s.size→Ja s (k:Int)=some (l.all fun c=>prtB (c.toNat:Int))
 | [],k,h,hk=>by
   have hl:=congrArg List.length h
   rw [Bb,qbt,Ao] at hl
   rw [Ja.eq_def]
   simp only [qa]
   rw [if_neg (by rw [decide_eq_true_eq];omega)];rfl
 | c :: l,k,h,hk=>by
   have hl:=congrArg List.length h
   rw [Bb,qbt,Af] at hl
   have hd:(L s).drop (k+1)=l:=by rw [←BS,h];rfl
   have ih:Q6 s (k:Int)=some (l.all fun c=>prtB (c.toNat:Int)):=by
    rw [Q6.eq_def]
    simp only [qa]
    rw [js (by omega) (by omega),show (k:Int)+1=((k+1:Nat):Int) by omega]
    exact qvf s hs l (k+1) hd (by omega)
   rw [Ja.eq_def]
   simp only [qa]
   rw [if_pos (decide_eq_true (by omega)),qbn h,bs,q7u,bs,ih,BX,prtB]
   cases wc (c.toNat:Int) with
   | true=>rw [if_neg (by decide)];rfl
   | false=>
     rw [if_pos (by decide),bs,q9g,bs]
     cases ye (c.toNat:Int) with
     | true=>rw [if_neg (by decide)];rfl
     | false=>
       rw [if_pos (by decide),bs]
       by_cases h1:(c.toNat:Int)=45
       ·rw [if_neg (by simp [h1]),decide_eq_true h1];rfl
       rw [if_pos (by simp [h1]),bs,decide_eq_false h1]
       by_cases h2:(c.toNat:Int)=46
       ·rw [if_neg (by simp [h2]),decide_eq_true h2];rfl
       rw [if_pos (by simp [h2]),decide_eq_false h2];rfl
theorem qsp (s:BA) (l:List UInt8):s=⟨⟨l⟩⟩ ↔ L s=l:=by
 obtain ⟨⟨m⟩⟩:=s
 constructor
 ·intro e;cases e;rfl
 intro e;cases e;rfl
theorem q7t (s:BA) (hs:s.size≤1000000):qe5 s=some (qg4 (L s)):=by
 unfold qe5 qg4
 by_cases h0:L s= []
 ·rw [if_pos (decide_eq_true ((qsp s []).2 h0)),h0];rfl
 rw [if_neg (by rw [decide_eq_true_eq];exact fun e=>h0 ((qsp s []).1 e))]
 have e0:(L s).isEmpty=false:=by simpa using h0
 by_cases h1:L s= [46]
 ·rw [if_pos (decide_eq_true ((qsp s [46]).2 h1)),h1];rfl
 rw [if_neg (by rw [decide_eq_true_eq];exact fun e=>h1 ((qsp s [46]).1 e))]
 have e1:(L s== [46])=false:=by simpa using h1
 by_cases h2:L s= [46,46]
 ·rw [if_pos (decide_eq_true ((qsp s [46,46]).2 h2)),h2];rfl
 rw [if_neg (by rw [decide_eq_true_eq];exact fun e=>h2 ((qsp s [46,46]).1 e))]
 have e2:(L s== [46,46])=false:=by simpa using h2
 rw [e0,e1,e2]
 exact qvf s hs (L s) 0 rfl (Az _)
theorem qvg (s:BA) (hs:s.size≤1000):∀(rest pre cur:List UInt8),L s=pre++(cur++rest)→Jb s (pre.length:Int) ((pre.length+cur.length:Nat):Int)=some (qjy cur rest)
 | [],pre,cur,h=>by
   have hl:=congrArg List.length h
   rw [Ad,Ad,qbt,Ao] at hl
   rw [Jb.eq_def]
   simp only [qa]
   rw [if_neg (by rw [decide_eq_true_eq];omega)]
   have hc:=qqp h
   rw [show ((pre.length+cur.length:Nat):Int)=(s.size:Int) by omega] at hc
   rw [hc,bs,q7t _ (by rw [qdh];omega),qn9,bs,qjy]
 | c ::l,pre,cur,h=>by
   have hl:=congrArg List.length h
   rw [Ad,Ad,qbt,Af] at hl
   have hd:(L s).drop (pre.length+cur.length)=c::l:=by rw [h,←AJ,←Ad,List.drop_left]
   have t22:∀(a:Int) (p q:List UInt8),L s=p++(q++l)→(p.length:Int)=a→p.length+q.length=pre.length+cur.length+1→Yo s a ((pre.length+cur.length:Nat):Int)=some (qjy q l):=by
    intro a p q hpq ha hlen
    rw [Yo.eq_def]
    simp only [qa]
    rw [js (by omega) (by omega),←ha,show ((pre.length+cur.length:Nat):Int)+1=((p.length+q.length:Nat):Int) by omega]
    exact qvg s hs l p q hpq
   rw [Jb.eq_def]
   simp only [qa]
   rw [if_pos (decide_eq_true (by omega)),qbn hd,bs,qjy]
   by_cases hc:c=47
   ·subst hc
    rw [if_pos rfl,if_pos (by decide),qqp h,bs,q7t _ (by rw [qdh];omega),qn9,bs]
    cases hp:qg4 cur with
    | false=>rw [if_pos (by decide)];rfl
    | true=>
      rw [if_neg (by decide),Bh,js (by omega) (by omega)]
      exact t22 _ (pre++(cur++ [47])) [] (by rw [h];simp) (by simp;omega) (by simp;omega)
   rw [if_neg hc]
   have hn:¬((c.toNat:Int)=47):=fun e=>hc (by
    have:c.toNat=47:=by omega
    exact BF.1 this)
   rw [decide_eq_false hn,if_neg (by decide)]
   exact t22 _ pre (cur++ [c]) (by rw [h];simp) rfl (by simp;omega)
theorem zbc (s:BA):qh3 s=some (qjx s):=by
 unfold qh3 qjx
 by_cases h0:s=⟨#[]⟩
 ·subst h0;rfl
 have hp:s.size≠0:=fun e=>h0 ((qsp s []).2 (AK.1 (by rw [qbt];exact e)))
 rw [if_neg (by rw [decide_eq_true_eq];omega),decide_eq_true h0,Bh]
 by_cases h1:s.size≤64
 ·rw [if_neg (by rw [decide_eq_true_eq];omega),decide_eq_true h1,Bh]
  exact qvg s (by omega) (L s) [] [] rfl
 rw [if_pos (decide_eq_true (by omega)),decide_eq_false h1,BM]
theorem q99 (D:List File) (hD:D.length≤1000000):∀(l pre:List File),D=pre++l→u6 D (pre.length:Int)=some (if l.any (fun x=>decide (65536 < x.Text.size))=true then 3 else 0)
 | [],pre,h=>by
   rw [u6.eq_def]
   simp only [qa]
   rw [qij h,qma];rfl
 | x::l,pre,h=>by
   have hl:=qgn h
   rw [u6.eq_def]
   simp only [qa]
   rw [qii h,ql9,qbv h,bs,qe6 (by omega) x,q99 D hD l (pre++ [x]) (qbs h),B8]
   by_cases hx:65536 < x.Text.size
   ·rw [if_pos (decide_eq_true (by omega)),decide_eq_true hx,Bool.true_or,if_pos rfl]
   rw [if_neg (by rw [decide_eq_true_eq];omega),decide_eq_false hx,Bn]
theorem q7n:∀x y:List UInt8,(Op.bytesLess x y || decide (x=y))= !Op.bytesLess y x
 | [], []=>by simp [Op.bytesLess]
 | [],b::y=>by simp [Op.bytesLess]
 | a::x, []=>by simp [Op.bytesLess]
 | a ::x,b::y=>by
   have ih:=q7n x y
   rw [Op.bytesLess,Op.bytesLess]
   rcases Nat.lt_trichotomy a.toNat b.toNat with h | h | h
   ·have h1:a < b:=BW.2 h
    have h2:¬a=b:=fun e=>by rw [e] at h;omega
    have h3:¬b < a:=fun e=>by have:=BW.1 e;omega
    have h4:¬b=a:=fun e=>h2 e.symm
    simp [h1,h2,h3,h4]
   ·have e:a=b:=BF.1 h
    subst e
    have h3:¬a < a:=fun e=>by have:=BW.1 e;omega
    simp [h3,←ih]
   have h1:b < a:=BW.2 h
   have h2:¬a=b:=fun e=>by rw [e] at h;omega
   have h3:¬a < b:=fun e=>by have:=BW.1 e;omega
   simp [h1,h2,h3]
theorem q8y (a b:BA):leB a b= !Op.bytesLess b.toList a.toList:=by
 unfold leB
 rw [ByteArray.toList_eq,ByteArray.toList_eq,show decide (a=b)=decide (a.data.toList=b.data.toList) by
  obtain ⟨⟨a⟩⟩:=a
  obtain ⟨⟨b⟩⟩:=b
  rw [decide_eq_decide]
  constructor
  ·intro e;cases e;rfl
  intro e;cases e;rfl]
 exact q7n _ _
theorem zaa (D:List File) (hD:D.length≤1000000):∀(l pre:List File) (x:File),D=pre++(x::l)→ui D ((pre.length+1:Nat):Int)=(if J8 (x::l)=true then some 14 else u6 D 0)
 | [],pre,x,h=>by
   have hb:J8 [x]=false:=by simp [J8]
   have hl:=congrArg List.length h
   rw [Ad,Ae] at hl
   rw [ui.eq_def,hb]
   simp only [qa]
   rw [Av,if_neg (by rw [decide_eq_true_eq];omega),if_neg (by decide)]
 | y ::l,pre,x,h=>by
   have hl:=qgn h
   have h2:D=(pre++ [x])++(y::l):=qbs h
   have hl2:=qgn h2
   rw [Ad,Ae] at hl2
   have hy:ix D ((pre.length+1:Nat):Int)=some y:=by have:=qbv h2;rwa [Ad,Ae] at this
   rw [ui.eq_def]
   simp only [qa]
   rw [Av,if_pos (decide_eq_true (by omega)),js (by omega) (by omega),show ((pre.length+1:Nat):Int) - 1=(pre.length:Int) by omega,qbv h,bs,hy,bs,J8,q8y]
   cases hle:Op.bytesLess x.Path.toList y.Path.toList with
   | false=>rw [if_pos (by decide),Aa,Bool.true_or,if_pos rfl]
   | true=>
     rw [if_neg (by decide),Ab,Bn,js (by omega) (by omega),show ((pre.length+1:Nat):Int)+1=((pre.length+1+1:Nat):Int) by omega]
     have:=zaa D hD l (pre++ [x]) y h2
     rw [Ad,Ae] at this
     exact this
theorem q9h (D:List File) (hD:D.length≤1000000):ui D 1=(if J8 D=true then some 14 else u6 D 0):=by
 cases D with
 | nil=>rw [ui.eq_def];rfl
 | cons x l=>exact zaa (x::l) hD l [] x rfl
theorem zab (D:List File) (hD:D.length≤1000000):∀(l pre:List File),D=pre++l→Zc D (pre.length:Int)=(if l.any (fun x=> !qjx x.Path)=true then some 4 else ui D 1)
 | [],pre,h=>by
   rw [Zc.eq_def]
   simp only [qa]
   rw [qij h,qma];rfl
 | x::l,pre,h=>by
   have hl:=qgn h
   rw [Zc.eq_def]
   simp only [qa]
   rw [qii h,ql9,qbv h,bs,zbc,bs,qe6 (by omega) x,zab D hD l (pre++ [x]) (qbs h),B8]
   cases qjx x.Path with
   | false=>rw [if_pos (by decide),Aa,Bool.true_or,if_pos rfl]
   | true=>rw [if_neg (by decide),Ab,Bn]
theorem q29 (l:List File):qbj l=some (qfk l):=by
 unfold qbj qfk
 rw [Av]
 by_cases h:32 < l.length
 ·rw [if_pos (decide_eq_true (by omega)),if_pos h]
 have e0:=zab l (by omega) l [] rfl
 have e2:=q99 l (by omega) l [] rfl
 rw [Ao] at e0 e2
 rw [if_neg (by rw [decide_eq_true_eq];omega),if_neg h,show (0:Int)=((0:Nat):Int) from rfl,e0,q9h l (by omega),show (0:Int)=((0:Nat):Int) from rfl,e2]
 by_cases h1:l.any (fun x=> !qjx x.Path)=true
 ·rw [if_pos h1,if_pos h1]
 rw [if_neg h1,if_neg h1]
 by_cases h2:J8 l=true
 ·rw [if_pos h2,if_pos h2]
 rw [if_neg h2,if_neg h2];rfl
theorem q69 (x:Ps.Rs Node) (h:(Ps.finV x).2.1≠0):(Ps.finV x).1=Ps.zN:=by
 cases x with
 | error u=>rfl
 | ok y=>
   revert h
   show (Ps.limV y.1).2.1≠0→(Ps.limV y.1).1=Ps.zN
   unfold Ps.limV
   split
   ·exact fun _=>rfl
   exact fun h=>absurd rfl h
theorem q39 (s:BA) (h:(Ps.readV Ps.fileR s).2.1≠0):(Ps.readV Ps.fileR s).1=Ps.zN:=by
 revert h
 unfold Ps.readV
 split
 ·exact q69 _
 exact fun _=>rfl
theorem zba (x:File):qf0 x=some (qx3 x):=by
 unfold qf0 qx3
 rw [Ps.R_File,bs]
 by_cases h:(Ps.readV Ps.fileR x.Text).2.1=0
 ·rw [if_neg (by simp [h]),decide_eq_true h];rfl
 rw [if_pos (by simp [h]),decide_eq_false h,q39 _ h];rfl
theorem q98 (D:List File) (hD:D.length≤1000000):∀(l pre:List File) (acc:List Unit),D=pre++l→acc.length+l.length≤1000000→Jg D acc (pre.length:Int)=some (acc++l.map qx3,0)
 | [],pre,acc,hd,h=>by
   rw [Jg.eq_def]
   simp only [qa]
   rw [qij hd,qma,AN,Bs]
 | x::l,pre,acc,hd,h=>by
   rw [Af] at h
   have hl:=qgn hd
   rw [Jg.eq_def]
   simp only [qa]
   rw [qii hd,ql9,qbv hd,bs,zba,bs,yw (by rw [Ae];omega) (by decide),bs,qe6 (by omega) x,q98 D hD l (pre++ [x]) _ (qbs hd) (by rw [Ad,Ae];omega),Ay,AJ]
   rfl
theorem zbd (l:List File):qf2 l=some (qlh l):=by
 unfold qf2 qlh
 rw [q29,bs]
 by_cases h:qfk l=0
 ·have hl:l.length≤32:=by
   rcases Bt 32 l.length with q | q
   ·unfold qfk at h;rw [if_pos q] at h;cases h
   exact q
  have:=q98 l (by omega) l [] [] rfl (by simp;omega)
  rw [decide_eq_true h,if_neg (by decide),if_pos h]
  rw [Be] at this
  exact this
 rw [decide_eq_false h,if_pos (by decide),if_neg h]
theorem L11_Checks (l:List File):Yr l=some true:=by
 obtain ⟨b,e,_⟩:=q9p l
 unfold Yr
 rw [e,bs]
 cases b with
 | false=>rw [if_pos (by decide),q3e];rfl
 | true=>
   have:=q6m l
   rw [if_neg (by decide),q74,bs,zbd,bs,qwz,bs,q29,bs,if_pos (by simp),zbk _ (by omega) (q05 l),bs,if_pos rfl,if_pos (by simp),q3e]
   rfl
end Pj
end Go.Proofs.YtpnkemogepoioaaGreatDoorW.Ex.Gr

namespace Go.Proofs.YtpnkemogepoioaaGreatDoorW.Ex.Gr
open Go Go.RowKit Go.Proofs.YtpnkemogepoioaaGreatDoorW.Ex Go.Proofs.YtpnkemogepoioaaGreatDoor
set_option linter.all false
set_option maxRecDepth 100000
theorem q95 {P:Program} {W:World} {nm:String} {g:Nat} {vs:Array Value} {cs:List AV} (hg:P.globalNamed nm=some g) (hv:W.var? P nm=some vs) (hl:vs.size=cs.length)
 (h:∀(i:Nat) (x:AV),cs[i]? =some x→x.one=true∧∃v,vs[i]? =some v∧∀β,RV W (· < W.heap.size) β 0 x v) (β:Nat→Nat) (n:Nat):GV W (· < W.heap.size) β n g cs:=by
 unfold World.var? at hv
 rw [hg,BB] at hv
 cases hb:W.heap[g]? with
 | none=>rw [hb] at hv;cases hv
 | some o=>
   rw [hb] at hv
   cases o with
   | cells c t fr=>
     simp only [Ac] at hv
     subst hv
     have hlt:g < W.heap.size:=(Aw.1 hb).1
     refine ⟨.rptr cs g 0 (fun i=>c.getD i Go.undef) (fun _=>hlt) (fun i x hi=>(h i x hi).1) (fun i x hi=> ?_) (fun i x hi=> ?_),fun _=>⟨t,?_⟩⟩
     ·obtain ⟨_,v,hv,_⟩:=h i x hi
      unfold World.cell?
      rw [hb,AO]
      show c[i]? =some (c.getD i Go.undef)
      rw [Ag,hv];rfl
     ·obtain ⟨_,v,hv,hr⟩:=h i x hi
      rw [Ag,hv]
      exact hr β
     unfold World.shape?
     rw [hb]
     show some (t,c.size)=_
     rw [hl]
   | _=>cases hv
theorem za3 {W:World} (β:Nat→Nat) (n g:Nat):GV W (· < W.heap.size) β n g []:=⟨.rptr [] g 0 (fun _=>Go.undef) (by simp) (by simp) (by simp) (by simp),fun h=>absurd rfl h⟩
theorem q9u: "*" ++ "errors.errorString" = "*errors.errorString" :=by decide
theorem za6 (u:TypeId) (h:Tryz.prog.typeName? 3 u=some "*errors.errorString"):u=209:=
 typeName_ptr_named (nm:= "errors.errorString") (by rw [q9u];kernel_rfl) (by kernel_rfl) (by decide) u (by rw [q9u];exact h)
theorem q62 {W:World} {nm:String} {g ti:Nat} {text:List UInt8} {r:List (String × DataW _root_.Unit)} {ms:Array (String × TypeId)} (h:laidMet Tryz.prog ((nm, .iface "*errors.errorString" (.ptr (.agg [.lit (.string text)])))::r) W)
 (hg:Tryz.prog.globalNamed nm=some g) (ht:(Tryz.prog.globals[g]?).map (·.type)=some ti) (hi:Tryz.prog.underlying ti=some (.interface ms)) (β:Nat→Nat) (n:Nat):GV W (· < W.heap.size) β n g [.iface 209 .undef]:=by
 obtain ⟨a0,s0,hv0, -, -, -⟩:=laid_sentinel h hg ht hi za6 Tryz.underlying209 Tryz.underlying211 rfl rfl Tryz.underlying9 (by kernel_rfl) (by kernel_rfl)
 refine q95 hg hv0 rfl (fun i x hx=> ?_) β n
 match i,hx with
 | 0,hx=>cases hx;exact ⟨rfl,_,rfl,fun _=> .iface _ _ _ (.undef _)⟩
theorem q59:(Rows.laid_internal_strconv_uint64pow10:DataW _root_.Unit)=Lib.tabData .u64 Lib.pow10Tab:=by kernel_rfl
theorem glaidP {W:World} (hL:laidMetH Tryz.prog [("math/bits.deBruijn32tab",Rows.laid_math_bits_deBruijn32tab),("math/bits.deBruijn64tab",Rows.laid_math_bits_deBruijn64tab),("internal/strconv.uint64pow10",Rows.laid_internal_strconv_uint64pow10),("strconv.ErrRange",Rows.laid_strconv_ErrRange),("strconv.ErrSyntax",Rows.laid_strconv_ErrSyntax),("treemerge/grammar.shapes",Rows.laid_treemerge_grammar_shapes)] W):∀g β n,GV W (· < W.heap.size) β n g (G g):=by
 rw [MakeChecks.laidMetH_plain _ _ _ (by kernel_rfl)] at hL
 have h3:=hL.tail.tail
 have hS:=h3.tail.tail.tail
 intro g β n
 unfold G
 by_cases g0:g=0
 ·rw [if_pos g0]
  subst g0
  obtain ⟨ps,⟨g0,t0,cs0,f0,p0,q0,hg0,ht0,hv0,hd0,_,_⟩,_,_⟩:=hS
  obtain rfl:=Bf (q65.symm.trans hg0)
  obtain rfl:=Bf (za4.symm.trans ht0)
  obtain ⟨l,hl,⟨ds,hds,hE⟩,hR⟩:=q0v (P:=Tryz.prog) Tryz.underlying167 (by kernel_rfl) qum q8q q65 hv0 hd0
  obtain ⟨_,_,_,_,hlen,_⟩:=DataW.trod_array Tryz.underlying167 hd0
  have e1:=q7d qwr (fun _ _ _ h=>h) hE
  have e3:ds=dA (Rows.laid_treemerge_grammar_shapes:DataW _root_.Unit):=by
   have:(DataW.agg ds:DataW _root_.Unit)=Rows.laid_treemerge_grammar_shapes:=hds.symm
   rw [←this];rfl
  rw [e3,←qyc] at e1
  refine ⟨by rw [←e1];exact hR β n,fun _=> ?_⟩
  have h162:(shapes.map Shape.cells).flatten.length=Tryz.prog.cellsOf 167:=by kernel_rfl
  unfold World.var? at hv0
  rw [q65,BB] at hv0
  cases hb:W.heap[0]? with
  | none=>rw [hb] at hv0;cases hv0
  | some o=>
    rw [hb] at hv0
    cases o with
    | cells c t fr=>
      simp only [Ac] at hv0
      subst hv0
      refine ⟨t,?_⟩
      unfold World.shape?
      rw [hb]
      show some (t,c.size)=_
      rw [h162,←hlen,Bc]
    | _=>cases hv0
 rw [if_neg g0]
 by_cases g1:g=2
 ·rw [if_pos g1]
  subst g1
  exact q62 (ti:=90) h3.tail.tail (by kernel_rfl) (by kernel_rfl) Tryz.underlying90 β n
 rw [if_neg g1]
 by_cases g2:g=3
 ·rw [if_pos g2]
  subst g2
  exact q62 (ti:=90) h3.tail (by kernel_rfl) (by kernel_rfl) Tryz.underlying90 β n
 rw [if_neg g2]
 by_cases g3:g=4
 ·rw [if_pos g3]
  subst g3
  rw [q59] at h3
  have hg:Tryz.prog.globalNamed "internal/strconv.uint64pow10" =some 4:=by kernel_rfl
  have ht:=Lib.tabIs_of_head (t:=213) (e:=186) (n:=20) hg (by kernel_rfl) Tryz.underlying213 Tryz.underlying186 (by kernel_rfl) (by kernel_rfl) h3
  refine q95 hg ht (by simp) (fun i x hx=> ?_) β n
  rw [Ar] at hx
  obtain ⟨z,hz,rfl⟩:=Am.1 hx
  refine ⟨rfl, .int .u64 z,?_,fun _=> .int _ _⟩
  rw [Cd,Ar,hz];rfl
 rw [if_neg g3]
 exact za3 β n g
theorem zat (n:Nat):Rd Tryz.prog (n+1) 57 File.cells (fun _=>True) (fun _ _=>True):=by
 have h:=qkx (P:=Tryz.prog) Tryz.underlying57 (by kernel_rfl) (qeu (sz:=1) rfl (by kernel_rfl) (qg3 Tryz.underlying9 n) (qwm (sz:=1) rfl (by kernel_rfl) (qg3 Tryz.underlying9 n)))
 exact qqh h (fun x=>File.mk x.1 x.2) (fun x=>rfl) (fun _ _=>trivial) (fun _ _ _ _=>trivial)
theorem rdFiles (n:Nat):Rd Tryz.prog n 22 (fun l:List File=> [.sl 2 false (l.map File.cells)]) (fun _=>True) (fun _ _=>True):=
 q9v (zas (qjw (sz:=2) Tryz.underlying22 (by kernel_rfl) (by decide) (fun _=>rfl) (zat n)) (fun _ _=>trivial) (fun _ _ _ _=>trivial)) (Ci n)
theorem rc_sl {w:World} {x:AV} {v:Value} (h:RC w [x] [v]):∀β n,RV w (· < w.heap.size) β n x v:=fun β n=>by
 obtain ⟨_,v',hv,hR⟩:=h.2 0 x rfl
 simp only [Au,Ac] at hv
 subst hv
 exact hR β n
theorem L11_ProjectChecks (a0:List File):qcm a0 true:=qjj a0 true (Pj.L11_Checks a0)
end Go.Proofs.YtpnkemogepoioaaGreatDoorW.Ex.Gr
