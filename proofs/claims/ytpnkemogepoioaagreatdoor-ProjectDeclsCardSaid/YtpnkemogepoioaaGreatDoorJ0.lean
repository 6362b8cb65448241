/- Small trees. Conditions: those in each theorem. -/
import Derived.Test.YtpnkemogepoioaaGreatDoorXEb
import Derived.Test.YtpnkemogepoioaaGreatDoorKq
import Derived.Test.YtpnkemogepoioaaGreatDoorKc
namespace Go.Proofs.YtpnkemogepoioaaGreatDoorW.Ex.Gr
open Go Go.Proofs.YtpnkemogepoioaaGreatDoorW.Ex Go.Proofs.YtpnkemogepoioaaGreatDoorW.Plain Tk
set_option linter.all false
set_option maxRecDepth 100000
def Left (n:Nat) (k r:Int):Prop:=r= -1∨(0≤r∧r=k - n)
mutual
theorem qo9:∀(n:Node) (k d:Int),k≤1000000→ -1000000≤k→d≤1000000→ -1000000≤d→∃r,Kj n k d=some r∧Left (y7 n) k r
 | .mk kd t g l,k,d,h1,h2,h3,h4=>by
   rw [Kj.eq_def]
   simp only [qa]
   by_cases c1:k < 1
   ·rw [decide_eq_true c1,Yg];exact ⟨_,rfl, .inl rfl⟩
   rw [decide_eq_false c1,Yh]
   by_cases c2:d < 1
   ·rw [decide_eq_true c2,Yg];exact ⟨_,rfl, .inl rfl⟩
   rw [decide_eq_false c2,Yh]
   by_cases c3:k < (((Node.mk kd t g l).kids.map Node.cells).length:Int)
   ·rw [decide_eq_true c3,Yg];exact ⟨_,rfl, .inl rfl⟩
   rw [decide_eq_false c3,Yh,ke (by omega) (by omega)]
   rw [List.length_map] at c3
   have c3':(l.length:Int)≤1000000:=by
    have:((Node.mk kd t g l).kids).length=l.length:=rfl
    omega
   obtain ⟨r,e,hr⟩:=qi3 l [] (.mk kd t g l) d (k - 1) rfl (by omega) (by omega) (by omega) (by omega) c3'
   rw [show ((0:Int))=(([]:List Node).length:Int) from rfl,e]
   refine ⟨r,rfl,?_⟩
   unfold Left at hr ⊢
   rw [y7];omega
theorem qi3:∀(l pre:List Node) (n:Node) (d k:Int),n.kids=pre++l→0≤k→k≤1000000→d≤1000000→1≤d→(n.kids.length:Int)≤1000000→∃r,Qf d k (pre.length:Int) n=some r∧Left (yd l) k r
 | [],pre,n,d,k,hk,h0,h1,_,_,_=>by
   rw [Qf.eq_def,qcn hk,Yh]
   exact ⟨k,rfl, .inr ⟨h0,by simp [yd]⟩⟩
 | m::l,pre,n,d,k,hk,h0,h1,h2,h3,hb=>by
   have hb2:=hb
   rw [hk,List.length_append] at hb2
   obtain ⟨r,e,hr⟩:=qo9 m k (d - 1) (by omega) (by omega) (by omega) (by omega)
   rw [Qf.eq_def]
   simp only [qa]
   rw [qcm hk,Yg,Wn hk,bs,ke (by omega) (by omega),e,bs]
   by_cases c:r < 0
   ·rw [decide_eq_true c,Yg];exact ⟨_,rfl, .inl rfl⟩
   rw [decide_eq_false c,Yh,qbo (by omega) m]
   have hr2:0≤r∧r=k - y7 m:=by unfold Left at hr;omega
   obtain ⟨r',e',hr'⟩:=qi3 l (pre++ [m]) n d r (Kr hk) (by omega) (by omega) h2 h3 hb
   rw [e']
   refine ⟨r',rfl,?_⟩
   unfold Left at hr' ⊢
   rw [yd];omega
end
mutual
def bdN:Node→Prop
 | .mk _ t g l=>t.size≤4000∧g.length≤4000∧(∀x∈g,x.size≤4000)∧bdL l
def bdL:List Node→Prop
 | []=>True
 | n::l=>bdN n∧bdL l
end
theorem qo5 (n:Node):bdN n=(n.text.size≤4000∧n.gaps.length≤4000∧(∀x∈n.gaps,x.size≤4000)∧bdL n.kids):=by cases n;rw [bdN];rfl
theorem qv2:∀{l:List Node} {m:Node},bdL l→m∈l→bdN m
 | a::l,m,h,hm=>by
   rw [bdL] at h
   rcases List.mem_cons.1 hm with rfl | hm
   ·exact h.1
   exact qv2 h.2 hm
theorem qrk:∀(l pre:List Node) (n:Node) (k:Int),n.kids=pre++l→n.kids.length≤100000→0≤k→k≤4000→(∀m∈l,∀k:Int,0≤k→k≤4000→∃r,Zi m k=some r∧r≤k∧(0≤r→bdN m))→
 ∃r,u6 k (pre.length:Int) n=some r∧r≤k∧(0≤r→bdL l)
 | [],pre,n,k,h,hn,h0,h1,ih=>by
   rw [u6.eq_def,qcn h,Yh]
   exact ⟨k,rfl,Int.le_refl _,fun _=>by rw [bdL];trivial⟩
 | m::l,pre,n,k,h,hn,h0,h1,ih=>by
   have hl:=qfm h
   obtain ⟨r,e,hr,hb⟩:=ih m (List.mem_cons_self ..) k h0 h1
   rw [u6.eq_def]
   simp only [qa]
   rw [qcm h,Yg,Wn h,bs,e,bs]
   by_cases c:r < 0
   ·rw [decide_eq_true c,Yg];exact ⟨_,rfl,by omega,fun q=>by omega⟩
   rw [decide_eq_false c,Yh,qbo (by omega) m]
   obtain ⟨r',e',hr',hb'⟩:=qrk l (pre++ [m]) n r (Kr h) hn (by omega) (by omega) (fun m hm=>ih m (List.mem_cons_of_mem _ hm))
   exact ⟨r',e',by omega,fun q=>by rw [bdL];exact ⟨hb (by omega),hb' q⟩⟩
theorem qrl:∀(l pre:List BA) (n:Node) (k:Int),n.gaps=pre++l→n.gaps.length≤4000→n.kids.length≤100000→0≤k→k≤4000→(∀m∈n.kids,∀k:Int,0≤k→k≤4000→∃r,Zi m k=some r∧r≤k∧(0≤r→bdN m))→
 ∃r,u7 k (pre.length:Int) n=some r∧r≤k∧(0≤r→(∀x∈l,x.size≤4000)∧bdL n.kids)
 | [],pre,n,k,h,hn,hk,h0,h1,ih=>by
   obtain ⟨r,e,hr,hb⟩:=qrk n.kids [] n k rfl hk h0 h1 ih
   rw [u7.eq_def]
   simp only [qa]
   rw [qcn h,Yh]
   exact ⟨r,e,hr,fun q=>⟨fun x hx=>(by cases hx),hb q⟩⟩
 | m::l,pre,n,k,h,hn,hk,h0,h1,ih=>by
   have hl:=qfm h
   rw [u7.eq_def]
   simp only [qa]
   rw [qcm h,Yg,Wn h,bs]
   by_cases c:k≤(m.size:Int)
   ·rw [decide_eq_true c,Yg];exact ⟨_,rfl,by omega,fun q=>by omega⟩
   rw [decide_eq_false c,Yh,bs,qbo (by omega) m,show IntKind.i64.wrap (k - (m.size:Int))=k - m.size from ke (by omega) (by omega),ke (by omega) (by omega)]
   obtain ⟨r',e',hr',hb'⟩:=qrl l (pre++ [m]) n (k - m.size - 1) (Kr h) hn hk (by omega) (by omega) ih
   refine ⟨r',e',by omega,fun q=>⟨fun x hx=> ?_,(hb' q).2⟩⟩
   rcases List.mem_cons.1 hx with rfl | hx
   ·omega
   exact (hb' q).1 x hx
theorem qrm:∀(j:Nat) (n:Node),y7 n≤j→y7 n≤100000→∀k:Int,0≤k→k≤4000→∃r,Zi n k=some r∧r≤k∧(0≤r→bdN n)
 | 0,n,h,_,_,_,_=>by have:=qoj n;omega
 | j +1,n,h,hs,k,h0,h1=>by
   have e:=qrz n
   have hl:=qbq n.kids
   rw [Zi.eq_def]
   simp only [qa]
   by_cases c:k < (n.text.size:Int)
   ·rw [decide_eq_true c,Yg];exact ⟨_,rfl,by omega,fun q=>by omega⟩
   rw [decide_eq_false c,Yh]
   by_cases c2:k < ((n.gaps.map sc).length:Int)
   ·rw [decide_eq_true c2,Yg];exact ⟨_,rfl,by omega,fun q=>by omega⟩
   rw [decide_eq_false c2,Yh,ke (by omega) (by omega)]
   rw [List.length_map] at c2
   obtain ⟨r,e1,hr,hb⟩:=qrl n.gaps [] n (k - n.text.size) rfl (by omega) (by omega) (by omega) (by omega) (fun m hm=>by
    have:=qry hm
    exact qrm j m (by omega) (by omega))
   refine ⟨r,e1,by omega,fun q=> ?_⟩
   rw [qo5]
   exact ⟨by omega,by omega,(hb q).1,(hb q).2⟩
theorem q1u (n:Node):∃b,qb9 n 300 60 4000=some b∧(b=true→y7 n≤300∧bdN n):=by
 obtain ⟨r,e,hr⟩:=qo9 n 300 60 (by decide) (by decide) (by decide) (by decide)
 rw [qb9.eq_def,qgo.eq_def,e,bs,bs]
 by_cases c:0≤r
 ·rw [if_pos (decide_eq_true c)]
  have hs:y7 n≤300:=by
   rcases hr with q | q
   ·omega
   omega
  obtain ⟨r2,e2,_,hb⟩:=qrm (y7 n) n (Nat.le_refl _) (by omega) 4000 (by decide) (by decide)
  rw [e2,bs]
  exact ⟨_,rfl,fun q=>⟨hs,hb (of_decide_eq_true q)⟩⟩
 rw [if_neg (by rw [decide_eq_true_eq];exact c)]
 exact ⟨_,rfl,fun q=>by cases q⟩
end Go.Proofs.YtpnkemogepoioaaGreatDoorW.Ex.Gr
