/- The source is the tokens side by side. Conditions: those in each theorem. A tree with its tokens is printed as the source. Conditions: those in each theorem. What is read of a source. Conditions: those in each theorem. -/
import Derived.Test.YtpnkemogepoioaaGreatDoorB1
import Derived.Test.YtpnkemogepoioaaGreatDoorKc
import Derived.Test.YtpnkemogepoioaaGreatDoorKg
namespace Go.Proofs.YtpnkemogepoioaaGreatDoorW.Ex.Gr
open Go Go.Proofs.YtpnkemogepoioaaGreatDoorW.Ex Go.Proofs.YtpnkemogepoioaaGreatDoorW.Plain
set_option linter.all false
set_option maxRecDepth 100000
namespace Ps
open Tk
def Adj:BA→List Token→Prop
 | _, []=>True
 | last,x::r=>ql2 (L last) (L x.Lead) (L x.Text)=false∧Adj x.Text r
theorem qv2:∀(l:List UInt8) (c:UInt8),(l.drop (Tk.runL l)).head? =some c→letC c=false
 | [],c,h=>by cases h
 | d ::l,c,h=>by
   rw [Tk.runL] at h
   by_cases hd:letC d=true
   ·rw [if_pos hd,List.drop_succ_cons] at h
    exact qv2 l c h
   rw [if_neg hd] at h
   cases h
   simpa using hd
theorem qx1 (r:List UInt8) (h:(ke r).2≠0):qxl (r.take (ke r).1) (r.drop (ke r).1):=by
 cases r with
 | nil=>exact absurd rfl h
 | cons c l=>
   cases hw:letC c with
   | true=>
     have hr:=qnw l hw
     have hn:(ke (c::l)).1=Tk.runL (c::l):=by
      cases hd:digC c with
      | true=>
        rw [qpb l hd] at h ⊢
        by_cases hi:Qg ((c::l).take (Tk.runL (c::l)))=true
        ·rw [if_pos hi]
        rw [if_neg hi] at h;exact absurd rfl h
      | false=>
        rw [qpa l hw hd] at h ⊢
        by_cases hi:Tk.runL (c::l)≤32
        ·rw [if_pos hi]
        rw [if_neg hi] at h;exact absurd rfl h
     rw [hn]
     obtain ⟨k,hk⟩:∃k,Tk.runL (c::l)=k+1:=⟨Tk.runL (c::l) - 1,by omega⟩
     intro d hd
     refine ⟨fun e=> ?_,fun e=> ?_,fun e=> ?_⟩
     ·rw [qv2 _ _ hd] at e;exact absurd e.2 (by decide)
     ·have e1:=e.1
      rw [hk,BQ] at e1
      have e2:=(B6 e1).1
      rw [e2] at hw
      exact absurd hw (by decide)
     have e1:=e.1
     rw [hk,BQ] at e1
     have e2:=(B6 e1).1
     rw [e2] at hw
     exact absurd hw (by decide)
   | false =>
     cases hm:qe7 c with
     | false=>rw [qn0 l hw hm] at h;exact absurd rfl h
     | true=>
       rw [qks l hw hm] at h ⊢
       by_cases h1:c=47∧l.head? =some 47
       ·rw [if_pos h1] at h;exact absurd rfl h
       rw [if_neg h1]
       by_cases h2:c=61∧l.head? =some 61
       ·rw [if_pos h2]
        obtain ⟨rfl,h2⟩:=h2
        cases l with
        | nil=>cases h2
        | cons d l=>
          cases h2
          intro d hd
          have ht:List.take (2,(3:Int)).1 (61::61::l)= [61,61]:=rfl
          rw [ht]
          refine ⟨fun e=>absurd e.1 (by decide),fun e=>absurd e.1 (by decide),fun e=>absurd e.1 (by decide)⟩
       rw [if_neg h2]
       intro d hd
       have hd':l.head? =some d:=hd
       refine ⟨fun e=> ?_,fun e=> ?_,fun e=> ?_⟩
       ·have:letC c=true:=e.1
        rw [hw] at this;exact absurd this (by decide)
       ·have e1:c=61:=(B6 e.1).1
        exact h2 ⟨e1,by rw [hd',e.2]⟩
       have e1:c=47:=(B6 e.1).1
       exact h1 ⟨e1,by rw [hd',e.2]⟩
theorem qvs {last:BA} {l g w:List UInt8} (ha:qxl (L last) l) (h:∃q,l=g++(w++q)):ql2 (L last) g w=false:=by
 obtain ⟨q,hq⟩:=h
 unfold ql2
 by_cases hg:g= []
 ·rw [if_pos hg]
  unfold qwr
  by_cases h0:L last= []∨w= []
  ·rw [if_pos h0]
  rw [if_neg h0]
  cases w with
  | nil=>exact absurd (.inr rfl) h0
  | cons c w=>
    have hc:l.head? =some c:=by rw [hq,hg];rfl
    obtain ⟨a1,a2,a3⟩:=ha c hc
    rw [if_neg (by exact a1)]
    have b2:(decide (L last= [61]) && (decide (c::w= [61]) || decide (c::w= [61,61])))=false:=by
     by_cases e1:L last= [61]
     ·have:c≠61:=fun e=>a2 ⟨e1,e⟩
      rw [decide_eq_false (show ¬c::w= [61] from fun e=>this (B6 e).1),decide_eq_false (show ¬c::w= [61,61] from fun e=>this (B6 e).1)]
      simp
     rw [decide_eq_false e1];rfl
    have b3:(decide (L last= [47]) && decide (c::w= [47]))=false:=by
     by_cases e1:L last= [47]
     ·have:c≠47:=fun e=>a3 ⟨e1,e⟩
      rw [decide_eq_false (show ¬c::w= [47] from fun e=>this (B6 e).1)]
      simp
     rw [decide_eq_false e1];rfl
    rw [b2,b3];rfl
 rw [if_neg hg]
 cases g with
 | nil=>exact absurd rfl hg
 | cons c g=>
   have hc:l.head? =some c:=by rw [hq];rfl
   obtain ⟨_,_,a3⟩:=ha c hc
   by_cases e1:L last= [47]
   ·rw [decide_eq_true e1,Bv,decide_eq_false]
    intro e
    exact a3 ⟨e1,Bh e⟩
   rw [decide_eq_false e1];rfl
def qhv (m:List Token):List UInt8:=(m.map fun x=>L x.Lead++L x.Text).flatten
theorem qx8 (l:List UInt8):l=l.take (l.length - (zk l).length)++zk l:=by
 obtain ⟨p,hp⟩:=qko l
 have hlen:=congrArg List.length hp
 rw [Ad] at hlen
 have e:l.length - (zk l).length=p.length:=by omega
 rw [e]
 conv=>lhs;rw [hp]
 congr 1
 conv=>rhs;rw [hp]
 rw [List.take_left'];rfl
theorem qvo (S:Nat):∀(f:Nat) (l:List UInt8) (m:List Token),qdj S f l= .ok m→l.length < f→qhv m=l∧∀last,qxl (L last) l→Adj last m
 | 0,l,m,_,h=>absurd h (BW _)
 | f + 1,l,m,h,hf=>by
   have hr:=qhg l
   have hs:=qx8 l
   rw [qdj] at h
   by_cases h0:zk l= []
   ·rw [if_pos h0] at h
    cases h
    refine ⟨?_,fun last ha=>⟨qvs ha ⟨[],?_⟩,trivial⟩⟩
    ·show L (ofB l)++ []++ []=l
     rw [qd3,Az,Az]
    show l=L (ofB l)++([]++ [])
    rw [qd3];simp
   rw [if_neg h0] at h
   have hn:=qn2 (zk l)
   by_cases h2:(ke (zk l)).2=0
   ·rw [if_pos h2] at h;cases h
   rw [if_neg h2] at h
   have hpos:=qpd (zk l) h2
   cases h3:qdj S f ((zk l).drop (ke (zk l)).1) with
   | error e=>rw [h3] at h;cases h
   | ok m'=>
     rw [h3] at h
     cases h
     have hd:((zk l).drop (ke (zk l)).1).length=(zk l).length - (ke (zk l)).1:=BH
     obtain ⟨g1,g2⟩:=qvo S f _ m' h3 (by omega)
     have hl:l=l.take (l.length - (zk l).length)++((zk l).take (ke (zk l)).1++(zk l).drop (ke (zk l)).1):=by rw [List.take_append_drop];exact hs
     refine ⟨?_,fun last ha=>⟨?_,g2 _ ?_⟩⟩
     ·show (L (ofB _)++L (ofB _))++qhv m'=l
      rw [g1,qd3,qd3,Ap]
      exact hl.symm
     ·show ql2 (L last) (L (ofB _)) (L (ofB _))=false
      rw [qd3,qd3]
      exact qvs ha ⟨_,hl⟩
     show qxl (L (ofB _)) _
     rw [qd3]
     exact qx1 _ h2
theorem qzi:∀(T:List Token) (s:List UInt8) (last:BA),Adj last T→(srcL (tw T) s last).1=s++qhv T
 | [],s,last,_=>by show s=s++ [];rw [Az]
 | x::T,s,last,h=>by
   show (srcL (tw T) (outL s (L last) (L x.Lead) (L x.Text)) x.Text).1=s++((L x.Lead++L x.Text)++qhv T)
   rw [qzi T _ x.Text h.2]
   unfold outL
   rw [h.1,if_neg (by decide),AQ,Ap,Ap]
end Ps
end Go.Proofs.YtpnkemogepoioaaGreatDoorW.Ex.Gr

namespace Go.Proofs.YtpnkemogepoioaaGreatDoorW.Ex.Gr
open Go Go.Proofs.YtpnkemogepoioaaGreatDoorW.Ex Go.Proofs.YtpnkemogepoioaaGreatDoorW.Plain
set_option linter.all false
set_option maxRecDepth 100000
namespace Ps
open Tk
mutual
theorem qvx:∀(n:Node) (d s:Nat),size? n d=some s→s=u3 n
 | .mk k t g l,d,s,h=>by
   cases d with
   | zero=>rw [size?] at h;cases h
   | succ d=>
     rw [size?] at h
     split at h
     ·cases h
     obtain ⟨a,ha,rfl⟩:=Am.1 h
     rw [u3,qr5 l d a ha]
theorem qr5:∀(l:List Node) (d s:Nat),sizeL? l d=some s→s=ud l
 | [],d,s,h=>by rw [sizeL?] at h;cases h;rfl
 | n :: l,d,s,h=>by
   rw [sizeL?] at h
   cases ha:size? n d with
   | none=>rw [ha] at h;cases h
   | some a=>
     cases hb:sizeL? l d with
     | none=>rw [ha,hb] at h;cases h
     | some b=>
       rw [ha,hb] at h
       cases h
       rw [ud,qvx n d a ha,qr5 l d b hb]
end
theorem qyu {n:Node} (h:checkErr n=0):u3 n≤4000:=by
 obtain ⟨k,h1,h2,_⟩:=qqa h
 rw [qvx n 60 k h1] at h2
 exact h2
theorem q7t {n:Node} {T:List Token} (hc:checkErr n=0) (hw:wfB n=true) (ht:∀l v,toks 0 n l v=tw T) (ha:Adj e0 T) (hT:T.length≤5000) (hb:∀x∈T,x.Lead.size≤4000∧x.Text.size≤4000) (hl:(qhv T).length≤65536):Zh n=some (ofB (qhv T),0):=by
 rw [Zh.eq_def,(q7e hw).1,bs]
 have a:=q29 qp6 qpc q8m n hc (by have:=qyu hc;omega) (e0, []) e0
 have hok:∀x∈tw T,okT x:=fun x hx=>by
  obtain ⟨y,hy,rfl⟩:=BG.1 hx
  exact hb y hy
 have hs:=qzi T [] e0 ha
 rw [AQ] at hs
 rw [ht,q0l _ _ _ hok (by decide) (by rw [Ar];unfold tw;rw [As];omega),bs] at a
 rw [if_neg (by rw [q6u];exact fun q=>q hc)]
 unfold qpc at a
 rw [show qdb (⟨#[]⟩:ByteArray) ([]:List UInt8) n (⟨#[]⟩:ByteArray) (0:Int)=_ from a,bs]
 unfold J7 Zt
 simp only [bs]
 rw [hs,if_neg (by rw [decide_eq_true_eq];omega)];rfl
end Ps
end Go.Proofs.YtpnkemogepoioaaGreatDoorW.Ex.Gr

namespace Go.Proofs.YtpnkemogepoioaaGreatDoorW.Ex.Gr
open Go Go.Proofs.YtpnkemogepoioaaGreatDoorW.Ex Go.Proofs.YtpnkemogepoioaaGreatDoorW.Plain
set_option linter.all false
set_option maxRecDepth 100000
namespace Ps
open Tk
theorem q6m {c:List Token→Rs Node} {s:BA} (h:(readV c s).2.1=0) (hc:∀m,Good m→m.length≤65537→Q m (fun n r=>wfB n=true) (c m)):
 ∃m n r,Good m∧m.length≤65537∧qdj s.size (s.size+1) (L s)= .ok m∧s.size≤65536∧c m= .ok (n,r)∧(readV c s).1=n∧checkErr n≠3∧wfB n=true:=by
 unfold readV at h ⊢
 rcases qjo s with ⟨m,e,hg,hl,ht,hs⟩ | ⟨e,_⟩
 ·rw [e,if_pos rfl] at h ⊢
  have q:=hc m hg hl
  cases hy:c m with
  | error u=>simp only [hy] at h;exact absurd h (by simp [finV])
  | ok y=>
    simp only [hy] at h q ⊢
    have h':(limV y.1).2.1=0:=h
    have hne:checkErr y.1≠3:=fun e3=>by
     unfold limV at h'
     rw [if_pos e3] at h'
     exact absurd h' (by decide)
    refine ⟨m,y.1,y.2,hg,hl,ht,hs,hy,?_,hne,q.2.2⟩
    show (limV y.1).1=y.1
    unfold limV
    rw [if_neg hne]
 rw [if_neg e] at h
 exact absurd h e
theorem qyt {n:Node} (h:firstErr n=0) (h3:checkErr n≠3):checkErr n=0:=by
 unfold checkErr at h3 ⊢
 cases hs:size? n 60 with
 | none=>rw [hs] at h3;exact absurd rfl h3
 | some k=>
   rw [hs] at h3
   simp only at h3 ⊢
   by_cases hk:k≤4000
   ·rw [if_pos hk];exact h
   rw [if_neg hk] at h3;exact absurd rfl h3
theorem q8c {m:List Token} (h:Good m) (hl:m.length≤65537):Gd m:=⟨h,by omega⟩
theorem q4y {x:Token} {r:List Token} (h:Good (x::r)) (h4:x.Kind=4):r= []∧x.Text=⟨#[]⟩:=by
 rcases h.2 with ⟨h1,_,h2⟩ | ⟨h1,_⟩
 ·exact ⟨h1,h2⟩
 exact absurd h4 h1
theorem q67 {m:List Token} {n:Node} {r:List Token} (hg:Good m) (hl:m.length≤65537) (h:fileR m= .ok (n,r)):WF n m:=by
 have q:=qy2 (mu (.file []) m.length) (.file []) m (q8c hg hl) trivial
 unfold fileR qzt at h
 rw [h] at q
 obtain ⟨T,h1,h2,ks',y,q',h3,h4,hn,hv,kl⟩:=q
 simp only at h1 h2 h3 hn
 rw [h3] at h1 h2
 obtain ⟨h5,h6⟩:=q4y h2.1 h4
 rw [hn,h1,h5]
 exact q9u kl h6 hv
theorem q0b:∀(T:List Token),∀x∈T,x.Lead.size≤(qhv T).length∧x.Text.size≤(qhv T).length
 | [],x,h=>by cases h
 | y::T,x,h=>by
   have e:qhv (y::T)=(L y.Lead++L y.Text)++qhv T:=rfl
   rw [e,Ad,Ad,Y5,Y5]
   rcases AE.1 h with e | h
   ·rw [e];omega
   have:=q0b T x h;omega
theorem q9q (l:List UInt8):qxl (L e0) l:=fun c _=>⟨fun e=>absurd e.1 (by decide),fun e=>absurd e.1 (by decide),fun e=>absurd e.1 (by decide)⟩
theorem q1v {s:BA} {m:List Token} (ht:qdj s.size (s.size+1) (L s)= .ok m):qhv m=L s∧Adj e0 m:=by
 have h:=qvo s.size (s.size+1) (L s) m ht (by rw [Y5];omega)
 exact ⟨h.1,h.2 e0 (q9q _)⟩
theorem q1p {s:BA} {m:List Token} (ht:qdj s.size (s.size+1) (L s)= .ok m) (hs:s.size≤65536):m.length≤s.size+1:=by
 have:=(qjk s.size (s.size+1) (L s) m ht (by rw [Y5];omega) (by rw [Y5];omega)).2
 rw [Y5] at this
 exact this
end Ps
end Go.Proofs.YtpnkemogepoioaaGreatDoorW.Ex.Gr
