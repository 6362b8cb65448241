/- The reference's reader returns what is read in plain words. Conditions: those in each theorem. -/
import Derived.Test.YtpnkemogepoioaaGreatDoorAF
namespace Go.Proofs.YtpnkemogepoioaaGreatDoorW.Ex.Gr
open Go Go.Proofs.YtpnkemogepoioaaGreatDoorW.Ex Go.Proofs.YtpnkemogepoioaaGreatDoorW.Plain
set_option linter.all false
set_option maxRecDepth 100000
namespace Ps
open Tk
def idx (tk t:List Token):Int:=((tk.length - t.length:Nat):Int)
@[reducible] def cw {α β:Type} (tk:List Token) (d:β) (f:α→β):Rs α→β × Int × Bool
  | .error u=>(d,idx tk u,false)
  | .ok y=>(f y.1,idx tk y.2,true)
abbrev cr (tk:List Token):Rs Node→Node × Int × Bool:=cw tk zN fun n=>n
abbrev cg (tk:List Token):Rs LB→LB × Int × Bool:=cw tk ([]:LB) fun n=>n
theorem bF {α β γ δ:Type} {tk t:List Token} {d:γ} {f:α→γ} {d':δ} {g:β→δ} {y:Rs α} {z:α→List Token→Rs β} {P:α→List Token→Prop} {x:Option (γ × Int × Bool)} {k:γ × Int × Bool→Option (δ × Int × Bool)}
 (h:x=some (cw tk d f y)) (hQ:Q t P y) (hk:∀n r,r <:+t→Good r→P n r→k (f n,idx tk r,true)=some (cw tk d' g (z n r))):
 (x >>=fun v=>if (!v.2.2)=true then some (d',v.2.1,false) else k v)=some (cw tk d' g (bR y z)):=by
 subst h
 cases y with
 | error u=>rfl
 | ok y=>exact hk y.1 y.2 hQ.1 hQ.2.1 hQ.2.2
section
variable {tk:List Token}
theorem i_ix {x:Token} {r:List Token} (h:(x::r) <:+tk):ix tk (idx tk (x::r))=some x:=qwg h
theorem uo {x:Token} {r:List Token} (h:(x::r) <:+tk) (hn:tk.length≤70000):IntKind.i64.wrap (idx tk (x::r)+(1:Int))=idx tk r:=congrArg Reader.at_ (qm5 h hn)
theorem R_is {t:List Token} (h:t <:+tk) (hg:Good t) (w:BA):yg tk (idx tk t) w=some (isT w t):=by
 cases t with
 | nil=>exact hg.elim
 | cons x r=>unfold yg;rw [i_ix h,bs];rfl
theorem qsr {t:List Token} (h:t <:+tk) (hg:Good t):qac tk (idx tk t)=some (nmT t):=by
 cases t with
 | nil=>exact hg.elim
 | cons x r=>
   unfold qac
   rw [q2d,i_ix h,bs]
   by_cases hx:x.Kind=1
   ·rw [if_pos (decide_eq_true hx),bs,decide_eq_true hx]
    unfold qmr
    rw [bs,Bh]
   rw [if_neg (by rw [decide_eq_true_eq];exact hx),decide_eq_false hx,BM]
def qbl:List BA→LB→List Token→Rs LB
 | [],acc,t=> .ok (acc,t)
 | w::ws,acc,t=>if decide (w=⟨#[]⟩)=true then bR (tkN t) fun a t=>qbl ws (acc++ [a.2]) t else bR (tkT w t) fun g t=>qbl ws (acc++ [g]) t
theorem qmn (hn:tk.length≤70000) (want:LB):∀(l pre:List BA) (acc:LB) (t:List Token),want=pre++l→want.length≤100→acc.length+l.length≤100→t <:+tk→Good t→wt tk (idx tk t) want acc (pre.length:Int)=some (cg tk (qbl l acc t))
 | [],pre,acc,t,hw,hl,ha,h,hg=>by
   rw [wt]
   rw [if_neg (by rw [Av,hw,Bs,decide_eq_true_eq];omega)]
   rfl
 | w :: ws,pre,acc,t,hw,hl,ha,h,hg=>by
   have hlen:pre.length < want.length:=by rw [hw,Ad,Af];omega
   have hix:ix want (pre.length:Int)=some w:=by rw [hw,qr3,Bx (Ak _),B3];rfl
   rw [wt]
   simp only [nx]
   rw [if_pos (by rw [Av,decide_eq_true_eq];omega),hix,bs,bs,bs,qsr h hg,bs]
   have next:IntKind.i64.wrap ((pre.length:Int)+1)=((pre++ [w]).length:Int):=by rw [js (by omega) (by omega),Ad,Ae];omega
   rw [Af] at ha
   cases t with
   | nil=>exact hg.elim
   | cons x r=>
     have sr:r <:+x::r:=AB x r
     by_cases hw0:w=⟨#[]⟩
     ·rw [show qbl (w::ws) acc (x::r)=bR (tkN (x::r)) fun a t=>qbl ws (acc++ [a.2]) t from if_pos (decide_eq_true hw0),if_pos (decide_eq_true hw0)]
      cases hm:nmT (x::r) with
      | false=>
        rw [qjq hm];rfl
      | true=>
        rw [qjr hm,if_neg (by decide),decide_eq_true hw0,if_neg (by decide),i_ix h,bs,yw (by rw [Ae];omega) (by decide),bs,uo h hn,next]
        exact qmn hn want ws (pre++ [w]) (acc++ [x.Lead]) r (by rw [hw,AJ];rfl) hl (by rw [Ad,Ae];omega) (sr.trans h) (qim hm hg)
     rw [show qbl (w::ws) acc (x::r)=bR (tkT w (x::r)) fun g t=>qbl ws (acc++ [g]) t from if_neg (by rw [decide_eq_true_eq];exact hw0),if_neg (by rw [decide_eq_true_eq];exact hw0),decide_eq_false hw0,if_pos (by decide),R_is h hg w,bs]
     cases hm:isT w (x::r) with
     | false=>
       rw [qaz hm];rfl
     | true=>
       rw [Zk hm,if_neg (by decide),i_ix h,bs,yw (by rw [Ae];omega) (by decide),bs,uo h hn,next]
       exact qmn hn want ws (pre++ [w]) (acc++ [x.Lead]) r (by rw [hw,AJ];rfl) hl (by rw [Ad,Ae];omega) (sr.trans h) (Zg hm hg hw0)
theorem qqr (hn:tk.length≤70000) (want:LB) {t:List Token} (hl:want.length≤100) (h:t <:+tk) (hg:Good t):vd tk (idx tk t) want=some (cg tk (qbl want [] t)):=by
 unfold vd
 exact qmn hn want want [] [] t rfl hl (by simp;omega) h hg
theorem q25 (hn:tk.length≤70000) {t:List Token} (h:t <:+tk) (hg:Good t):qa6 tk (idx tk t)=some (cw tk zN (fun a=>Node.mk 5 a.1 [a.2] []) (tkN t)):=by
 cases t with
 | nil=>exact hg.elim
 | cons x r=>
   unfold qa6
   rw [qsr h hg,bs]
   cases hm:nmT (x::r) with
   | false=>rw [qjq hm];rfl
   | true=>rw [qjr hm,if_neg (by decide),i_ix h,bs,bs,uo h hn]
theorem q9f (w:BA):qfy w=some (Y8 w):=by
 unfold qfy Y8
 simp only [decide_eq_true_eq]
 repeat' split
 all_goals first | rfl | simp_all
theorem qwh {r:List Token} {d:Int} (k:Nat) {y:Token} {q:List Token} (h:(y::q) <:+tk) (hr:r <:+q) (hk:q.length+1=r.length+k) (hn:tk.length≤70000) (hd:d=(k:Int)):ix tk (IntKind.i64.wrap (idx tk r - d))=some y:=by
 subst hd
 have h1:=w4 h
 rw [Af] at h1
 have h2:=w4 hr
 unfold idx
 rw [js (by omega) (by omega),show ((tk.length - r.length:Nat):Int) - (k:Int)=((tk.length - (y::q).length:Nat):Int) by rw [Af];omega]
 exact qwg h
variable {B C:List Token→Rs Node}
def qmo (tk t:List Token) (F:Int→Option (Node × Int × Bool)) (B:List Token→Rs Node):Prop:=∀t',t' <:+t→Good t'→F (idx tk t')=some (cr tk (B t'))
theorem zaj {w:BA} (hw:w≠⟨#[]⟩) (t:List Token):qbl [w,⟨#[]⟩,⟨#[61]⟩] [] t=bR (tkT w t) fun g1 t=>bR (tkN t) fun a t=>bR (tkT ⟨#[61]⟩ t) fun g3 t=> .ok ([g1,a.2,g3],t):=by
 simp only [qbl]
 rw [if_neg (by rw [decide_eq_true_eq];exact hw)]
 rfl
theorem qk3 (hn:tk.length≤70000) (k:Int) (x:BA) {g:LB} (ks:LN) {t:List Token} (h:t <:+tk) (hg:Good t) (hB:Rd B) (hF:qmo tk t (fun i=>yd tk i 1) B) (hl1:g.length≤100) (hl2:ks.length≤100):
 K1 tk (idx tk t) k x g ks=some (cr tk (bR (B t) fun n t=>bR (tkT ⟨#[59]⟩ t) fun g4 t=> .ok (.mk k x (g++ [g4]) (ks++ [n]),t)))∧qao tk (idx tk t) k x g ks=some (cr tk (bR (B t) fun n t=>bR (tkT ⟨#[59]⟩ t) fun g4 t=> .ok (.mk k x (g++ [g4]) (ks++ [n]),t))):=by
 have hl:=w4 h
 have step:∀n r,r <:+t→Good r→(yg tk (idx tk r) ⟨#[59]⟩ >>=fun x2=>if (!x2)=true then some (zN,idx tk r,false) else app 72 ks [n] >>=fun x3=>ix tk (idx tk r) >>=fun x4=>app 16 g [x4.Lead] >>=fun x5=>some (Node.mk k x x5 x3,IntKind.i64.wrap (idx tk r+1),true))=some (cr tk (bR (tkT ⟨#[59]⟩ r) fun g4 t=> .ok (.mk k x (g++ [g4]) (ks++ [n]),t))):=fun n r s o=>by
  rw [R_is (s.trans h) o,bs]
  cases r with
  | nil=>exact o.elim
  | cons y q=>
    cases hm:isT ⟨#[59]⟩ (y::q) with
    | false=>rw [qaz hm];rfl
    | true=>rw [Zk hm,if_neg (by decide),yw (by rw [Ae];omega) (by decide),bs,i_ix (s.trans h),bs,yw (by rw [Ae];omega) (by decide),bs,uo (s.trans h) hn];rfl
 constructor
 ·unfold K1
  exact bF (hF t (AY _) hg) (hB t hg (by omega)) fun n r s o _=>step n r s o
 unfold qao
 exact bF (hF t (AY _) hg) (hB t hg (by omega)) fun n r s o _=>step n r s o
theorem q27 (hn:tk.length≤70000) (k:Int) {w:BA} (hw:w≠⟨#[]⟩) {t:List Token} (h:t <:+tk) (hg:Good t) (hB:Rd B) (hF:qmo tk t (fun i=>yd tk i 1) B):Z8 tk (idx tk t) k [w,⟨#[]⟩,⟨#[61]⟩]=some (cr tk (qfd B k w t)):=by
 unfold Z8
 rw [qqr hn _ (by simp) h hg,zaj hw]
 unfold qfd
 cases t with
 | nil=>exact hg.elim
 | cons x1 r1=>
 cases m1:isT w (x1::r1) with
 | false=>rw [qaz m1];rfl
 | true=>
 rw [Zk m1]
 have o1:=Zg m1 hg hw
 have s1:r1 <:+x1::r1:=AB _ _
 cases r1 with
 | nil=>exact o1.elim
 | cons x2 r2=>
 simp only [bR_o]
 cases m2:nmT (x2::r2) with
 | false=>rw [qjq m2];rfl
 | true=>
 rw [qjr m2]
 have o2:=qim m2 o1
 have s2:r2 <:+x2::r2:=AB _ _
 cases r2 with
 | nil=>exact o2.elim
 | cons x3 r3=>
 simp only [bR_o]
 cases m3:isT ⟨#[61]⟩ (x3::r3) with
 | false=>rw [qaz m3];rfl
 | true=>
 rw [Zk m3]
 have o3:=Zg m3 o2 (by decide)
 have s3:r3 <:+x3::r3:=AB _ _
 have z3:=(s3.trans s2).trans s1
 simp only [bR_o]
 show (ix tk (IntKind.i64.wrap (idx tk r3 - (2:Int))) >>=_)=_
 rw [qwh (d:=2) 2 (s1.trans h) s3 (by rw [Af]) hn rfl,bs,b3]
 exact (qk3 hn k x2.Text ([]:LN) (z3.trans h) o3 hB (fun t' s o=>hF t' (s.trans z3) o) (by simp) (by simp)).1
theorem zb1 (hn:tk.length≤70000) {t:List Token} (h:t <:+tk) (hg:Good t) (hB:Rd B) (hF:qmo tk t (fun i=>yd tk i 1) B):Z8 tk (idx tk t) 11 [⟨#[]⟩,⟨#[61]⟩]=some (cr tk (setP B t)):=by
 unfold Z8
 rw [qqr hn _ (by simp) h hg,show qbl [⟨#[]⟩,⟨#[61]⟩] [] t=bR (tkN t) fun a t=>bR (tkT ⟨#[61]⟩ t) fun g3 t=> .ok ([a.2,g3],t) from rfl]
 unfold setP
 cases t with
 | nil=>exact hg.elim
 | cons x2 r2=>
 cases m2:nmT (x2::r2) with
 | false=>rw [qjq m2];rfl
 | true=>
 rw [qjr m2]
 have o2:=qim m2 hg
 have s2:r2 <:+x2::r2:=AB _ _
 cases r2 with
 | nil=>exact o2.elim
 | cons x3 r3=>
 simp only [bR_o]
 cases m3:isT ⟨#[61]⟩ (x3::r3) with
 | false=>rw [qaz m3];rfl
 | true=>
 rw [Zk m3]
 have o3:=Zg m3 o2 (by decide)
 have s3:r3 <:+x3::r3:=AB _ _
 have z3:=s3.trans s2
 simp only [bR_o]
 show (ix tk (IntKind.i64.wrap (idx tk r3 - (2:Int))) >>=_)=_
 rw [qwh (d:=2) 2 h s3 (by rw [Af]) hn rfl,bs,b3]
 exact (qk3 hn 11 x2.Text ([]:LN) (z3.trans h) o3 hB (fun t' s o=>hF t' (s.trans z3) o) (by simp) (by simp)).1
theorem q7v (hn:tk.length≤70000) (k:Int) {t:List Token} (h:t <:+tk) (hg:Good t) (g:BA) (hB:Rd B) (hC:Rd C) (hF:qmo tk t (fun i=>yd tk i 1) B) (hK:qmo tk t (Qc tk) C):
 Jd tk (idx tk t) k ⟨#[]⟩ [g] []=some (cr tk (bR (B t) fun n t=>bR (C t) fun c t=> .ok (.mk k ⟨#[]⟩ [g] [n,c],t))):=by
 have hl:=w4 h
 rw [Jd]
 simp only [nx]
 refine bF (hF t (AY _) hg) (hB t hg (by omega)) fun n r s o p=> ?_
 refine bF (hK r s o) (hC r o (by omega)) fun c r2 s2 o2 p2=> ?_
 rw [yw (by simp) (by decide),bs,yw (by simp) (by decide),bs]
 rfl
theorem zbb {t:List Token} (h:t <:+tk) (hn:tk.length≤70000) (hg:Good t) (hB:Rd B) (hC:Rd C) (hF:qmo tk t (fun i=>yd tk i 1) B) (hK:qmo tk t (Qc tk) C):Zb tk (idx tk t)=some (cr tk (qq9 B C t)):=by
 have hl:=w4 h
 rw [Zb]
 simp only [nx]
 unfold qq9
 rw [R_is h hg,bs]
 by_cases c1:isT ⟨#[108,101,116]⟩ t=true
 ·rw [if_pos c1,if_pos c1,b3]
  exact q27 hn 10 (by decide) h hg hB hF
 rw [if_neg c1,if_neg c1,R_is h hg,bs]
 cases t with
 | nil=>exact hg.elim
 | cons x r=>
 have sr:r <:+x::r:=AB x r
 rw [Af] at hl
 by_cases c2:isT ⟨#[114,101,116,117,114,110]⟩ (x::r)=true
 ·have o:=Zg c2 hg (by decide)
  rw [if_pos c2,if_pos c2,i_ix h,bs,uo h hn,b3]
  unfold retP
  rw [Zk c2]
  exact (qk3 hn 12 ⟨#[]⟩ [] (sr.trans h) o hB (fun t' s o=>hF t' (s.trans sr) o) (by simp) (by simp)).2
 rw [if_neg c2,if_neg c2,R_is h hg,bs]
 by_cases c3:isT ⟨#[105,102]⟩ (x::r)=true
 ·have o := Zg c3 hg (by decide)
  rw [if_pos c3,if_pos c3,b3,qdy]
  simp only [nx]
  rw [i_ix h,bs,uo h hn,q7v hn 13 (sr.trans h) o x.Lead hB hC (fun t' s o=>hF t' (s.trans sr) o) (fun t' s o=>hK t' (s.trans sr) o)]
  unfold ifP
  rw [Zk c3,bR_o]
  have q:=hB r o (by omega)
  cases e1:B r with
  | error u=>rfl
  | ok y =>
    rw [e1] at q
    obtain ⟨s1,o1,p1⟩:=q
    have q2:=hC y.2 o1 (by omega)
    rw [bR_k,bR_k]
    cases e2:C y.2 with
    | error u=>rfl
    | ok w =>
      rw [e2] at q2
      obtain ⟨s2,o2,p2⟩:=q2
      have z2:=(s2.trans s1).trans sr
      have zh:=z2.trans h
      rw [bR_k,bR_k]
      show (yg tk (idx tk w.2) ⟨#[101,108,115,101]⟩ >>=_)=some (cr tk (bR (qu6 C w.2) _))
      rw [R_is zh o2,bs]
      unfold qu6
      obtain ⟨w1,w2⟩:=w
      simp only at o2 z2 zh s2 p2 ⊢
      by_cases c4:isT ⟨#[101,108,115,101]⟩ w2=true
      ·rw [if_pos c4,if_pos c4]
       cases w2 with
       | nil=>exact o2.elim
       | cons y5 r5=>
         have o5:=Zg c4 o2 (by decide)
         have z5:=(AB y5 r5).trans z2
         rw [i_ix zh,bs,yw (by simp) (by decide),bs,uo zh hn,Zk c4,bR_o,hK r5 z5 o5]
         cases C r5 with
         | error u=>rfl
         | ok w=>
           rw [bs]
           show (if (!true)=true then _ else app 72 [] [w.1] >>=_)=_
           rw [if_neg (by decide),yw (by simp) (by decide),bs]
           unfold J5
           show (app 72 [y.1,w1] _ >>=_)=_
           rw [yw (by simp) (by decide),bs]
           rfl
      rw [if_neg c4,if_neg c4]
      unfold J5
      show (app 72 [y.1,w1] _ >>=_)=_
      rw [yw (by simp) (by decide),bs]
      rfl
 rw [if_neg c3,if_neg c3,R_is h hg,bs]
 by_cases c5:isT ⟨#[119,104,105,108,101]⟩ (x::r)=true
 ·have o:=Zg c5 hg (by decide)
  rw [if_pos c5,if_pos c5,i_ix h,bs,uo h hn,q7v hn 15 (sr.trans h) o x.Lead hB hC (fun t' s o=>hF t' (s.trans sr) o) (fun t' s o=>hK t' (s.trans sr) o)]
  unfold qq2
  rw [Zk c5,bR_o]
  cases B r with
  | error u=>rfl
  | ok y=>
    rw [bR_k]
    cases C y.2 with
    | error u=>rfl
    | ok w=>rfl
 rw [if_neg c5,if_neg c5,qsr h hg,bs]
 have hdo:Qy tk (idx tk (x::r))=some (cr tk (doP B (x::r))):=by
  unfold Qy
  rw [b3]
  exact (qk3 hn 16 ⟨#[]⟩ [] h hg hB hF (by simp) (by simp)).1
 cases hm:nmT (x::r) with
 | false=>
   rw [if_neg (by decide),BM,if_neg (by decide),hdo]
 | true=>
   have o:=qim hm hg
   rw [if_pos rfl,uo h hn,R_is (sr.trans h) o,bs,Bh]
   show _=some (cr tk (if isT ⟨#[61]⟩ r=true then setP B (x::r) else doP B (x::r)))
   by_cases c6:isT ⟨#[61]⟩ r=true
   ·rw [if_pos c6,if_pos c6,b3]
    exact zb1 hn h hg hB hF
   rw [if_neg c6,if_neg c6,hdo]
theorem zak (w:BA) (hw:w≠⟨#[]⟩) (t:List Token):qbl [w,⟨#[]⟩] [] t=bR (tkT w t) fun g1 t=>bR (tkN t) fun a t=> .ok ([g1,a.2],t):=by
 simp only [qbl]
 rw [if_neg (by rw [decide_eq_true_eq];exact hw)]
 rfl
theorem q26 (hn:tk.length≤70000) {w:BA} (hw:w≠⟨#[]⟩) {t:List Token} (h:t <:+tk) (hg:Good t) {δ:Type} {d:δ} {β:Type} {gc:β→δ} (K:LB × Int × Bool→Token→Option (δ × Int × Bool)) (z:BA→BA × BA→List Token→Rs β)
 (hK:∀g a r,r <:+t→Good r→r.length+2=t.length→Yi g→Yi a.1→Yi a.2→∀y:Token,y.Text=a.1→K ([g,a.2],idx tk r,true) y=some (cw tk d gc (z g a r))):
 (vd tk (idx tk t) [w,⟨#[]⟩] >>=fun v=>if (!v.2.2)=true then some (d,v.2.1,false) else ix tk (IntKind.i64.wrap (v.2.1 - (1:Int))) >>=fun y=>K v y)=some (cw tk d gc (bR (tkT w t) fun g1 t=>bR (tkN t) fun a t=>z g1 a t)):=by
 rw [qqr hn _ (by simp) h hg,zak w hw]
 cases t with
 | nil=>exact hg.elim
 | cons x1 r1=>
 cases m1:isT w (x1::r1) with
 | false=>rw [qaz m1];rfl
 | true=>
 rw [Zk m1]
 have o1:=Zg m1 hg hw
 have s1:r1 <:+x1::r1:=AB _ _
 cases r1 with
 | nil=>exact o1.elim
 | cons x2 r2=>
 simp only [bR_o]
 cases m2:nmT (x2::r2) with
 | false=>rw [qjq m2];rfl
 | true=>
 rw [qjr m2]
 have o2:=qim m2 o1
 have s2:r2 <:+x2::r2:=AB _ _
 simp only [bR_o]
 show (ix tk (IntKind.i64.wrap (idx tk r2 - (1:Int))) >>=_)=_
 rw [qwh (d:=1) 1 (s1.trans h) (AY r2) rfl hn rfl,bs]
 exact hK x1.Lead (x2.Text,x2.Lead) r2 (s2.trans s1) o2 rfl hg.1.1 o1.1.2.1 o1.1.1 x2 rfl
def RP (tk:List Token) (f:Nat):Cat→List Token→Prop
 | .bin v,t=>yd tk (idx tk t) v=some (cr tk (S f (.bin v) t))
 | .binL v m,t=>Qd tk v (idx tk t) m=some (cr tk (S f (.binL v m) t))
 | .un,t=>Ym tk (idx tk t)=some (cr tk (S f .un t))
 | .unL m,t=>wl tk (idx tk t) true m=some (cr tk (S f (.unL m) t))
 | .prim,t=>Kp tk (idx tk t)=some (cr tk (S f .prim t))
 | .args k x g ks,t=>Qz tk (idx tk t) k x g ks=some (cr tk (S f (.args k x g ks) t))∧uv tk (idx tk t) k x g ks=some (cr tk (S f (.args k x g ks) t))
 | .argL b k x g ks,t=>wz tk (idx tk t) b k x g ks=some (cr tk (S f (.argL b k x g ks) t))∧wy tk (idx tk t) b k x g ks=some (cr tk (S f (.argL b k x g ks) t))
 | .stmt,t=>Zb tk (idx tk t)=some (cr tk (S f .stmt t))
 | .blk,t=>Qc tk (idx tk t)=some (cr tk (S f .blk t))
 | .blkL g ks,t=>Q4 tk (idx tk t) 6 ⟨#[]⟩ g ks=some (cr tk (S f (.blkL g ks) t))
 | .parL g ks,t=>Qb tk (idx tk t) 3 ⟨#[]⟩ g ks=some (cr tk (S f (.parL g ks) t))
 | .func,t=>Yn tk (idx tk t)=some (cr tk (S f .func t))
 | .clsL x g ks,t=>Je tk (idx tk t) 7 x g ks=some (cr tk (S f (.clsL x g ks) t))
 | .cls,t=>qdb tk (idx tk t)=some (cr tk (S f .cls t))
 | .file ks,t=>True
theorem q28 (hn:tk.length≤70000):∀(f:Nat) (c:Cat) (t:List Token),mu c t.length≤f→t <:+tk→Good t→pre c t.length→RP tk f c t
 | 0,c,t,hm,_,hg,_=>by
   have:=qih hg
   cases c <;> (unfold mu at hm;simp only at hm;omega)
 | f + 1, c, t,hm,h,hg,hp=>by
   have ih:=q28 hn f
   have hl:=w4 h
   have hpos:=qih hg
   have hB:∀v:Int,1≤v→v≤6→Rd (S f (.bin v)):=fun v h1 h6 t hg hl=>S_ok f (.bin v) t hg ⟨hl,h1,h6⟩
   have hB1:=hB 1 (by decide) (by decide)
   have hU:Rd (S f .un):=fun t hg hl=>S_ok f .un t hg hl
   have hC:Rd (S f .blk):=fun t hg hl=>S_ok f .blk t hg hl
   have hT:Rd (S f .stmt):=fun t hg hl=>S_ok f .stmt t hg hl
   have hF:Rd (S f .func):=fun t hg hl=>S_ok f .func t hg hl
   have eB:∀(v:Int) (t':List Token),1≤v→v≤6→20*t'.length+(10 - v).toNat≤f→t' <:+t→Good t'→yd tk (idx tk t') v=some (cr tk (S f (.bin v) t')):=fun v t' h1 h6 hm' hs hg'=>ih (.bin v) t' hm' (hs.trans h) hg' ⟨by have:=w4 hs;omega,h1,h6⟩
   cases c with
   | bin v=>
     obtain ⟨hl',h1,h6⟩:=hp
     unfold mu at hm;simp only at hm
     show yd tk (idx tk t) v=_
     rw [yd]
     simp only [nx]
     simp only [S]
     by_cases h5:5 < v
     ·rw [if_pos (decide_eq_true h5),if_pos (decide_eq_true h5),b3]
      exact ih .un t (by unfold mu;simp only;omega) h hg hl'
     rw [if_neg (by rw [decide_eq_true_eq];exact h5),if_neg (by rw [decide_eq_true_eq];exact h5),js (by omega) (by omega)]
     refine bF (eB (v+1) t (by omega) (by omega) (by omega) (AY _) hg) (hB (v+1) (by omega) (by omega) t hg hl') fun n r s o p=> ?_
     exact ih (.binL v n) r (by unfold mu;simp only;omega) (s.trans h) o ⟨by omega,h1,by omega,p.1⟩
   | binL v m=>
     obtain ⟨hl',h1,h5,hm'⟩:=hp
     unfold mu at hm;simp only at hm
     show Qd tk v (idx tk t) m=_
     rw [Qd]
     simp only [nx]
     cases t with
     | nil=>exact hg.elim
     | cons x r=>
       rw [i_ix h,bs,q9f,bs]
       simp only [S,binP]
       by_cases hx:Y8 x.Text=v
       ·have hr:Good r:=W2 hg (by
         rintro h0
         rw [h0] at hx
         rw [show Y8 ⟨#[]⟩=0 from by decide] at hx
         omega)
        rw [Af] at hl' hm hl
        have sr:r <:+x::r:=AB x r
        rw [if_pos (decide_eq_true hx),if_pos (decide_eq_true hx),bs,bs,uo h hn,js (by omega) (by omega)]
        refine bF (eB (v+1) r (by omega) (by omega) (by omega) sr hr) (hB (v+1) (by omega) (by omega) r hr (by omega)) fun n q s o p=> ?_
        rw [yw (by simp) (by decide),bs,yw (by simp) (by decide),bs]
        have hw:wfB (.mk 24 x.Text [x.Lead] [m,n])=true:=Q0 24 (by simp) (by simp) hg.1.2.1 (jg hg.1.1 yt) (wv hm' (wv p.1 kc))
        by_cases h3:v=3
        ·rw [if_pos (decide_eq_true h3),if_pos (decide_eq_true h3)]
         unfold Y3
         rfl
        rw [if_neg (by rw [decide_eq_true_eq];exact h3),if_neg (by rw [decide_eq_true_eq];exact h3)]
        exact ih (.binL v (.mk 24 x.Text [x.Lead] [m,n])) q (by unfold mu;simp only;omega) ((s.trans sr).trans h) o ⟨by omega,h1,h5,hw⟩
       rw [if_neg (by rw [decide_eq_true_eq];exact hx),if_neg (by rw [decide_eq_true_eq];exact hx)]
       unfold Y3
       rfl
   | un =>
     have hl':t.length≤70000:=hp
     unfold mu at hm;simp only at hm
     show Ym tk (idx tk t)=_
     rw [Ym]
     simp only [nx]
     cases t with
     | nil=>exact hg.elim
     | cons x r=>
       have sr:r <:+x::r:=AB x r
       simp only [S,unP]
       rw [Af] at hl' hm hl
       rw [R_is h hg,bs]
       by_cases c1:isT ⟨#[45]⟩ (x::r)=true
       ·have hr:Good r:=Zg c1 hg (by decide)
        rw [if_pos c1,if_pos c1,uo h hn]
        refine bF (ih .un r (by unfold mu;simp only;omega) (sr.trans h) hr (by show r.length≤70000;omega)) (hU r hr (by omega)) fun n q s o p=> ?_
        rw [i_ix h,bs,bs,yw (by simp) (by decide),bs]
        rfl
       rw [if_neg c1,if_neg c1,R_is h hg,bs]
       by_cases c2:isT ⟨#[33]⟩ (x::r)=true
       ·have hr:Good r:=Zg c2 hg (by decide)
        rw [if_pos c2,if_pos c2,uo h hn]
        refine bF (ih .un r (by unfold mu;simp only;omega) (sr.trans h) hr (by show r.length≤70000;omega)) (hU r hr (by omega)) fun n q s o p=> ?_
        rw [i_ix h,bs,bs,yw (by simp) (by decide),bs]
        rfl
       rw [if_neg c2,if_neg c2]
       have hl2:(x::r).length≤70000:=by rw [Af];omega
       have q:=S_ok f .prim (x::r) hg hl2
       have e1:=ih .prim (x::r) (by unfold mu;simp only [Af];omega) h hg hl2
       unfold RP at e1
       rw [e1]
       cases e:S f .prim (x::r) with
       | error u=>
         show wl tk (idx tk u) false zN=_
         rw [wl]
         rfl
       | ok y=>
         rw [e] at q
         obtain ⟨s,o,p⟩:=q
         have p2:=p.2
         unfold w0 at p2;simp only [Af] at p2
         exact ih (.unL y.1) y.2 (by unfold mu;simp only;omega) (s.trans h) o ⟨by omega,p.1⟩
   | unL m=>
     obtain ⟨hl',hm'⟩:=hp
     unfold mu at hm;simp only at hm
     show wl tk (idx tk t) true m=_
     rw [wl]
     simp only [nx]
     simp only [S,if_true]
     rw [R_is h hg,bs]
     by_cases c1:isT ⟨#[46]⟩ t=true
     ·rw [if_pos c1,if_pos c1]
      simp only [q12]
      refine q26 hn (by decide) h hg (gc:=fun n=>n) (d:=zN) (fun v y=>app 72 ([]:LN) ([m]) >>=fun x40=>uv tk v.2.1 21 y.Text v.1 x40 >>=fun x41=>wl tk x41.2.1 x41.2.2 x41.1) _ ?_
      intro g a r s o hlen hg1 ha1 ha2 y hy
      rw [yw (by simp) (by decide),bs,hy]
      have hpr:pre (.args 21 a.1 [g,a.2] [m]) r.length:=⟨by omega,ha1,by simp only [Af,Ao];omega,by simp only [Af,Ao];omega,jg hg1 (jg ha2 yt),wv hm' kc⟩
      have q:=S_ok f (.args 21 a.1 [g,a.2] [m]) r o hpr
      have e1:=(ih (.args 21 a.1 [g,a.2] [m]) r (by unfold mu;simp only;omega) (s.trans h) o hpr).2
      show (uv tk (idx tk r) 21 a.1 [g,a.2] ([]++ [m]) >>=_)=_
      rw [Be,e1]
      cases e:S f (.args 21 a.1 [g,a.2] [m]) r with
      | error u=>
        show wl tk (idx tk u) false zN=_
        rw [wl]
        rfl
      | ok w=>
        rw [e] at q
        obtain ⟨s2,o2,p⟩:=q
        have p2:=p.2
        unfold w0 at p2;simp only at p2
        exact ih (.unL w.1) w.2 (by unfold mu;simp only;omega) ((s2.trans s).trans h) o2 ⟨by omega,p.1⟩
     rw [if_neg c1,if_neg c1]
     rfl
   | prim =>
     have hl':t.length≤70000:=hp
     unfold mu at hm;simp only at hm
     show Kp tk (idx tk t)=_
     rw [Kp]
     simp only [nx]
     cases t with
     | nil=>exact hg.elim
     | cons x r=>
       have sr:r <:+x::r:=AB x r
       simp only [S,qyj]
       rw [Af] at hl' hm hl
       have hl2:(x::r).length≤70000:=by rw [Af];omega
       rw [i_ix h,bs]
       have isx:∀w:BA,isT w (x::r)=decide (x.Text=w):=fun _=>rfl
       by_cases c0:x.Kind=2
       ·rw [if_pos (decide_eq_true c0),if_pos (decide_eq_true c0),uo h hn]
       have c0':¬decide (x.Kind=2)=true:=by rw [decide_eq_true_eq];exact c0
       rw [if_neg c0',if_neg c0']
       by_cases c1:isT ⟨#[116,114,117,101]⟩ (x::r)=true
       ·rw [if_pos (show decide (x.Text=_)=true from c1),if_pos c1,uo h hn]
       rw [if_neg (show ¬decide (x.Text=_)=true from c1),if_neg c1]
       by_cases c2:isT ⟨#[102,97,108,115,101]⟩ (x::r)=true
       ·rw [if_pos (show decide (x.Text=_)=true from c2),if_pos c2,uo h hn]
       rw [if_neg (show ¬decide (x.Text=_)=true from c2),if_neg c2]
       by_cases c3:isT ⟨#[115,101,108,102]⟩ (x::r)=true
       ·rw [if_pos (show decide (x.Text=_)=true from c3),if_pos c3,uo h hn]
       rw [if_neg (show ¬decide (x.Text=_)=true from c3),if_neg c3]
       by_cases c4:isT ⟨#[110,101,119]⟩ (x::r)=true
       ·rw [if_pos (show decide (x.Text=_)=true from c4),if_pos c4,qqr hn _ (by simp) h hg]
        unfold newP
        rw [show qbl [⟨#[110,101,119]⟩,⟨#[]⟩,⟨#[40]⟩,⟨#[41]⟩] [] (x::r)=bR (tkT ⟨#[110,101,119]⟩ (x::r)) fun g1 t=>bR (tkN t) fun a t=>bR (tkT ⟨#[40]⟩ t) fun g3 t=>bR (tkT ⟨#[41]⟩ t) fun g4 t=> .ok ([g1,a.2,g3,g4],t) from rfl]
        rw [Zk c4,bR_o,bR_o]
        have o1:=Zg c4 hg (by decide)
        cases r with
        | nil=>exact o1.elim
        | cons x2 r2=>
        have s2:r2 <:+x2::r2:=AB _ _
        cases m2:nmT (x2::r2) with
        | false=>rw [qjq m2];rfl
        | true=>
        rw [qjr m2]
        simp only [bR_o]
        cases tkT ⟨#[40]⟩ r2 with
        | error u=>rfl
        | ok y=>
          rw [bR_k,bR_k]
          cases tkT ⟨#[41]⟩ y.2 with
          | error u=>rfl
          | ok w=>
            show (ix tk (IntKind.i64.wrap (idx tk (x::x2::r2)+1)) >>=_)=_
            rw [uo h hn,i_ix (sr.trans h),bs]
            rfl
       rw [if_neg (show ¬decide (x.Text=_)=true from c4),if_neg c4]
       by_cases c5:isT ⟨#[40]⟩ (x::r)=true
       ·rw [if_pos (show decide (x.Text=_)=true from c5),if_pos c5,uo h hn]
        unfold parP
        rw [Zk c5,bR_o]
        have o1:=Zg c5 hg (by decide)
        refine bF (eB 1 r (by decide) (by decide) (by omega) sr o1) (hB1 r o1 (by omega)) fun n r4 s4 o4 h4=> ?_
        have zh:=(s4.trans sr).trans h
        show (yg tk (idx tk r4) ⟨#[41]⟩ >>=_)=_
        rw [R_is zh o4,bs]
        cases r4 with
        | nil=>exact o4.elim
        | cons y q=>
          cases m6:isT ⟨#[41]⟩ (y::q) with
          | false=>rw [qaz m6];rfl
          | true=>
            rw [Zk m6,if_neg (by decide),i_ix zh,bs,yw (by simp) (by decide),bs,uo zh hn]
            rfl
       rw [if_neg (show ¬decide (x.Text=_)=true from c5),if_neg c5,qsr h hg,bs]
       unfold qze
       cases m6:nmT (x::r) with
       | false=>rw [qjq m6];rfl
       | true=>
         have o1:=qim m6 hg
         rw [qjr m6,if_neg (by decide),uo h hn,R_is (sr.trans h) o1,bs]
         simp only [bR_o]
         by_cases c6:isT ⟨#[40]⟩ r=true
         ·rw [if_pos c6,if_pos c6,b3]
          exact (ih (.args 20 x.Text [x.Lead] []) r (by unfold mu;simp only;omega) (sr.trans h) o1 ⟨by omega,hg.1.2.1,by simp only [Af,Ao];omega,by simp only [Ao];omega,jg hg.1.1 yt,kc⟩).1
         rw [if_neg c6,if_neg c6]
   | args k x g ks=>
     obtain ⟨hl',hx,hr⟩:=hp
     unfold mu at hm;simp only at hm
     have hr1:=hr.1
     have hr2:=hr.2.1
     cases t with
     | nil=>exact hg.elim
     | cons y q=>
       have sr:q <:+y::q:=AB y q
       rw [Af] at hl' hm hl hr1 hr2
       unfold RP;simp only [S]
       cases m1:isT ⟨#[40]⟩ (y::q) with
       | false=>
         rw [qaz m1]
         refine ⟨?_,?_⟩
         ·rw [Qz]
          simp only [nx]
          rw [R_is h hg,bs,m1]
          rfl
         rw [uv]
         simp only [nx]
         rw [R_is h hg,bs,m1]
         rfl
       | true=>
         have o1:=Zg m1 hg (by decide)
         have nxt:=ih (.argL true k x (g++ [y.Lead]) ks) q (by unfold mu;simp only;omega) (sr.trans h) o1 ⟨by omega,hx,by rw [Ad,Ae];omega,by omega,Wc hr.2.2.1 hg.1.1,hr.2.2.2⟩
         rw [Zk m1,bR_o]
         refine ⟨?_,?_⟩
         ·rw [Qz]
          simp only [nx]
          rw [R_is h hg,bs,m1,if_neg (by decide),i_ix h,bs,yw (by rw [Ae];omega) (by decide),bs,uo h hn]
          exact nxt.1
         rw [uv]
         simp only [nx]
         rw [R_is h hg,bs,m1,if_neg (by decide),i_ix h,bs,yw (by rw [Ae];omega) (by decide),bs,uo h hn]
         exact nxt.2
   | argL b k x g ks=>
     obtain ⟨hl',hx,hr⟩:=hp
     have q1:=hr.1
     have q2:=hr.2.1
     unfold mu at hm;simp only at hm
     have hend:∀(g:List BA) (r:List Token),r <:+t→Good r→20*r.length+12≤f+1→g.length+r.length≤200000→ks.length+r.length≤200000→Gs g→uh tk (idx tk r) k x g ks=some (cr tk (bR (S f (.bin 1) r) fun n l=>S f (.argL false k x g (ks++ [n])) l))∧ug tk (idx tk r) k x g ks=some (cr tk (bR (S f (.bin 1) r) fun n l=>S f (.argL false k x g (ks++ [n])) l)):=fun g r s o hm' hg' hk' hgs=>by
      have hls:=w4 s
      rw [uh,ug]
      simp only [nx]
      have nxt:∀n r4,r4 <:+r→Good r4→(wfB n=true∧r4.length+1≤r.length)→RP tk f (.argL false k x g (ks++ [n])) r4:=fun n r4 s4 o4 h4=>ih (.argL false k x g (ks++ [n])) r4 (by unfold mu;simp only;omega) ((s4.trans s).trans h) o4 ⟨by omega,hx,by omega,by rw [Ad,Ae];omega,hgs,J9 hr.2.2.2 h4.1⟩
      constructor
      ·refine bF (eB 1 r (by decide) (by decide) (by omega) s o) (hB1 r o (by omega)) fun n r4 s4 o4 h4=> ?_
       rw [yw (by rw [Ae];omega) (by decide),bs]
       exact (nxt n r4 s4 o4 h4).1
      refine bF (eB 1 r (by decide) (by decide) (by omega) s o) (hB1 r o (by omega)) fun n r4 s4 o4 h4=> ?_
      rw [yw (by rw [Ae];omega) (by decide),bs]
      exact (nxt n r4 s4 o4 h4).2
     unfold RP;simp only [S,argP]
     cases t with
     | nil=>exact hg.elim
     | cons y q=>
     have sr:q <:+y::q:=AB y q
     refine ⟨?_,?_⟩
     ·rw [wz,vi]
      simp only [nx]
      rw [R_is h hg,bs]
      cases c1:isT ⟨#[41]⟩ (y::q) with
      | true=>
        have e3:Qj tk (idx tk (y::q)) k x g ks=some (cr tk (bR (tkT ⟨#[41]⟩ (y::q)) fun h l=> .ok (.mk k x (g++ [h]) ks,l))):=by
         unfold Qj
         rw [i_ix h,bs,yw (by rw [Ae];omega) (by decide),bs,uo h hn,Zk c1];rfl
        cases b with
        | true=>exact e3
        | false=>
          simp only [Ab,Aa,Aq,if_false,if_true]
          rw [bs,if_pos rfl]
          exact e3
      | false=>
        cases b with
        | true=>
          simp only [Ab,Aa,Aq,if_false,if_true]
          exact (hend g _ (AY _) hg (by omega) q1 q2 hr.2.2.1).1
        | false=>
          simp only [Ab,Aa,Aq,if_false,if_true]
          rw [bs,if_neg (by decide),R_is h hg,bs]
          cases c2:isT ⟨#[44]⟩ (y::q) with
          | false=>rw [qaz c2];rfl
          | true=>
            rw [Af] at hm q1 q2 hl'
            have o1:=Zg c2 hg (by decide)
            rw [Zk c2,bR_o,if_neg (by decide),i_ix h,bs,yw (by rw [Ae];omega) (by decide),bs,uo h hn]
            exact (hend (g++ [y.Lead]) q sr o1 (by omega) (by rw [Ad,Ae];omega) (by omega) (Wc hr.2.2.1 hg.1.1)).1
     rw [wy,vh]
     simp only [nx]
     rw [R_is h hg,bs]
     cases c1:isT ⟨#[41]⟩ (y::q) with
     | true=>
       have e3:Qi tk (idx tk (y::q)) k x g ks=some (cr tk (bR (tkT ⟨#[41]⟩ (y::q)) fun h l=> .ok (.mk k x (g++ [h]) ks,l))):=by
        unfold Qi
        rw [i_ix h,bs,yw (by rw [Ae];omega) (by decide),bs,uo h hn,Zk c1];rfl
       cases b with
       | true=>exact e3
       | false=>
         simp only [Ab,Aa,Aq,if_false,if_true]
         rw [bs,if_pos rfl]
         exact e3
     | false=>
       cases b with
       | true=>
         simp only [Ab,Aa,Aq,if_false,if_true]
         exact (hend g _ (AY _) hg (by omega) q1 q2 hr.2.2.1).2
       | false=>
         simp only [Ab,Aa,Aq,if_false,if_true]
         rw [bs,if_neg (by decide),R_is h hg,bs]
         cases c2:isT ⟨#[44]⟩ (y::q) with
         | false=>rw [qaz c2];rfl
         | true=>
           rw [Af] at hm q1 q2 hl'
           have o1:=Zg c2 hg (by decide)
           rw [Zk c2,bR_o,if_neg (by decide),i_ix h,bs,yw (by rw [Ae];omega) (by decide),bs,uo h hn]
           exact (hend (g++ [y.Lead]) q sr o1 (by omega) (by rw [Ad,Ae];omega) (by omega) (Wc hr.2.2.1 hg.1.1)).2
   | stmt=>
     have hl':t.length≤70000:=hp
     unfold mu at hm;simp only at hm
     show Zb tk (idx tk t)=_
     simp only [S]
     exact zbb h hn hg hB1 hC (fun t' s o=>eB 1 t' (by decide) (by decide) (by have:=w4 s;omega) s o) (fun t' s o=>ih .blk t' (by unfold mu;simp only;have:=w4 s;omega) (s.trans h) o (by show t'.length≤70000;have:=w4 s;omega))
   | blk =>
     have hl':t.length≤70000:=hp
     unfold mu at hm;simp only at hm
     show Qc tk (idx tk t)=_
     rw [Qc]
     simp only [nx]
     simp only [S]
     cases t with
     | nil=>exact hg.elim
     | cons y q=>
       have sr:q <:+y::q:=AB y q
       rw [Af] at hl' hm
       rw [R_is h hg,bs]
       cases m1:isT ⟨#[123]⟩ (y::q) with
       | false=>rw [qaz m1];rfl
       | true=>
         have o1:=Zg m1 hg (by decide)
         rw [Zk m1,if_neg (by decide),i_ix h,bs,yw (by simp) (by decide),bs,uo h hn]
         exact ih (.blkL [y.Lead] []) q (by unfold mu;simp only;omega) (sr.trans h) o1 ⟨by omega,by simp only [Af,Ao];omega,by simp only [Ao];omega,jg hg.1.1 yt,kc⟩
   | blkL g ks=>
     obtain ⟨hl',hr⟩:=hp
     have q1:=hr.1
     have q2:=hr.2.1
     unfold mu at hm;simp only at hm
     show Q4 tk (idx tk t) 6 ⟨#[]⟩ g ks=_
     rw [Q4]
     simp only [nx]
     simp only [S,blkP]
     rw [R_is h hg,bs]
     cases c1:isT ⟨#[125]⟩ t with
     | true=>
       cases t with
       | nil=>exact hg.elim
       | cons y q=>
         simp only [Ab,Aq,if_false,if_true]
         rw [Zk c1,i_ix h,bs,yw (by rw [Ae];omega) (by decide),bs,uo h hn];rfl
     | false=>
       simp only [Aa,Aq,if_false,if_true]
       refine bF (ih .stmt t (by unfold mu;simp only;omega) h hg hl') (hT t hg hl') fun n r4 s4 o4 h4=> ?_
       rw [yw (by rw [Ae];omega) (by decide),bs]
       exact ih (.blkL g (ks++ [n])) r4 (by unfold mu;simp only;omega) (s4.trans h) o4 ⟨by omega,by omega,by rw [Ad,Ae];omega,hr.2.2.1,J9 hr.2.2.2 h4.1⟩
   | parL g ks=>
     obtain ⟨hl',hr⟩:=hp
     have q1:=hr.1
     have q2:=hr.2.1
     unfold mu at hm;simp only at hm
     show Qb tk (idx tk t) 3 ⟨#[]⟩ g ks=_
     rw [Qb]
     simp only [nx]
     rw [J4]
     simp only [nx]
     have hend:∀(g:List BA) (r:List Token),r <:+t→Good r→20*r.length+1≤f+1→g.length+r.length≤200000→ks.length+r.length≤200000→Gs g→Zu tk (idx tk r) 3 ⟨#[]⟩ g ks=some (cr tk (bR (qfa r) fun n l=>S f (.parL g (ks++ [n])) l)):=fun g r s o hm' hg' hk' hgs=>by
      have hls:=w4 s
      rw [Zu]
      simp only [nx]
      unfold qfa
      rw [qsr (s.trans h) o,bs]
      cases r with
      | nil=>exact o.elim
      | cons x1 r1=>
        have s1:r1 <:+x1::r1:=AB _ _
        cases m1:nmT (x1::r1) with
        | false=>rw [qjq m1];rfl
        | true=>
          have o1:=qim m1 o
          rw [Af] at hm' hg' hk' hls
          rw [qjr m1,if_neg (by decide),i_ix (s.trans h),bs,bs,uo (s.trans h) hn]
          have zh:=(s1.trans s).trans h
          simp only [bR_o,qvd]
          refine bF (q25 hn zh o1) (K9 o1) fun b r3 s3 o3 h3=> ?_
          rw [yw (by simp) (by decide),bs,yw (by rw [Ae];omega) (by decide),bs]
          exact ih (.parL g (ks++ [.mk 4 x1.Text [x1.Lead] [.mk 5 b.1 [b.2] []]])) r3 (by unfold mu;simp only;omega) (s3.trans zh) o3 ⟨by omega,by omega,by rw [Ad,Ae];omega,hgs,J9 hr.2.2.2 (Q0 4 (by simp) (by simp) o.1.2.1 (jg o.1.1 yt) (wv (Q0 5 (by simp) (by simp) h3.2.1 (jg h3.2.2 yt) kc) kc))⟩
     simp only [S,q2b]
     rw [R_is h hg,bs]
     cases t with
     | nil=>exact hg.elim
     | cons y q=>
     have sr:q <:+y::q:=AB y q
     cases c1:isT ⟨#[41]⟩ (y::q) with
     | true=>
       have e3:Y2 tk (idx tk (y::q)) 3 ⟨#[]⟩ g ks=some (cr tk (bR (tkT ⟨#[41]⟩ (y::q)) fun h l=> .ok (.mk 3 ⟨#[]⟩ (g++ [h]) ks,l))):=by
        unfold Y2
        rw [i_ix h,bs,yw (by rw [Ae];omega) (by decide),bs,uo h hn,Zk c1];rfl
       simp only [Ab,Aq,if_false,if_true]
       by_cases c2:0 < ks.length
       ·rw [if_pos (decide_eq_true (by omega)),if_pos (decide_eq_true (by omega)),bs,if_pos rfl]
        exact e3
       rw [if_neg (by rw [decide_eq_true_eq];omega)]
       exact e3
     | false=>
       simp only [Aa,Aq,if_false,if_true]
       by_cases c2:0 < ks.length
       ·rw [if_pos (decide_eq_true (by omega)),if_pos (decide_eq_true c2),bs,if_neg (by decide),R_is h hg,bs]
        cases c3:isT ⟨#[44]⟩ (y::q) with
        | false=>rw [qaz c3];rfl
        | true=>
          rw [Af] at hm q1 q2 hl'
          have o1:=Zg c3 hg (by decide)
          rw [Zk c3,bR_o,if_neg (by decide),i_ix h,bs,yw (by rw [Ae];omega) (by decide),bs,uo h hn]
          exact hend (g++ [y.Lead]) q sr o1 (by omega) (by rw [Ad,Ae];omega) (by omega) (Wc hr.2.2.1 hg.1.1)
       rw [if_neg (by rw [decide_eq_true_eq];omega),if_neg (by rw [decide_eq_true_eq];exact c2)]
       exact hend g _ (AY _) hg (by omega) q1 q2 hr.2.2.1
   | func =>
     have hl':t.length≤70000:=hp
     unfold mu at hm;simp only at hm
     show Yn tk (idx tk t)=_
     unfold Yn;simp only [S,funP]
     refine q26 hn (by decide) h hg (gc:=fun n=>n) (d:=zN) (fun v y=>qbi tk v.2.1 >>=fun x3=>if (!x3.2.2)=true then some (zN,x3.2.1,false) else qa6 tk x3.2.1 >>=fun x4=>if (!x4.2.2)=true then some (zN,x4.2.1,false) else Qc tk x4.2.1 >>=fun x5=>if (!x5.2.2)=true then some (zN,x5.2.1,false) else
      app 72 ([]:LN) ([x3.1]) >>=fun x6=>app 72 x6 ([x4.1]) >>=fun x7=>app 72 x7 ([x5.1]) >>=fun x8=>some ((Node.mk (2:Int) y.Text v.1 x8),x5.2.1,true)) _ ?_
     intro g a r s o hlen hg1 ha1 ha2 y hy
     have epar:qbi tk (idx tk r)=some (cr tk (bR (tkT ⟨#[40]⟩ r) fun g3 t=>S f (.parL [g3] []) t)):=by
      unfold qbi
      rw [R_is (s.trans h) o,bs]
      cases r with
      | nil=>exact o.elim
      | cons y q=>
        have sr:q <:+y::q:=AB y q
        cases m1:isT ⟨#[40]⟩ (y::q) with
        | false=>rw [qaz m1];rfl
        | true=>
          have o1:=Zg m1 o (by decide)
          rw [Af] at hlen
          rw [Zk m1,if_neg (by decide),i_ix (s.trans h),bs,yw (by simp) (by decide),bs,uo (s.trans h) hn]
          exact ih (.parL [y.Lead] []) q (by unfold mu;simp only;omega) ((sr.trans s).trans h) o1 ⟨by omega,by simp only [Af,Ao];omega,by simp only [Ao];omega,jg o.1.1 yt,kc⟩
     have qpar:Q r (fun n q=>wfB n=true∧q.length+1≤r.length) (bR (tkT ⟨#[40]⟩ r) fun g3 t=>S f (.parL [g3] []) t):=(kj o (by decide)).bind fun g3 q s3 o3 h3=>(S_ok f (.parL [g3] []) q o3 ⟨by omega,by simp only [Af,Ao];omega,by simp only [Ao];omega,jg h3.2 yt,kc⟩).mono fun n q' _ p=>⟨p.1,by have:=p.2;unfold w0 at this;simp only at this;omega⟩
     rw [show (bR (tkT ⟨#[40]⟩ r) fun g3 t=>bR (S f (.parL [g3] []) t) (funK (S f .blk) a.1 [g,a.2]))=bR (bR (tkT ⟨#[40]⟩ r) fun g3 t=>S f (.parL [g3] []) t) (funK (S f .blk) a.1 [g,a.2]) from (qvd _ _ _).symm]
     refine bF epar qpar fun p r4 s4 o4 h4=> ?_
     unfold funK
     refine bF (q25 hn ((s4.trans s).trans h) o4) (K9 o4) fun b r5 s5 o5 h5=> ?_
     have z5:=(s5.trans s4).trans s
     refine bF (ih .blk r5 (by unfold mu;simp only;omega) (z5.trans h) o5 (by show r5.length≤70000;omega)) (hC r5 o5 (by omega)) fun c r6 s6 o6 h6=> ?_
     rw [yw (by simp) (by decide),bs,yw (by simp) (by decide),bs,yw (by simp) (by decide),bs,hy]
     rfl
   | clsL x g ks=>
     obtain ⟨hl',hx,hr⟩:=hp
     have q1:=hr.1
     have q2:=hr.2.1
     unfold mu at hm;simp only at hm
     show Je tk (idx tk t) 7 x g ks=_
     rw [Je]
     simp only [nx]
     simp only [S,q2w]
     rw [R_is h hg,bs]
     by_cases c1:isT ⟨#[102,110]⟩ t=true
     ·rw [if_pos c1,if_pos c1]
      refine bF (ih .func t (by unfold mu;simp only;omega) h hg hl') (hF t hg hl') fun n r4 s4 o4 h4=> ?_
      rw [yw (by rw [Ae];omega) (by decide),bs]
      exact ih (.clsL x g (ks++ [n])) r4 (by unfold mu;simp only;omega) (s4.trans h) o4 ⟨by omega,hx,by omega,by rw [Ad,Ae];omega,hr.2.2.1,J9 hr.2.2.2 h4.1⟩
     rw [if_neg c1,if_neg c1,R_is h hg,bs]
     cases t with
     | nil=>exact hg.elim
     | cons y q=>
       cases m1:isT ⟨#[125]⟩ (y::q) with
       | false=>rw [qaz m1];rfl
       | true=>
         rw [Zk m1,if_neg (by decide),i_ix h,bs,yw (by rw [Ae];omega) (by decide),bs,uo h hn];rfl
   | cls =>
     have hl':t.length≤70000:=hp
     unfold mu at hm;simp only at hm
     show qdb tk (idx tk t)=_
     unfold qdb;simp only [S,clsP]
     refine q26 hn (by decide) h hg (gc:=fun n=>n) (d:=zN) (fun v x2=>yg tk v.2.1 (⟨#[58]⟩:BA) >>=fun x3=>if x3=true then vd tk v.2.1 ([(⟨#[58]⟩:BA),(⟨#[]⟩:BA)]) >>=fun x4=>if (!x4.2.2)=true then some (zN,x4.2.1,false) else ix tk (IntKind.i64.wrap (x4.2.1 - (1:Int))) >>=fun x5=>u5 tk x4.2.1 (7:Int) x2.Text v.1 ([]:LN) (Node.mk (8:Int) x5.Text x4.1 ([]:LN)) else u5 tk v.2.1 (7:Int) x2.Text v.1 ([]:LN) (Node.mk (8:Int) (⟨#[]⟩) ([]:LB) ([]:LN))) _ ?_
     intro g1 a r2 s2 o2 hlen hg1 ha1 ha2 y hy
     have hend:∀(b:Node) (r:List Token),r <:+t→Good r→r.length+2≤t.length→wfB b=true→u5 tk (idx tk r) 7 a.1 [g1,a.2] [] b=some (cr tk (bR (tkT ⟨#[123]⟩ r) fun g3 t=>S f (.clsL a.1 [g1,a.2,g3] [b]) t)):=fun b r s o hlr hb=>by
      unfold u5
      rw [yw (by simp) (by decide),bs,R_is (s.trans h) o,bs]
      cases r with
      | nil=>exact o.elim
      | cons y q=>
        have sr:q <:+y::q:=AB y q
        cases m1:isT ⟨#[123]⟩ (y::q) with
        | false=>rw [qaz m1];rfl
        | true=>
          have o1:=Zg m1 o (by decide)
          rw [Af] at hlr
          rw [Zk m1,if_neg (by decide),i_ix (s.trans h),bs,yw (by simp) (by decide),bs,uo (s.trans h) hn]
          exact ih (.clsL a.1 [g1,a.2,y.Lead] [b]) q (by unfold mu;simp only;omega) ((sr.trans s).trans h) o1 ⟨by omega,ha1,by simp only [Af,Ao];omega,by simp only [Af,Ao];omega,jg hg1 (jg ha2 (jg o.1.1 yt)),wv hb kc⟩
     show (yg tk (idx tk r2) ⟨#[58]⟩ >>=_)=_
     rw [R_is (s2.trans h) o2,bs]
     unfold qzi
     by_cases c1:isT ⟨#[58]⟩ r2=true
     ·rw [if_pos c1,if_pos c1]
      simp only [qvd,bR_o]
      refine q26 hn (by decide) (s2.trans h) o2 (gc:=fun n=>n) (d:=zN) (fun v x5=>u5 tk v.2.1 (7:Int) y.Text [g1,a.2] ([]:LN) (Node.mk (8:Int) x5.Text v.1 ([]:LN))) _ ?_
      intro y1 y2 r5 s5 o5 hlen5 hg5 ha5 hb5 y5 hy5
      show u5 tk (idx tk r5) 7 y.Text [g1,a.2] [] (Node.mk 8 y5.Text [y1,y2.2] [])=_
      rw [hy,hy5]
      exact hend _ r5 (s5.trans s2) o5 (by omega) (Q0 8 (by simp) (by simp) ha5 (jg hg5 (jg hb5 yt)) kc)
     rw [if_neg c1,if_neg c1,hy]
     exact hend _ r2 s2 o2 (by omega) (Q0 8 (by simp) (by simp) qbp yt kc)
   | file ks=>trivial
theorem zb2 {n:Node} (h:wfB n=true):qcg n=some (limV n):=by
 unfold qcg qi0 limV
 rw [if_pos h,bs]
 by_cases e:checkErr n=3
 ·rw [if_pos (decide_eq_true e),if_pos e]
 rw [if_neg (by rw [decide_eq_true_eq];exact e),if_neg e]
theorem i_at {u:List Token} (h:u <:+tk) (hg:Good u):(ix tk (idx tk u) >>=fun x=>some ((zN:Node),(1:Int),x.At))=some (zN,1,atE u):=by
 cases u with
 | nil=>exact hg.elim
 | cons x r=>rw [i_ix h,bs];rfl
theorem q7w (hn:tk.length≤70000):∀(f:Nat) (ks:List Node) (t:List Token),mu (.file ks) t.length≤f→t <:+tk→Good t→pre (.file ks) t.length→Yf tk (idx tk t) 1 ⟨#[]⟩ [] ks=some (finV (S f (.file ks) t))
 | 0,ks,t,hm,_,hg,_=>by
   have:=qih hg
   unfold mu at hm;simp only at hm;omega
 | f + 1,ks,t,hm,h,hg,hp=>by
   obtain ⟨hl',hr⟩:=hp
   have q2:=hr.2.1
   have hl:=w4 h
   unfold mu at hm;simp only at hm
   have hF:Rd (S f .func):=fun t hg hl=>S_ok f .func t hg hl
   have hK:Rd (S f .cls):=fun t hg hl=>S_ok f .cls t hg hl
   have hB1:Rd (S f (.bin 1)):=fun t hg hl=>S_ok f (.bin 1) t hg ⟨hl,by decide,by decide⟩
   rw [Yf]
   simp only [nx]
   cases t with
   | nil=>exact hg.elim
   | cons x r=>
     simp only [S,q2t]
     rw [Av,js (by rw [Af] at hl;omega) (by omega)]
     by_cases c0:x.Kind=4
     ·have hr0:r= []:=by
       rcases hg.2 with ⟨h1,_⟩ | ⟨h1,_⟩
       ·exact h1
       exact absurd c0 h1
      subst hr0
      rw [if_neg (by unfold idx;rw [Ae,decide_eq_true_eq];rw [Ae] at hl;omega),if_pos (decide_eq_true c0),i_ix h,bs,yw (by simp) (by decide),bs,b3]
      exact zb2 (Q0 1 (by omega) (by simp) qbp (jg hg.1.1 yt) hr.2.2.2)
     have o1:=qil hg c0
     have hp1:=qih o1
     rw [if_pos (by unfold idx;rw [Af,decide_eq_true_eq];rw [Af] at hl;omega),if_neg (by rw [decide_eq_true_eq];exact c0)]
     unfold qk9
     rw [R_is h hg,bs]
     have on:∀{G:List Token→Rs Node} {y:Option (Node × Int × Bool)},y=some (cr tk (G (x::r)))→Rd G→
      (y >>=fun x2=>if (!x2.2.2)=true then ix tk x2.2.1 >>=fun x3=>some (zN,(1:Int),x3.At) else app 72 ks [x2.1] >>=fun x4=>Yf tk x2.2.1 1 ⟨#[]⟩ [] x4)=some (finV (bR (G (x::r)) fun n l=>S f (.file (ks++ [n])) l)):=fun {G y} hy hG=>by
      subst hy
      have q:=hG _ hg hl'
      cases e:G (x::r) with
      | error u=>
        rw [e] at q
        exact i_at (q.1.trans h) q.2
      | ok w=>
        rw [e] at q
        obtain ⟨s4,o4,h4⟩:=q
        show (app 72 ks [w.1] >>=_)=_
        rw [yw (by rw [Ae];omega) (by decide),bs]
        exact q7w hn f (ks++ [w.1]) w.2 (by unfold mu;simp only;omega) (s4.trans h) o4 ⟨by omega,by simp only [Ao];omega,by rw [Ad,Ae];omega,yt,J9 hr.2.2.2 h4.1⟩
     by_cases c1:isT ⟨#[102,110]⟩ (x::r)=true
     ·rw [if_pos c1,if_pos c1,b3]
      exact on (q28 hn f .func (x::r) (by unfold mu;simp only;omega) h hg hl') hF
     rw [if_neg c1,if_neg c1,R_is h hg,bs]
     by_cases c2:isT ⟨#[99,108,97,115,115]⟩ (x::r)=true
     ·rw [if_pos c2,if_pos c2,b3]
      exact on (q28 hn f .cls (x::r) (by unfold mu;simp only;omega) h hg hl') hK
     rw [if_neg c2,if_neg c2,R_is h hg,bs]
     by_cases c3:isT ⟨#[99,111,110,115,116]⟩ (x::r)=true
     ·rw [if_pos c3,if_pos c3,b3]
      refine on (G:=qfd (S f (.bin 1)) 9 ⟨#[99,111,110,115,116]⟩) (q27 hn 9 (by decide) h hg hB1 ?_) (qn0 hB1 9 (by decide))
      intro t' s o
      exact q28 hn f (.bin 1) t' (by unfold mu;simp only;have:=w4 s;omega) (s.trans h) o ⟨by have:=w4 s;omega,by decide,by decide⟩
     rw [if_neg c3,if_neg c3]
     exact i_at h hg
end
end Ps
end Go.Proofs.YtpnkemogepoioaaGreatDoorW.Ex.Gr
