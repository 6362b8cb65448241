/- Whole trees: the reference's shape, node, first, size and Check, and the program's Check. Conditions: those of the trees that come in (Wf). -/
import Derived.Test.YtpnkemogepoioaaGreatDoorGg
namespace Go.Proofs.YtpnkemogepoioaaGreatDoorW.Ex.Gr
open Go.Proofs.YtpnkemogepoioaaGreatDoorW.Plain
open Go Go.Proofs.YtpnkemogepoioaaGreatDoorW.Ex
set_option linter.all false
set_option maxRecDepth 100000
theorem q4l {k:Int} (h:known k=false):k < 1∨(1≤k∧26 < k):=by
 simp only [known,Bool.and_eq_false_iff,decide_eq_false_iff_not] at h;omega
set_option maxHeartbeats 4000000 in
theorem qkb (n:Node) (hk:n.kids.length≤9223372036854775807):Fn Tryz.prog G 157 [.agg (zl n)] (.bool (Zx n)):=by
 cases k0:known n.kind
 case false=>
  rw [show Zx n=false by simp [Zx,k0]]
  rcases q4l k0 with h | ⟨h,h'⟩
  ·have d1:decide (n.kind < 1)=true:=decide_eq_true h
   refine zg (T:=tt) (N:=49) (rs:= [.tmp 2]) (fun vs w=>by simp) Tryz.func157 rfl rfl rfl rfl (by kernel_rfl) (zm rfl) (qy _ rfl) ?_
   repeat' first
    | refine ji env rfl ?_
    | (refine qf ?_ ?_;(· simp only [d1,Ab,Aa]))
    | (refine qg ?_ ?_;(· simp only [d1,Ab,Aa]))
    | (refine qi ?_ ?_;(· simp only [d1,Ab,Aa]))
    | (refine qh ?_ ?_;(· simp only [d1,Ab,Aa]))
    | (refine qn ?_ ?_;(· simp only [d1,Ab,Aa]))
    | (refine qo ?_ ?_;(· simp only [d1,Ab,Aa]))
    | refine qq (fun h=> ?_) (fun h=> ?_)
    | refine qw (fun h=> ?_) (fun h=> ?_)
    | refine qd (fun h=> ?_) (fun h=> ?_)
    | refine zb env rfl rfl (qz ?_)
    | refine zn env rfl (qz ?_)
   all_goals rfl
  have d1:decide (n.kind < 1)=false:=decide_eq_false (by omega)
  have d2:decide (26 < n.kind)=true:=decide_eq_true h'
  refine zg (T:=tt) (N:=49) (rs:= [.tmp 2]) (fun vs w=>by simp) Tryz.func157 rfl rfl rfl rfl (by kernel_rfl) (zm rfl) (qy _ rfl) ?_
  repeat' first
   | refine ji env rfl ?_
   | (refine qf ?_ ?_;(· simp only [d1,Ab,Aa]))
   | (refine qg ?_ ?_;(· simp only [d1,Ab,Aa]))
   | (refine qi ?_ ?_;(· simp only [d1,Ab,Aa]))
   | (refine qh ?_ ?_;(· simp only [d1,Ab,Aa]))
   | (refine qn ?_ ?_;(· simp only [d1,Ab,Aa]))
   | (refine qo ?_ ?_;(· simp only [d1,Ab,Aa]))
   | (refine qf ?_ ?_;(· simp only [d2,Ab,Aa]))
   | (refine qg ?_ ?_;(· simp only [d2,Ab,Aa]))
   | (refine qi ?_ ?_;(· simp only [d2,Ab,Aa]))
   | (refine qh ?_ ?_;(· simp only [d2,Ab,Aa]))
   | (refine qn ?_ ?_;(· simp only [d2,Ab,Aa]))
   | (refine qo ?_ ?_;(· simp only [d2,Ab,Aa]))
   | refine qq (fun h=> ?_) (fun h=> ?_)
   | refine qw (fun h=> ?_) (fun h=> ?_)
   | refine qd (fun h=> ?_) (fun h=> ?_)
   | refine zb env rfl rfl (qz ?_)
   | refine zn env rfl (qz ?_)
  all_goals rfl
 have kb:=Wg k0
 have d1:decide (n.kind < 1)=false:=decide_eq_false (by omega)
 have d2:decide (26 < n.kind)=false:=decide_eq_false (by omega)
 have hke:=q81 n k0
 cases d3:decide (((n.kids.map Node.cells).length:Int) < ql7 n.kind)
 case true=>
  rw [Av] at d3
  rw [show Zx n=false by simp only [Zx,hke,d3];simp]
  rw [←Av (f:=Node.cells)] at d3
  refine zg (T:=tt) (N:=49) (rs:= [.tmp 2]) (fun vs w=>by simp) Tryz.func157 rfl rfl rfl rfl (by kernel_rfl) (zm rfl) (qy _ rfl) ?_
  repeat' first
   | refine ji env rfl ?_
   | (refine qf ?_ ?_;(· simp only [d1,Ab,Aa]))
   | (refine qg ?_ ?_;(· simp only [d1,Ab,Aa]))
   | (refine qi ?_ ?_;(· simp only [d1,Ab,Aa]))
   | (refine qh ?_ ?_;(· simp only [d1,Ab,Aa]))
   | (refine qn ?_ ?_;(· simp only [d1,Ab,Aa]))
   | (refine qo ?_ ?_;(· simp only [d1,Ab,Aa]))
   | (refine qf ?_ ?_;(· simp only [d2,Ab,Aa]))
   | (refine qg ?_ ?_;(· simp only [d2,Ab,Aa]))
   | (refine qi ?_ ?_;(· simp only [d2,Ab,Aa]))
   | (refine qh ?_ ?_;(· simp only [d2,Ab,Aa]))
   | (refine qn ?_ ?_;(· simp only [d2,Ab,Aa]))
   | (refine qo ?_ ?_;(· simp only [d2,Ab,Aa]))
   | (refine qf ?_ ?_;(· simp only [d3,Ab,Aa]))
   | (refine qg ?_ ?_;(· simp only [d3,Ab,Aa]))
   | (refine qi ?_ ?_;(· simp only [d3,Ab,Aa]))
   | (refine qh ?_ ?_;(· simp only [d3,Ab,Aa]))
   | (refine qn ?_ ?_;(· simp only [d3,Ab,Aa]))
   | (refine qo ?_ ?_;(· simp only [d3,Ab,Aa]))
   | refine qk (qss _) ?_
   | refine qq (fun h=> ?_) (fun h=> ?_)
   | refine qw (fun h=> ?_) (fun h=> ?_)
   | refine qd (fun h=> ?_) (fun h=> ?_)
   | refine zb env rfl rfl (qz ?_)
   | refine zn env rfl (qz ?_)
  all_goals rfl
 rw [Av] at d3
 rw [d3,Aa,Bh] at hke
 rw [←Av (f:=Node.cells)] at d3
 cases k1:qdk n.kind n.kids
 case false=>
  rw [k1] at hke
  rw [show Zx n=false by simp [Zx,hke]]
  unfold qdk at k1
  refine zg (T:=tt) (N:=49) (rs:= [.tmp 2]) (fun vs w=>by simp) Tryz.func157 rfl rfl rfl rfl (by kernel_rfl) (zm rfl) (qy _ rfl) ?_
  repeat' first
   | refine ji env rfl ?_
   | (exfalso;rw [he] at k1;cases k1)
   | (refine Kf (α:=Nat) (fun i=>i≤(n.kids).length∧vl (fun i m=>fits n.kind i m.kind) 0 (n.kids)=vl (fun i m=>fits n.kind i m.kind) i ((n.kids).drop i)) (fun i=>(n.kids).length - i) (fun i=> [(3, .int .i64 i)]) (fun _=> []) (0) (fun _=>rfl) (fun _=>rfl) (⟨Az _,rfl⟩) ?_ ?_ (fun i hJ=> ?_);(· simp [leFT,leV,leOs,leO,leC,rho,AV.ren,AV.ren1,AV.un,AV.un1,AV.closed]);(· simp [leFT,leV,leOs,leO,leC,rho,AV.ren,AV.ren1,AV.un,AV.un1,AV.closed]);rcases qka (fun i m=>fits n.kind i m.kind) (n.kids) (Node.cells) i hk hJ with ⟨m,hm,hlt,hb,hw,he⟩ | ⟨hb,he⟩)
   | refine Ke rfl ?_
   | refine Jk rfl rfl ?_
   | (refine Yq (i+1) ?_ ?_ ?_ ?_;(· exact ⟨by omega,by simp_all⟩);(· omega);(· (simp only [hw];simp [leFT,leV,leOs,leO,leC,rho,AV.ren,AV.ren1,AV.un,AV.un1,AV.closed]));(· simp [leFT,leV,leOs,leO,leC,rho,AV.ren,AV.ren1,AV.un,AV.un1,AV.closed]))
   | refine Y5 env rfl rfl rfl rfl rfl (qcu hm) ?_
   | (refine qf ?_ ?_;(· simp only [d1,Ab,Aa]))
   | (refine qg ?_ ?_;(· simp only [d1,Ab,Aa]))
   | (refine qi ?_ ?_;(· simp only [d1,Ab,Aa]))
   | (refine qh ?_ ?_;(· simp only [d1,Ab,Aa]))
   | (refine qn ?_ ?_;(· simp only [d1,Ab,Aa]))
   | (refine qo ?_ ?_;(· simp only [d1,Ab,Aa]))
   | (refine qf ?_ ?_;(· simp only [d2,Ab,Aa]))
   | (refine qg ?_ ?_;(· simp only [d2,Ab,Aa]))
   | (refine qi ?_ ?_;(· simp only [d2,Ab,Aa]))
   | (refine qh ?_ ?_;(· simp only [d2,Ab,Aa]))
   | (refine qn ?_ ?_;(· simp only [d2,Ab,Aa]))
   | (refine qo ?_ ?_;(· simp only [d2,Ab,Aa]))
   | (refine qf ?_ ?_;(· simp only [d3,Ab,Aa]))
   | (refine qg ?_ ?_;(· simp only [d3,Ab,Aa]))
   | (refine qi ?_ ?_;(· simp only [d3,Ab,Aa]))
   | (refine qh ?_ ?_;(· simp only [d3,Ab,Aa]))
   | (refine qn ?_ ?_;(· simp only [d3,Ab,Aa]))
   | (refine qo ?_ ?_;(· simp only [d3,Ab,Aa]))
   | (refine qf ?_ ?_;(· simp only [hb,Ab,Aa]))
   | (refine qg ?_ ?_;(· simp only [hb,Ab,Aa]))
   | (refine qi ?_ ?_;(· simp only [hb,Ab,Aa]))
   | (refine qh ?_ ?_;(· simp only [hb,Ab,Aa]))
   | (refine qn ?_ ?_;(· simp only [hb,Ab,Aa]))
   | (refine qo ?_ ?_;(· simp only [hb,Ab,Aa]))
   | refine qk (qss _) ?_
   | refine qk (q3b _ _ _) ?_
   | refine qq (fun h=> ?_) (fun h=> ?_)
   | refine qw (fun h=> ?_) (fun h=> ?_)
   | refine qd (fun h=> ?_) (fun h=> ?_)
   | refine zb env rfl rfl (qz ?_)
   | refine zn env rfl (qz ?_)
  all_goals (first | rfl | (exfalso;simp_all))
 rw [k1] at hke
 have hse:=q0r n k0
 have hl:=qfi n hke k0
 rw [show Zx n=((qfe n || qxu n) && We n) by simp [Zx,hke,k0,hse]]
 unfold qdk at k1
 have kf:∀(i:Nat) (m:Node),n.kids[i]? =some m→fits n.kind i m.kind=true:=fun i m h=>by simpa using q1j _ n.kids 0 k1 i m h
 refine zg (T:=tt) (N:=49) (rs:= [.tmp 2]) (fun vs w=>by simp) Tryz.func157 rfl rfl rfl rfl (by kernel_rfl) (zm rfl) (qy _ rfl) ?_
 repeat' first
  | refine ji env rfl ?_
  | (refine Kf (α:=Nat) (fun i=>i≤(n.kids).length∧vl (fun i m=>fits n.kind i m.kind) 0 (n.kids)=vl (fun i m=>fits n.kind i m.kind) i ((n.kids).drop i)) (fun i=>(n.kids).length - i) (fun i=> [(3, .int .i64 i)]) (fun _=> []) (0) (fun _=>rfl) (fun _=>rfl) (⟨Az _,rfl⟩) ?_ ?_ (fun i hJ=> ?_);(· simp [leFT,leV,leOs,leO,leC,rho,AV.ren,AV.ren1,AV.un,AV.un1,AV.closed]);(· simp [leFT,leV,leOs,leO,leC,rho,AV.ren,AV.ren1,AV.un,AV.un1,AV.closed]);rcases qka (fun i m=>fits n.kind i m.kind) (n.kids) (Node.cells) i hk hJ with ⟨m,hm,hlt,hb,hw,he⟩ | ⟨hb,he⟩)
  | refine Ke rfl ?_
  | refine Jk rfl rfl ?_
  | (refine Yq (i+1) ?_ ?_ ?_ ?_;(· exact ⟨by omega,by simp_all⟩);(· omega);(· (simp only [hw];simp [leFT,leV,leOs,leO,leC,rho,AV.ren,AV.ren1,AV.un,AV.un1,AV.closed]));(· simp [leFT,leV,leOs,leO,leC,rho,AV.ren,AV.ren1,AV.un,AV.un1,AV.closed]))
  | refine Y5 env rfl rfl rfl rfl rfl (qcu hm) ?_
  | (refine qf ?_ ?_;(· simp only [d1,Ab,Aa]))
  | (refine qg ?_ ?_;(· simp only [d1,Ab,Aa]))
  | (refine qi ?_ ?_;(· simp only [d1,Ab,Aa]))
  | (refine qh ?_ ?_;(· simp only [d1,Ab,Aa]))
  | (refine qn ?_ ?_;(· simp only [d1,Ab,Aa]))
  | (refine qo ?_ ?_;(· simp only [d1,Ab,Aa]))
  | (refine qf ?_ ?_;(· simp only [d2,Ab,Aa]))
  | (refine qg ?_ ?_;(· simp only [d2,Ab,Aa]))
  | (refine qi ?_ ?_;(· simp only [d2,Ab,Aa]))
  | (refine qh ?_ ?_;(· simp only [d2,Ab,Aa]))
  | (refine qn ?_ ?_;(· simp only [d2,Ab,Aa]))
  | (refine qo ?_ ?_;(· simp only [d2,Ab,Aa]))
  | (refine qf ?_ ?_;(· simp only [d3,Ab,Aa]))
  | (refine qg ?_ ?_;(· simp only [d3,Ab,Aa]))
  | (refine qi ?_ ?_;(· simp only [d3,Ab,Aa]))
  | (refine qh ?_ ?_;(· simp only [d3,Ab,Aa]))
  | (refine qn ?_ ?_;(· simp only [d3,Ab,Aa]))
  | (refine qo ?_ ?_;(· simp only [d3,Ab,Aa]))
  | (refine qf ?_ ?_;(· simp only [hb,Ab,Aa]))
  | (refine qg ?_ ?_;(· simp only [hb,Ab,Aa]))
  | (refine qi ?_ ?_;(· simp only [hb,Ab,Aa]))
  | (refine qh ?_ ?_;(· simp only [hb,Ab,Aa]))
  | (refine qn ?_ ?_;(· simp only [hb,Ab,Aa]))
  | (refine qo ?_ ?_;(· simp only [hb,Ab,Aa]))
  | refine qk (qss _) ?_
  | refine qk (q3b _ _ _) ?_
  | refine qk (qkc _) ?_
  | refine qk (q9i _) ?_
  | refine qk (q4z n hl) ?_
  | refine qq (fun h=> ?_) (fun h=> ?_)
  | refine qw (fun h=> ?_) (fun h=> ?_)
  | refine qd (fun h=> ?_) (fun h=> ?_)
  | refine zb env rfl rfl (qz ?_)
  | refine zn env rfl (qz ?_)
 all_goals refine w8 ?_
 all_goals (first | (simp_all;done) | (exfalso;simp_all [kf _ _ hm]))
theorem q4c (n:Node) (kn:known n.kind=true):
 (decide (n.kind=17)=true∧kx n.text.data.toList=false∧qbz n=false)∨(decide (n.kind=17)=false∧qfe n=true∧Q8 n.text.data.toList=false∧qbz n=false)∨
 (qbz n=true∧((decide (n.kind=17)=true∧kx n.text.data.toList=true)∨(decide (n.kind=17)=false∧qfe n=false)∨(decide (n.kind=17)=false∧qfe n=true∧Q8 n.text.data.toList=true))):=by
 rw [q4u n kn]
 generalize decide (n.kind=17)=b1
 cases b1 <;> cases kx n.text.data.toList <;> cases qfe n <;> cases Q8 n.text.data.toList <;> simp
theorem q4d (n:Node):
 (decide (0 < ((n.gaps.map sc).length:Int))=true∧decide (((n.gaps.map sc).length:Int)=own n)=false∧qj3 n=false)∨
 ((decide (0 < ((n.gaps.map sc).length:Int))=false∨(decide (0 < ((n.gaps.map sc).length:Int))=true∧decide (((n.gaps.map sc).length:Int)=own n)=true))∧qj3 n=qga n):=by
 rw [q83,Av]
 cases decide (0 < (n.gaps.length:Int)) <;> cases decide ((n.gaps.length:Int)=own n) <;> simp
set_option maxHeartbeats 4000000 in
theorem q9k (n:Node) (hk:n.kids.length≤9223372036854775807) (hg:n.gaps.length≤9223372036854775807) (hs:∀g∈n.gaps,g.size≤9223372036854775807):Fn Tryz.prog G 127 [.agg (zl n)] (.int .i64 (wu n)):=by
 cases k0:Zx n
 case false=>
  rw [show wu n=7 by simp [wu,k0]]
  refine zg (T:=tt) (N:=57) (rs:= [.tmp 2]) (fun vs w=>by simp) Tryz.func127 rfl rfl rfl rfl (by kernel_rfl) (zm rfl) (qy _ rfl) ?_
  repeat' first
   | refine ji env rfl ?_
   | (refine qf ?_ ?_;(· simp only [k0,Ab,Aa]))
   | (refine qg ?_ ?_;(· simp only [k0,Ab,Aa]))
   | (refine qi ?_ ?_;(· simp only [k0,Ab,Aa]))
   | (refine qh ?_ ?_;(· simp only [k0,Ab,Aa]))
   | (refine qn ?_ ?_;(· simp only [k0,Ab,Aa]))
   | (refine qo ?_ ?_;(· simp only [k0,Ab,Aa]))
   | refine qk (qkb n hk) ?_
   | refine qq (fun h=> ?_) (fun h=> ?_)
   | refine qw (fun h=> ?_) (fun h=> ?_)
   | refine qd (fun h=> ?_) (fun h=> ?_)
   | refine zb env rfl rfl (qz ?_)
   | refine zn env rfl (qz ?_)
  all_goals rfl
 have kn:known n.kind=true:=by simp only [Zx,An] at k0;exact k0.1.1.1
 rcases q4c n kn with ⟨a1,a2,hc⟩ | ⟨a1,a3,a4,hc⟩ | ⟨hc,hn⟩
 case inl=>
  rw [show wu n=4 by simp [wu,k0,hc]]
  refine zg (T:=tt) (N:=57) (rs:= [.tmp 2]) (fun vs w=>by simp) Tryz.func127 rfl rfl rfl rfl (by kernel_rfl) (zm rfl) (qy _ rfl) ?_
  repeat' first
   | refine ji env rfl ?_
   | (refine qf ?_ ?_;(· simp only [k0,Ab,Aa]))
   | (refine qg ?_ ?_;(· simp only [k0,Ab,Aa]))
   | (refine qi ?_ ?_;(· simp only [k0,Ab,Aa]))
   | (refine qh ?_ ?_;(· simp only [k0,Ab,Aa]))
   | (refine qn ?_ ?_;(· simp only [k0,Ab,Aa]))
   | (refine qo ?_ ?_;(· simp only [k0,Ab,Aa]))
   | (refine qf ?_ ?_;(· simp only [a1,Ab,Aa]))
   | (refine qg ?_ ?_;(· simp only [a1,Ab,Aa]))
   | (refine qi ?_ ?_;(· simp only [a1,Ab,Aa]))
   | (refine qh ?_ ?_;(· simp only [a1,Ab,Aa]))
   | (refine qn ?_ ?_;(· simp only [a1,Ab,Aa]))
   | (refine qo ?_ ?_;(· simp only [a1,Ab,Aa]))
   | (refine qf ?_ ?_;(· simp only [a2,Ab,Aa]))
   | (refine qg ?_ ?_;(· simp only [a2,Ab,Aa]))
   | (refine qi ?_ ?_;(· simp only [a2,Ab,Aa]))
   | (refine qh ?_ ?_;(· simp only [a2,Ab,Aa]))
   | (refine qn ?_ ?_;(· simp only [a2,Ab,Aa]))
   | (refine qo ?_ ?_;(· simp only [a2,Ab,Aa]))
   | (refine qf ?_ ?_;(· simp only [a3,Ab,Aa]))
   | (refine qg ?_ ?_;(· simp only [a3,Ab,Aa]))
   | (refine qi ?_ ?_;(· simp only [a3,Ab,Aa]))
   | (refine qh ?_ ?_;(· simp only [a3,Ab,Aa]))
   | (refine qn ?_ ?_;(· simp only [a3,Ab,Aa]))
   | (refine qo ?_ ?_;(· simp only [a3,Ab,Aa]))
   | (refine qf ?_ ?_;(· simp only [a4,Ab,Aa]))
   | (refine qg ?_ ?_;(· simp only [a4,Ab,Aa]))
   | (refine qi ?_ ?_;(· simp only [a4,Ab,Aa]))
   | (refine qh ?_ ?_;(· simp only [a4,Ab,Aa]))
   | (refine qn ?_ ?_;(· simp only [a4,Ab,Aa]))
   | (refine qo ?_ ?_;(· simp only [a4,Ab,Aa]))
   | refine qk (qkb n hk) ?_
   | refine qk (qir _) ?_
   | refine qk (qkc _) ?_
   | refine qk (qkd _) ?_
   | refine qk (qww n hk) ?_
   | refine qk (qnz _ (hs _ (qnj hm))) ?_
   | refine qq (fun h=> ?_) (fun h=> ?_)
   | refine qw (fun h=> ?_) (fun h=> ?_)
   | refine qd (fun h=> ?_) (fun h=> ?_)
   | refine zb env rfl rfl (qz ?_)
   | refine zn env rfl (qz ?_)
  all_goals rfl
 case inr.inl=>
  rw [show wu n=4 by simp [wu,k0,hc]]
  refine zg (T:=tt) (N:=57) (rs:= [.tmp 2]) (fun vs w=>by simp) Tryz.func127 rfl rfl rfl rfl (by kernel_rfl) (zm rfl) (qy _ rfl) ?_
  repeat' first
   | refine ji env rfl ?_
   | (refine qf ?_ ?_;(· simp only [k0,Ab,Aa]))
   | (refine qg ?_ ?_;(· simp only [k0,Ab,Aa]))
   | (refine qi ?_ ?_;(· simp only [k0,Ab,Aa]))
   | (refine qh ?_ ?_;(· simp only [k0,Ab,Aa]))
   | (refine qn ?_ ?_;(· simp only [k0,Ab,Aa]))
   | (refine qo ?_ ?_;(· simp only [k0,Ab,Aa]))
   | (refine qf ?_ ?_;(· simp only [a1,Ab,Aa]))
   | (refine qg ?_ ?_;(· simp only [a1,Ab,Aa]))
   | (refine qi ?_ ?_;(· simp only [a1,Ab,Aa]))
   | (refine qh ?_ ?_;(· simp only [a1,Ab,Aa]))
   | (refine qn ?_ ?_;(· simp only [a1,Ab,Aa]))
   | (refine qo ?_ ?_;(· simp only [a1,Ab,Aa]))
   | (refine qf ?_ ?_;(· simp only [a2,Ab,Aa]))
   | (refine qg ?_ ?_;(· simp only [a2,Ab,Aa]))
   | (refine qi ?_ ?_;(· simp only [a2,Ab,Aa]))
   | (refine qh ?_ ?_;(· simp only [a2,Ab,Aa]))
   | (refine qn ?_ ?_;(· simp only [a2,Ab,Aa]))
   | (refine qo ?_ ?_;(· simp only [a2,Ab,Aa]))
   | (refine qf ?_ ?_;(· simp only [a3,Ab,Aa]))
   | (refine qg ?_ ?_;(· simp only [a3,Ab,Aa]))
   | (refine qi ?_ ?_;(· simp only [a3,Ab,Aa]))
   | (refine qh ?_ ?_;(· simp only [a3,Ab,Aa]))
   | (refine qn ?_ ?_;(· simp only [a3,Ab,Aa]))
   | (refine qo ?_ ?_;(· simp only [a3,Ab,Aa]))
   | (refine qf ?_ ?_;(· simp only [a4,Ab,Aa]))
   | (refine qg ?_ ?_;(· simp only [a4,Ab,Aa]))
   | (refine qi ?_ ?_;(· simp only [a4,Ab,Aa]))
   | (refine qh ?_ ?_;(· simp only [a4,Ab,Aa]))
   | (refine qn ?_ ?_;(· simp only [a4,Ab,Aa]))
   | (refine qo ?_ ?_;(· simp only [a4,Ab,Aa]))
   | refine qk (qkb n hk) ?_
   | refine qk (qir _) ?_
   | refine qk (qkc _) ?_
   | refine qk (qkd _) ?_
   | refine qk (qww n hk) ?_
   | refine qk (qnz _ (hs _ (qnj hm))) ?_
   | refine qq (fun h=> ?_) (fun h=> ?_)
   | refine qw (fun h=> ?_) (fun h=> ?_)
   | refine qd (fun h=> ?_) (fun h=> ?_)
   | refine zb env rfl rfl (qz ?_)
   | refine zn env rfl (qz ?_)
  all_goals rfl
 rcases q4d n with ⟨g1,g2,hgo⟩ | ⟨hgs,hgo⟩
 case inl=>
  rw [show wu n=7 by simp [wu,k0,hc,hgo]]
  rcases hn with ⟨a1,a2⟩ | ⟨a1,a3⟩ | ⟨a1,a3,a4⟩
  all_goals
   refine zg (T:=tt) (N:=57) (rs:= [.tmp 2]) (fun vs w=>by simp) Tryz.func127 rfl rfl rfl rfl (by kernel_rfl) (zm rfl) (qy _ rfl) ?_
   repeat' first
    | refine ji env rfl ?_
    | (refine qf ?_ ?_;(· simp only [k0,Ab,Aa]))
    | (refine qg ?_ ?_;(· simp only [k0,Ab,Aa]))
    | (refine qi ?_ ?_;(· simp only [k0,Ab,Aa]))
    | (refine qh ?_ ?_;(· simp only [k0,Ab,Aa]))
    | (refine qn ?_ ?_;(· simp only [k0,Ab,Aa]))
    | (refine qo ?_ ?_;(· simp only [k0,Ab,Aa]))
    | (refine qf ?_ ?_;(· simp only [a1,Ab,Aa]))
    | (refine qg ?_ ?_;(· simp only [a1,Ab,Aa]))
    | (refine qi ?_ ?_;(· simp only [a1,Ab,Aa]))
    | (refine qh ?_ ?_;(· simp only [a1,Ab,Aa]))
    | (refine qn ?_ ?_;(· simp only [a1,Ab,Aa]))
    | (refine qo ?_ ?_;(· simp only [a1,Ab,Aa]))
    | (refine qf ?_ ?_;(· simp only [a2,Ab,Aa]))
    | (refine qg ?_ ?_;(· simp only [a2,Ab,Aa]))
    | (refine qi ?_ ?_;(· simp only [a2,Ab,Aa]))
    | (refine qh ?_ ?_;(· simp only [a2,Ab,Aa]))
    | (refine qn ?_ ?_;(· simp only [a2,Ab,Aa]))
    | (refine qo ?_ ?_;(· simp only [a2,Ab,Aa]))
    | (refine qf ?_ ?_;(· simp only [a3,Ab,Aa]))
    | (refine qg ?_ ?_;(· simp only [a3,Ab,Aa]))
    | (refine qi ?_ ?_;(· simp only [a3,Ab,Aa]))
    | (refine qh ?_ ?_;(· simp only [a3,Ab,Aa]))
    | (refine qn ?_ ?_;(· simp only [a3,Ab,Aa]))
    | (refine qo ?_ ?_;(· simp only [a3,Ab,Aa]))
    | (refine qf ?_ ?_;(· simp only [a4,Ab,Aa]))
    | (refine qg ?_ ?_;(· simp only [a4,Ab,Aa]))
    | (refine qi ?_ ?_;(· simp only [a4,Ab,Aa]))
    | (refine qh ?_ ?_;(· simp only [a4,Ab,Aa]))
    | (refine qn ?_ ?_;(· simp only [a4,Ab,Aa]))
    | (refine qo ?_ ?_;(· simp only [a4,Ab,Aa]))
    | (refine qf ?_ ?_;(· simp only [g1,Ab,Aa]))
    | (refine qg ?_ ?_;(· simp only [g1,Ab,Aa]))
    | (refine qi ?_ ?_;(· simp only [g1,Ab,Aa]))
    | (refine qh ?_ ?_;(· simp only [g1,Ab,Aa]))
    | (refine qn ?_ ?_;(· simp only [g1,Ab,Aa]))
    | (refine qo ?_ ?_;(· simp only [g1,Ab,Aa]))
    | (refine qf ?_ ?_;(· simp only [g2,Ab,Aa]))
    | (refine qg ?_ ?_;(· simp only [g2,Ab,Aa]))
    | (refine qi ?_ ?_;(· simp only [g2,Ab,Aa]))
    | (refine qh ?_ ?_;(· simp only [g2,Ab,Aa]))
    | (refine qn ?_ ?_;(· simp only [g2,Ab,Aa]))
    | (refine qo ?_ ?_;(· simp only [g2,Ab,Aa]))
    | refine qk (qkb n hk) ?_
    | refine qk (qir _) ?_
    | refine qk (qkc _) ?_
    | refine qk (qkd _) ?_
    | refine qk (qww n hk) ?_
    | refine qk (qnz _ (hs _ (qnj hm))) ?_
    | refine qq (fun h=> ?_) (fun h=> ?_)
    | refine qw (fun h=> ?_) (fun h=> ?_)
    | refine qd (fun h=> ?_) (fun h=> ?_)
    | refine zb env rfl rfl (qz ?_)
    | refine zn env rfl (qz ?_)
   all_goals rfl
 rw [show wu n=if qga n=false then 7 else 0 by simp [wu,k0,hc,hgo]]
 unfold qga
 rcases hn with ⟨a1,a2⟩ | ⟨a1,a3⟩ | ⟨a1,a3,a4⟩ <;> rcases hgs with g1 | ⟨g1,g2⟩
 all_goals
  refine zg (T:=tt) (N:=57) (rs:= [.tmp 2]) (fun vs w=>by simp) Tryz.func127 rfl rfl rfl rfl (by kernel_rfl) (zm rfl) (qy _ rfl) ?_
  repeat' first
   | refine ji env rfl ?_
   | (refine Kf (α:=Nat) (fun i=>i≤(n.gaps).length∧vl (fun _ g=>Jh g) 0 (n.gaps)=vl (fun _ g=>Jh g) i ((n.gaps).drop i)) (fun i=>(n.gaps).length - i) (fun i=> [(3, .int .i64 i)]) (fun _=> []) (0) (fun _=>rfl) (fun _=>rfl) (⟨Az _,rfl⟩) ?_ ?_ (fun i hJ=> ?_);(· simp [leFT,leV,leOs,leO,leC,rho,AV.ren,AV.ren1,AV.un,AV.un1,AV.closed]);(· simp [leFT,leV,leOs,leO,leC,rho,AV.ren,AV.ren1,AV.un,AV.un1,AV.closed]);rcases qka (fun _ g=>Jh g) (n.gaps) (sc) i hg hJ with ⟨m,hm,hlt,hb,hw,he⟩ | ⟨hb,he⟩)
   | refine Ke rfl ?_
   | refine Jk rfl rfl ?_
   | (refine Yq (i+1) ?_ ?_ ?_ ?_;(· exact ⟨by omega,by simp_all⟩);(· omega);(· (simp only [hw];simp [leFT,leV,leOs,leO,leC,rho,AV.ren,AV.ren1,AV.un,AV.un1,AV.closed]));(· simp [leFT,leV,leOs,leO,leC,rho,AV.ren,AV.ren1,AV.un,AV.un1,AV.closed]))
   | refine Y5 env rfl rfl rfl rfl rfl (q66 hm) ?_
   | (refine qf ?_ ?_;(· simp only [k0,Ab,Aa]))
   | (refine qg ?_ ?_;(· simp only [k0,Ab,Aa]))
   | (refine qi ?_ ?_;(· simp only [k0,Ab,Aa]))
   | (refine qh ?_ ?_;(· simp only [k0,Ab,Aa]))
   | (refine qn ?_ ?_;(· simp only [k0,Ab,Aa]))
   | (refine qo ?_ ?_;(· simp only [k0,Ab,Aa]))
   | (refine qf ?_ ?_;(· simp only [a1,Ab,Aa]))
   | (refine qg ?_ ?_;(· simp only [a1,Ab,Aa]))
   | (refine qi ?_ ?_;(· simp only [a1,Ab,Aa]))
   | (refine qh ?_ ?_;(· simp only [a1,Ab,Aa]))
   | (refine qn ?_ ?_;(· simp only [a1,Ab,Aa]))
   | (refine qo ?_ ?_;(· simp only [a1,Ab,Aa]))
   | (refine qf ?_ ?_;(· simp only [a2,Ab,Aa]))
   | (refine qg ?_ ?_;(· simp only [a2,Ab,Aa]))
   | (refine qi ?_ ?_;(· simp only [a2,Ab,Aa]))
   | (refine qh ?_ ?_;(· simp only [a2,Ab,Aa]))
   | (refine qn ?_ ?_;(· simp only [a2,Ab,Aa]))
   | (refine qo ?_ ?_;(· simp only [a2,Ab,Aa]))
   | (refine qf ?_ ?_;(· simp only [a3,Ab,Aa]))
   | (refine qg ?_ ?_;(· simp only [a3,Ab,Aa]))
   | (refine qi ?_ ?_;(· simp only [a3,Ab,Aa]))
   | (refine qh ?_ ?_;(· simp only [a3,Ab,Aa]))
   | (refine qn ?_ ?_;(· simp only [a3,Ab,Aa]))
   | (refine qo ?_ ?_;(· simp only [a3,Ab,Aa]))
   | (refine qf ?_ ?_;(· simp only [a4,Ab,Aa]))
   | (refine qg ?_ ?_;(· simp only [a4,Ab,Aa]))
   | (refine qi ?_ ?_;(· simp only [a4,Ab,Aa]))
   | (refine qh ?_ ?_;(· simp only [a4,Ab,Aa]))
   | (refine qn ?_ ?_;(· simp only [a4,Ab,Aa]))
   | (refine qo ?_ ?_;(· simp only [a4,Ab,Aa]))
   | (refine qf ?_ ?_;(· simp only [g1,Ab,Aa]))
   | (refine qg ?_ ?_;(· simp only [g1,Ab,Aa]))
   | (refine qi ?_ ?_;(· simp only [g1,Ab,Aa]))
   | (refine qh ?_ ?_;(· simp only [g1,Ab,Aa]))
   | (refine qn ?_ ?_;(· simp only [g1,Ab,Aa]))
   | (refine qo ?_ ?_;(· simp only [g1,Ab,Aa]))
   | (refine qf ?_ ?_;(· simp only [g2,Ab,Aa]))
   | (refine qg ?_ ?_;(· simp only [g2,Ab,Aa]))
   | (refine qi ?_ ?_;(· simp only [g2,Ab,Aa]))
   | (refine qh ?_ ?_;(· simp only [g2,Ab,Aa]))
   | (refine qn ?_ ?_;(· simp only [g2,Ab,Aa]))
   | (refine qo ?_ ?_;(· simp only [g2,Ab,Aa]))
   | (refine qf ?_ ?_;(· simp only [hb,Ab,Aa]))
   | (refine qg ?_ ?_;(· simp only [hb,Ab,Aa]))
   | (refine qi ?_ ?_;(· simp only [hb,Ab,Aa]))
   | (refine qh ?_ ?_;(· simp only [hb,Ab,Aa]))
   | (refine qn ?_ ?_;(· simp only [hb,Ab,Aa]))
   | (refine qo ?_ ?_;(· simp only [hb,Ab,Aa]))
   | refine qk (qkb n hk) ?_
   | refine qk (qir _) ?_
   | refine qk (qkc _) ?_
   | refine qk (qkd _) ?_
   | refine qk (qww n hk) ?_
   | refine qk (qnz _ (hs _ (qnj hm))) ?_
   | refine qq (fun h=> ?_) (fun h=> ?_)
   | refine qw (fun h=> ?_) (fun h=> ?_)
   | refine qd (fun h=> ?_) (fun h=> ?_)
   | refine zb env rfl rfl (qz ?_)
   | refine zn env rfl (qz ?_)
  all_goals refine Ka ?_
  all_goals rw [he]
  all_goals (first | rfl | simp_all)
theorem qyf (n:Node) (i:Nat) (e:Int) (hl:n.kids.length≤9223372036854775807) (hJ:i≤n.kids.length∧firstErr n=if e=0 then we (n.kids.drop i) else e):
 (decide ((i:Int) < ((n.kids.map Node.cells).length:Int))=true∧decide (e=0)=false∧firstErr n=e)∨
 (∃ m,n.kids[i]? =some m∧m∈n.kids∧i < n.kids.length∧decide ((i:Int) < ((n.kids.map Node.cells).length:Int))=true∧decide (e=0)=true∧IntKind.i64.wrap ((i:Int)+1)=((i+1:Nat):Int)∧
   firstErr n=if firstErr m=0 then we (n.kids.drop (i+1)) else firstErr m)∨
 (decide ((i:Int) < ((n.kids.map Node.cells).length:Int))=false∧firstErr n=e):=by
 obtain ⟨h1,h2⟩:=hJ
 rcases Bt i n.kids.length with h | h
 ·have hd:decide ((i:Int) < ((n.kids.map Node.cells).length:Int))=true:=by simpa using h
  by_cases he:e=0
  ·refine .inr (.inl ⟨n.kids[i],Aj h,B4 h,h,hd,decide_eq_true he,js (by omega) (by omega),?_⟩)
   rw [h2,if_pos he,Bl h,we]
  exact .inl ⟨hd,decide_eq_false he,by rw [h2,if_neg he]⟩
 refine .inr (.inr ⟨by simpa using h,?_⟩)
 rw [h2,AD h,we]
 split <;> omega
set_option maxHeartbeats 4000000 in
theorem q7x:∀n:Node,Wf n→Fn Tryz.prog G 93 [.agg (zl n)] (.int .i64 (firstErr n)):=by
 intro n hwf
 induction hwf with | mk n hk hg ht hs _ ih=> ?_
 refine zg (T:=tt) (N:=25) (rs:= [.tmp 2]) (fun vs w=>by simp) Tryz.func93 rfl rfl rfl rfl (by kernel_rfl) (zm rfl) (qy _ rfl) ?_
 repeat' first
  | refine ji env rfl ?_
  | (refine Kf (α:=Nat × Int) (fun a=>a.1≤n.kids.length∧firstErr n=if a.2=0 then we (n.kids.drop a.1) else a.2) (fun a=>n.kids.length - a.1) (fun a=> [(4, .int .i64 a.1),(3, .int .i64 a.2)]) (fun _=> []) ((0,wu n)) (fun _=>rfl) (fun _=>rfl) (⟨Az _,by rw [Y4];rfl⟩) ?_ ?_ (fun ⟨i,e⟩ hJ=> ?_);(· simp [leFT,leV,leOs,leO,leC,rho,AV.ren,AV.ren1,AV.un,AV.un1,AV.closed]);(· simp [leFT,leV,leOs,leO,leC,rho,AV.ren,AV.ren1,AV.un,AV.un1,AV.closed]);rcases qyf n i e hk hJ with ⟨hb,g1,he⟩ | ⟨m,hm,hmem,hlt,hb,g1,hw,he⟩ | ⟨hb,he⟩)
  | refine Ke rfl ?_
  | refine Jk rfl rfl ?_
  | (refine Yq ((i+1,firstErr m)) ?_ ?_ ?_ ?_;(· exact ⟨by show i+1≤n.kids.length;omega,he⟩);(· (show n.kids.length - (i+1) < n.kids.length - i;omega));(· (simp only [hw];simp [leFT,leV,leOs,leO,leC,rho,AV.ren,AV.ren1,AV.un,AV.un1,AV.closed]));(· simp [leFT,leV,leOs,leO,leC,rho,AV.ren,AV.ren1,AV.un,AV.un1,AV.closed]))
  | refine Y5 env rfl rfl rfl rfl rfl (qcu hm) ?_
  | (refine qf ?_ ?_;(· simp only [hb,Ab,Aa]))
  | (refine qg ?_ ?_;(· simp only [hb,Ab,Aa]))
  | (refine qi ?_ ?_;(· simp only [hb,Ab,Aa]))
  | (refine qh ?_ ?_;(· simp only [hb,Ab,Aa]))
  | (refine qn ?_ ?_;(· simp only [hb,Ab,Aa]))
  | (refine qo ?_ ?_;(· simp only [hb,Ab,Aa]))
  | (refine qf ?_ ?_;(· simp only [g1,Ab,Aa]))
  | (refine qg ?_ ?_;(· simp only [g1,Ab,Aa]))
  | (refine qi ?_ ?_;(· simp only [g1,Ab,Aa]))
  | (refine qh ?_ ?_;(· simp only [g1,Ab,Aa]))
  | (refine qn ?_ ?_;(· simp only [g1,Ab,Aa]))
  | (refine qo ?_ ?_;(· simp only [g1,Ab,Aa]))
  | refine qk (q9k n hk hg hs) ?_
  | refine qk (ih m hmem) ?_
  | refine qq (fun h=> ?_) (fun h=> ?_)
  | refine qw (fun h=> ?_) (fun h=> ?_)
  | refine qd (fun h=> ?_) (fun h=> ?_)
  | refine zb env rfl rfl (qz ?_)
  | refine zn env rfl (qz ?_)
 all_goals refine Ka ?_
 all_goals rw [he]
def um (o:Option Nat) (k:Int):Int:=match o with
 | some s=>if k+s≤4001 then k+s else 4001
 | none=>4001
theorem qom {o:Option Nat} {k:Int} (h:4001≤k):um o k=4001:=by
 unfold um;split
 ·split <;> omega
 rfl
theorem q33 (o:Option Nat) (k:Int) (h0:0≤k) (h:k≤4001):0≤um o k∧um o k≤4001:=by
 unfold um;split
 ·split <;> omega
 omega
theorem q0u (m:Node) (l:List Node) (d:Nat) (k:Int) (h0:0≤k):um (sizeL? (m::l) d) k=um (sizeL? l d) (k+um (size? m d) 0):=by
 rw [qia]
 cases ha:size? m d with
 | none=>rw [qom (k:=k+um none 0) (by simp [um];omega)];rfl
 | some a=>
   by_cases hl:(a:Int)≤4001
   ·have e:um (some a) 0=a:=by simp only [um];rw [if_pos (by omega)];omega
    rw [e]
    cases hb:sizeL? l d with
    | none=>rfl
    | some b=>
      simp only [um]
      by_cases h2:k+(a:Int)+b≤4001
      ·rw [if_pos (by omega),if_pos h2];omega
      rw [if_neg (by omega),if_neg h2]
   have e:um (some a) 0=4001:=by simp only [um];rw [if_neg (by omega)]
   rw [e,qom (k:=k+4001) (by omega)]
   cases hb:sizeL? l d with
   | none=>rfl
   | some b=>simp only [um];rw [if_neg (by omega)]
theorem q0t (n:Node) (d:Nat):um (size? n (d+1)) 0=if most n.kind < (n.kids.length:Int) then 4001 else um (sizeL? n.kids d) 1:=by
 rw [quk]
 split
 ·rfl
 cases hb:sizeL? n.kids d with
 | none=>rfl
 | some b=>
   simp only [AP,um]
   by_cases h:(1:Int)+b≤4001
   ·rw [if_pos (by omega),if_pos h];omega
   rw [if_neg (by omega),if_neg h]
theorem q32 (l:List Node) (d i:Nat) (k:Int) (hl:l.length≤9223372036854775807) (hJ:i≤l.length∧0≤k∧k≤8001∧um (sizeL? l d) 1=um (sizeL? (l.drop i) d) k):
 (decide ((i:Int) < ((l.map Node.cells).length:Int))=true∧decide (k≤4000)=false∧(if 4001 < k then (4001:Int) else k)=um (sizeL? l d) 1)∨
 (∃ m,l[i]? =some m∧m∈l∧i < l.length∧decide ((i:Int) < ((l.map Node.cells).length:Int))=true∧decide (k≤4000)=true∧IntKind.i64.wrap ((i:Int)+1)=((i+1:Nat):Int)∧IntKind.i64.wrap (k+um (size? m d) 0)=k+um (size? m d) 0∧
   0≤k+um (size? m d) 0∧k+um (size? m d) 0≤8001∧um (sizeL? l d) 1=um (sizeL? (l.drop (i+1)) d) (k+um (size? m d) 0))∨
 (decide ((i:Int) < ((l.map Node.cells).length:Int))=false∧(if 4001 < k then (4001:Int) else k)=um (sizeL? l d) 1):=by
 obtain ⟨h1,h2,h3,h4⟩:=hJ
 rcases Bt i l.length with h | h
 ·have hd:decide ((i:Int) < ((l.map Node.cells).length:Int))=true:=by simpa using h
  by_cases hk:k≤4000
  ·have hr:=q33 (size? l[i] d) 0 (by omega) (by omega)
   refine .inr (.inl ⟨l[i],Aj h,B4 h,h,hd,decide_eq_true hk,js (by omega) (by omega),js (by omega) (by omega),by omega,by omega,?_⟩)
   rw [h4,Bl h,q0u _ _ _ _ h2]
  refine .inl ⟨hd,decide_eq_false hk,?_⟩
  rw [h4,qom (by omega)]
  split <;> omega
 refine .inr (.inr ⟨by simpa using h,?_⟩)
 rw [h4,AD h]
 show _=um (some 0) k
 simp only [um]
 split <;> split <;> omega
set_option maxHeartbeats 4000000 in
theorem q9j:∀n:Node,Wf n→∀(d:Nat) (lev:Int),lev+d=61→ -9223372036854775808≤lev→lev≤9223372036854775806→
 Fn Tryz.prog G 92 [.agg (zl n), .int .i64 lev] (.int .i64 (um (size? n d) 0)):=by
 intro n hwf
 induction hwf with | mk n hk hg ht hs _ ih=> ?_
 intro d lev hl hl0 hl1
 cases d with
 | zero=>
   have e1:decide (60 < lev)=true:=decide_eq_true (by omega)
   rw [quj]
   refine zg (T:=tt) (N:=41) (rs:= [.tmp 4]) (fun vs w=>by simp) Tryz.func92 rfl rfl rfl rfl (by kernel_rfl) (zm rfl) (qy _ rfl) ?_
   repeat' first
    | refine ji env rfl ?_
    | (refine qf ?_ ?_;(· simp only [e1,Ab,Aa]))
    | (refine qg ?_ ?_;(· simp only [e1,Ab,Aa]))
    | (refine qi ?_ ?_;(· simp only [e1,Ab,Aa]))
    | (refine qh ?_ ?_;(· simp only [e1,Ab,Aa]))
    | (refine qn ?_ ?_;(· simp only [e1,Ab,Aa]))
    | (refine qo ?_ ?_;(· simp only [e1,Ab,Aa]))
    | refine qq (fun h=> ?_) (fun h=> ?_)
    | refine qw (fun h=> ?_) (fun h=> ?_)
    | refine qd (fun h=> ?_) (fun h=> ?_)
    | refine zb env rfl rfl (qz ?_)
    | refine zn env rfl (qz ?_)
   all_goals rfl
 | succ d=>
   have e1:decide (60 < lev)=false:=decide_eq_false (by omega)
   rw [q0t]
   by_cases c3:most n.kind < (n.kids.length:Int)
   case pos=>
    have e3:decide (most n.kind < ((n.kids.map Node.cells).length:Int))=true:=by simpa using c3
    rw [if_pos c3]
    refine zg (T:=tt) (N:=41) (rs:= [.tmp 4]) (fun vs w=>by simp) Tryz.func92 rfl rfl rfl rfl (by kernel_rfl) (zm rfl) (qy _ rfl) ?_
    repeat' first
     | refine ji env rfl ?_
     | (refine qf ?_ ?_;(· simp only [e1,Ab,Aa]))
     | (refine qg ?_ ?_;(· simp only [e1,Ab,Aa]))
     | (refine qi ?_ ?_;(· simp only [e1,Ab,Aa]))
     | (refine qh ?_ ?_;(· simp only [e1,Ab,Aa]))
     | (refine qn ?_ ?_;(· simp only [e1,Ab,Aa]))
     | (refine qo ?_ ?_;(· simp only [e1,Ab,Aa]))
     | (refine qf ?_ ?_;(· simp only [e3,Ab,Aa]))
     | (refine qg ?_ ?_;(· simp only [e3,Ab,Aa]))
     | (refine qi ?_ ?_;(· simp only [e3,Ab,Aa]))
     | (refine qh ?_ ?_;(· simp only [e3,Ab,Aa]))
     | (refine qn ?_ ?_;(· simp only [e3,Ab,Aa]))
     | (refine qo ?_ ?_;(· simp only [e3,Ab,Aa]))
     | refine qk (q3a _) ?_
     | refine qq (fun h=> ?_) (fun h=> ?_)
     | refine qw (fun h=> ?_) (fun h=> ?_)
     | refine qd (fun h=> ?_) (fun h=> ?_)
     | refine zb env rfl rfl (qz ?_)
     | refine zn env rfl (qz ?_)
    all_goals rfl
   have e3:decide (most n.kind < ((n.kids.map Node.cells).length:Int))=false:=by simpa using c3
   rw [if_neg c3]
   have w2:IntKind.i64.wrap (lev+1)=lev+1:=js (by omega) (by omega)
   refine zg (T:=tt) (N:=41) (rs:= [.tmp 4]) (fun vs w=>by simp) Tryz.func92 rfl rfl rfl rfl (by kernel_rfl) (zm rfl) (qy _ rfl) ?_
   repeat' first
    | refine ji env rfl ?_
    | (refine Kf (α:=Nat × Int) (fun a=>a.1≤n.kids.length∧0≤a.2∧a.2≤8001∧um (sizeL? n.kids d) 1=um (sizeL? (n.kids.drop a.1) d) a.2) (fun a=>n.kids.length - a.1) (fun a=> [(6, .int .i64 a.1),(5, .int .i64 a.2)]) (fun _=> []) ((0,1)) (fun _=>rfl) (fun _=>rfl) (⟨Az _,by decide,by decide,rfl⟩) ?_ ?_ (fun ⟨i,k⟩ hJ=> ?_);(· simp [leFT,leV,leOs,leO,leC,rho,AV.ren,AV.ren1,AV.un,AV.un1,AV.closed]);(· simp [leFT,leV,leOs,leO,leC,rho,AV.ren,AV.ren1,AV.un,AV.un1,AV.closed]);rcases q32 n.kids d i k hk hJ with ⟨hb,g1,he⟩ | ⟨m,hm,hmem,hlt,hb,g1,hw,hw2,p1,p2,he⟩ | ⟨hb,he⟩)
    | refine Ke rfl ?_
    | refine Jk rfl rfl ?_
    | (refine Yq ((i+1,k+um (size? m d) 0)) ?_ ?_ ?_ ?_;(· exact ⟨by show i+1≤n.kids.length;omega,p1,p2,he⟩);(· (show n.kids.length - (i+1) < n.kids.length - i;omega));(· (simp only [hw,hw2];simp [leFT,leV,leOs,leO,leC,rho,AV.ren,AV.ren1,AV.un,AV.un1,AV.closed]));(· simp [leFT,leV,leOs,leO,leC,rho,AV.ren,AV.ren1,AV.un,AV.un1,AV.closed]))
    | refine Y5 env rfl rfl rfl rfl rfl (qcu hm) ?_
    | refine qk (x:= .int .i64 (um (size? m d) 0)) (by rw [w2];exact ih m hmem d (lev+1) (by omega) (by omega) (by omega)) ?_
    | (refine qf ?_ ?_;(· simp only [e1,Ab,Aa]))
    | (refine qg ?_ ?_;(· simp only [e1,Ab,Aa]))
    | (refine qi ?_ ?_;(· simp only [e1,Ab,Aa]))
    | (refine qh ?_ ?_;(· simp only [e1,Ab,Aa]))
    | (refine qn ?_ ?_;(· simp only [e1,Ab,Aa]))
    | (refine qo ?_ ?_;(· simp only [e1,Ab,Aa]))
    | (refine qf ?_ ?_;(· simp only [e3,Ab,Aa]))
    | (refine qg ?_ ?_;(· simp only [e3,Ab,Aa]))
    | (refine qi ?_ ?_;(· simp only [e3,Ab,Aa]))
    | (refine qh ?_ ?_;(· simp only [e3,Ab,Aa]))
    | (refine qn ?_ ?_;(· simp only [e3,Ab,Aa]))
    | (refine qo ?_ ?_;(· simp only [e3,Ab,Aa]))
    | (refine qf ?_ ?_;(· simp only [hb,Ab,Aa]))
    | (refine qg ?_ ?_;(· simp only [hb,Ab,Aa]))
    | (refine qi ?_ ?_;(· simp only [hb,Ab,Aa]))
    | (refine qh ?_ ?_;(· simp only [hb,Ab,Aa]))
    | (refine qn ?_ ?_;(· simp only [hb,Ab,Aa]))
    | (refine qo ?_ ?_;(· simp only [hb,Ab,Aa]))
    | (refine qf ?_ ?_;(· simp only [g1,Ab,Aa]))
    | (refine qg ?_ ?_;(· simp only [g1,Ab,Aa]))
    | (refine qi ?_ ?_;(· simp only [g1,Ab,Aa]))
    | (refine qh ?_ ?_;(· simp only [g1,Ab,Aa]))
    | (refine qn ?_ ?_;(· simp only [g1,Ab,Aa]))
    | (refine qo ?_ ?_;(· simp only [g1,Ab,Aa]))
    | refine qk (q3a _) ?_
    | refine qq (fun h=> ?_) (fun h=> ?_)
    | refine qw (fun h=> ?_) (fun h=> ?_)
    | refine qd (fun h=> ?_) (fun h=> ?_)
    | refine zb env rfl rfl (qz ?_)
    | refine zn env rfl (qz ?_)
   all_goals refine Ka ?_
   all_goals exact he
theorem q0i (o:Option Nat):decide (ya o 4000 < 0)= !(match o with | some k=>decide (k≤4000) | none=>false):=by
 cases o with
 | none=>rfl
 | some k=>
   by_cases h:k≤4000
   ·have e:ya (some k) 4000=4000 - (k:Int):=by simp only [ya];rw [if_pos (by omega)]
    rw [e];simp [h];omega
   have e:ya (some k) 4000= -1:=by simp only [ya];rw [if_neg (by omega)]
   rw [e];simp [h]
theorem q5s (o:Option Nat):decide (4000 < um o 0)= !(match o with | some k=>decide (k≤4000) | none=>false):=by
 cases o with
 | none=>rfl
 | some k=>
   by_cases h:k≤4000
   ·have e:um (some k) 0=(k:Int):=by simp only [um];rw [if_pos (by omega)];omega
    rw [e];simp [h];omega
   by_cases h2:k≤4001
   ·have e:um (some k) 0=(k:Int):=by simp only [um];rw [if_pos (by omega)];omega
    rw [e];simp [h];omega
   have e:um (some k) 0=4001:=by simp only [um];rw [if_neg (by omega)]
   rw [e];simp [h]
set_option maxHeartbeats 4000000 in
theorem qtk (n:Node) (hwf:Wf n):Fn Tryz.prog G 44 [.agg (zl n)] (.int .i64 (checkErr n)):=by
 have hl:=q0i (size? n 60)
 have hc:Fn Tryz.prog G 69 [.agg (zl n), .int .i64 4000, .int .i64 60] (.int .i64 (ya (size? n 60) 4000)):=(qr6 n hwf 4000 60 (by decide) (by decide) (by decide) (by decide))
 cases hb:decide (ya (size? n 60) 4000 < 0)
 case true=>
  have e:checkErr n=3:=by
   rw [hb] at hl
   unfold checkErr
   split at hl
   ·rename_i k hk;rw [hk];simp only;rw [if_neg (by simpa using hl)]
   rename_i hk;rw [hk]
  rw [e]
  refine zg (T:=tt) (N:=8) (rs:= [.tmp 2]) (fun vs w=>by simp) Tryz.func44 rfl rfl rfl rfl (by kernel_rfl) (zm rfl) (qy _ rfl) ?_
  repeat' first
   | refine ji env rfl ?_
   | (refine qf ?_ ?_;(· simp only [hb,Ab,Aa]))
   | (refine qg ?_ ?_;(· simp only [hb,Ab,Aa]))
   | (refine qi ?_ ?_;(· simp only [hb,Ab,Aa]))
   | (refine qh ?_ ?_;(· simp only [hb,Ab,Aa]))
   | (refine qn ?_ ?_;(· simp only [hb,Ab,Aa]))
   | (refine qo ?_ ?_;(· simp only [hb,Ab,Aa]))
   | refine qk (hc) ?_
   | refine qq (fun h=> ?_) (fun h=> ?_)
   | refine qw (fun h=> ?_) (fun h=> ?_)
   | refine qd (fun h=> ?_) (fun h=> ?_)
   | refine zb env rfl rfl (qz ?_)
   | refine zn env rfl (qz ?_)
  all_goals rfl
 have e:checkErr n=firstErr n:=by
  rw [hb] at hl
  unfold checkErr
  split at hl
  ·rename_i k hk;rw [hk];simp only;rw [if_pos (by simpa using hl)]
  cases hl
 rw [e]
 refine zg (T:=tt) (N:=8) (rs:= [.tmp 2]) (fun vs w=>by simp) Tryz.func44 rfl rfl rfl rfl (by kernel_rfl) (zm rfl) (qy _ rfl) ?_
 repeat' first
  | refine ji env rfl ?_
  | (refine qf ?_ ?_;(· simp only [hb,Ab,Aa]))
  | (refine qg ?_ ?_;(· simp only [hb,Ab,Aa]))
  | (refine qi ?_ ?_;(· simp only [hb,Ab,Aa]))
  | (refine qh ?_ ?_;(· simp only [hb,Ab,Aa]))
  | (refine qn ?_ ?_;(· simp only [hb,Ab,Aa]))
  | (refine qo ?_ ?_;(· simp only [hb,Ab,Aa]))
  | refine qk (hc) ?_
  | refine qk (qtj n hwf) ?_
  | refine qq (fun h=> ?_) (fun h=> ?_)
  | refine qw (fun h=> ?_) (fun h=> ?_)
  | refine qd (fun h=> ?_) (fun h=> ?_)
  | refine zb env rfl rfl (qz ?_)
  | refine zn env rfl (qz ?_)
 all_goals rfl
set_option maxHeartbeats 4000000 in
theorem q7y (n:Node) (hwf:Wf n):Fn Tryz.prog G 64 [.agg (zl n)] (.int .i64 (checkErr n)):=by
 have hl:=q5s (size? n 60)
 have hc:Fn Tryz.prog G 92 [.agg (zl n), .int .i64 1] (.int .i64 (um (size? n 60) 0)):=(q9j n hwf 60 1 (by decide) (by decide) (by decide))
 cases hb:decide (4000 < um (size? n 60) 0)
 case true=>
  have e:checkErr n=3:=by
   rw [hb] at hl
   unfold checkErr
   split at hl
   ·rename_i k hk;rw [hk];simp only;rw [if_neg (by simpa using hl)]
   rename_i hk;rw [hk]
  rw [e]
  refine zg (T:=tt) (N:=8) (rs:= [.tmp 2]) (fun vs w=>by simp) Tryz.func64 rfl rfl rfl rfl (by kernel_rfl) (zm rfl) (qy _ rfl) ?_
  repeat' first
   | refine ji env rfl ?_
   | (refine qf ?_ ?_;(· simp only [hb,Ab,Aa]))
   | (refine qg ?_ ?_;(· simp only [hb,Ab,Aa]))
   | (refine qi ?_ ?_;(· simp only [hb,Ab,Aa]))
   | (refine qh ?_ ?_;(· simp only [hb,Ab,Aa]))
   | (refine qn ?_ ?_;(· simp only [hb,Ab,Aa]))
   | (refine qo ?_ ?_;(· simp only [hb,Ab,Aa]))
   | refine qk (hc) ?_
   | refine qq (fun h=> ?_) (fun h=> ?_)
   | refine qw (fun h=> ?_) (fun h=> ?_)
   | refine qd (fun h=> ?_) (fun h=> ?_)
   | refine zb env rfl rfl (qz ?_)
   | refine zn env rfl (qz ?_)
  all_goals rfl
 have e:checkErr n=firstErr n:=by
  rw [hb] at hl
  unfold checkErr
  split at hl
  ·rename_i k hk;rw [hk];simp only;rw [if_pos (by simpa using hl)]
  cases hl
 rw [e]
 refine zg (T:=tt) (N:=8) (rs:= [.tmp 2]) (fun vs w=>by simp) Tryz.func64 rfl rfl rfl rfl (by kernel_rfl) (zm rfl) (qy _ rfl) ?_
 repeat' first
  | refine ji env rfl ?_
  | (refine qf ?_ ?_;(· simp only [hb,Ab,Aa]))
  | (refine qg ?_ ?_;(· simp only [hb,Ab,Aa]))
  | (refine qi ?_ ?_;(· simp only [hb,Ab,Aa]))
  | (refine qh ?_ ?_;(· simp only [hb,Ab,Aa]))
  | (refine qn ?_ ?_;(· simp only [hb,Ab,Aa]))
  | (refine qo ?_ ?_;(· simp only [hb,Ab,Aa]))
  | refine qk (hc) ?_
  | refine qk (q7x n hwf) ?_
  | refine qq (fun h=> ?_) (fun h=> ?_)
  | refine qw (fun h=> ?_) (fun h=> ?_)
  | refine qd (fun h=> ?_) (fun h=> ?_)
  | refine zb env rfl rfl (qz ?_)
  | refine zn env rfl (qz ?_)
 all_goals rfl
end Go.Proofs.YtpnkemogepoioaaGreatDoorW.Ex.Gr
