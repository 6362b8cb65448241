/- Whole trees: the program's first, within and Check. Conditions: those of the trees that come in (Wf). -/
import Derived.Test.YtpnkemogepoioaaGreatDoorGe
namespace Go.Proofs.YtpnkemogepoioaaGreatDoorW.Ex.Gr
open Go Go.Proofs.YtpnkemogepoioaaGreatDoorW.Ex
set_option linter.all false
set_option maxRecDepth 100000
theorem q09 (l:List Node) (i:Nat) (hl:l.length≤9223372036854775807) (hJ:i≤l.length∧we l=we (l.drop i)):
 (∃ m,l[i]? =some m∧m∈l∧i < l.length∧decide ((i:Int) < ((l.map Node.cells).length:Int))=true∧IntKind.i64.wrap ((i:Int)+1)=((i+1:Nat):Int)∧
   ((decide (firstErr m=0)=true∧we l=we (l.drop (i+1)))∨(decide (firstErr m=0)=false∧we l=firstErr m)))∨
 (decide ((i:Int) < ((l.map Node.cells).length:Int))=false∧we l=0):=by
 rcases Bt i l.length with h | h
 ·refine .inl ⟨l[i],Aj h,B4 h,h,by simpa using h,js (by omega) (by omega),?_⟩
  have e:we (l.drop i)=if firstErr l[i]=0 then we (l.drop (i+1)) else firstErr l[i]:=by rw [Bl h,we]
  rw [hJ.2,e]
  by_cases hv:firstErr l[i]=0
  ·exact .inl ⟨decide_eq_true hv,if_pos hv⟩
  exact .inr ⟨decide_eq_false hv,if_neg hv⟩
 refine .inr ⟨by simpa using h,?_⟩
 rw [hJ.2,AD h,we]
set_option maxHeartbeats 4000000 in
theorem qtj:∀n:Node,Wf n→Fn Tryz.prog G 70 [.agg (zl n)] (.int .i64 (firstErr n)):=by
 intro n hwf
 induction hwf with | mk n hk hg ht hs _ ih=> ?_
 cases k0:known n.kind
 case false=>
  have e:wu n=7:=by simp [wu,Zx,k0]
  rw [Y4,e]
  refine zg (T:=tt) (N:=44) (rs:= [.tmp 2]) (fun vs w=>by simp) Tryz.func70 rfl rfl rfl rfl (by kernel_rfl) (zm rfl) (qy _ rfl) ?_
  repeat' first
   | refine ji env rfl ?_
   | (refine qf ?_ ?_;(· simp only [k0,Ab,Aa]))
   | (refine qg ?_ ?_;(· simp only [k0,Ab,Aa]))
   | (refine qi ?_ ?_;(· simp only [k0,Ab,Aa]))
   | (refine qh ?_ ?_;(· simp only [k0,Ab,Aa]))
   | (refine qn ?_ ?_;(· simp only [k0,Ab,Aa]))
   | (refine qo ?_ ?_;(· simp only [k0,Ab,Aa]))
   | refine qk (wj _) ?_
   | refine qq (fun h=> ?_) (fun h=> ?_)
   | refine qw (fun h=> ?_) (fun h=> ?_)
   | refine qd (fun h=> ?_) (fun h=> ?_)
   | refine zb env rfl rfl (qz ?_)
   | refine zn env rfl (qz ?_)
  all_goals rfl
 cases k1:qj2 n
 case false=>
  have e:wu n=7:=by simp [wu,Zx,k0,k1]
  rw [Y4,e]
  refine zg (T:=tt) (N:=44) (rs:= [.tmp 2]) (fun vs w=>by simp) Tryz.func70 rfl rfl rfl rfl (by kernel_rfl) (zm rfl) (qy _ rfl) ?_
  repeat' first
   | refine ji env rfl ?_
   | (refine qf ?_ ?_;(· simp only [k0,Ab,Aa]))
   | (refine qg ?_ ?_;(· simp only [k0,Ab,Aa]))
   | (refine qi ?_ ?_;(· simp only [k0,Ab,Aa]))
   | (refine qh ?_ ?_;(· simp only [k0,Ab,Aa]))
   | (refine qn ?_ ?_;(· simp only [k0,Ab,Aa]))
   | (refine qo ?_ ?_;(· simp only [k0,Ab,Aa]))
   | (refine qf ?_ ?_;(· simp only [k1,Ab,Aa]))
   | (refine qg ?_ ?_;(· simp only [k1,Ab,Aa]))
   | (refine qi ?_ ?_;(· simp only [k1,Ab,Aa]))
   | (refine qh ?_ ?_;(· simp only [k1,Ab,Aa]))
   | (refine qn ?_ ?_;(· simp only [k1,Ab,Aa]))
   | (refine qo ?_ ?_;(· simp only [k1,Ab,Aa]))
   | refine qk (wj _) ?_
   | refine qk (W1 n k0 hk) ?_
   | refine qq (fun h=> ?_) (fun h=> ?_)
   | refine qw (fun h=> ?_) (fun h=> ?_)
   | refine qd (fun h=> ?_) (fun h=> ?_)
   | refine zb env rfl rfl (qz ?_)
   | refine zn env rfl (qz ?_)
  all_goals rfl
 cases k2:qey n
 case false=>
  have e:wu n=7:=by simp [wu,Zx,k0,k1,k2]
  rw [Y4,e]
  refine zg (T:=tt) (N:=44) (rs:= [.tmp 2]) (fun vs w=>by simp) Tryz.func70 rfl rfl rfl rfl (by kernel_rfl) (zm rfl) (qy _ rfl) ?_
  repeat' first
   | refine ji env rfl ?_
   | (refine qf ?_ ?_;(· simp only [k0,Ab,Aa]))
   | (refine qg ?_ ?_;(· simp only [k0,Ab,Aa]))
   | (refine qi ?_ ?_;(· simp only [k0,Ab,Aa]))
   | (refine qh ?_ ?_;(· simp only [k0,Ab,Aa]))
   | (refine qn ?_ ?_;(· simp only [k0,Ab,Aa]))
   | (refine qo ?_ ?_;(· simp only [k0,Ab,Aa]))
   | (refine qf ?_ ?_;(· simp only [k1,Ab,Aa]))
   | (refine qg ?_ ?_;(· simp only [k1,Ab,Aa]))
   | (refine qi ?_ ?_;(· simp only [k1,Ab,Aa]))
   | (refine qh ?_ ?_;(· simp only [k1,Ab,Aa]))
   | (refine qn ?_ ?_;(· simp only [k1,Ab,Aa]))
   | (refine qo ?_ ?_;(· simp only [k1,Ab,Aa]))
   | (refine qf ?_ ?_;(· simp only [k2,Ab,Aa]))
   | (refine qg ?_ ?_;(· simp only [k2,Ab,Aa]))
   | (refine qi ?_ ?_;(· simp only [k2,Ab,Aa]))
   | (refine qh ?_ ?_;(· simp only [k2,Ab,Aa]))
   | (refine qn ?_ ?_;(· simp only [k2,Ab,Aa]))
   | (refine qo ?_ ?_;(· simp only [k2,Ab,Aa]))
   | refine qk (wj _) ?_
   | refine qk (W1 n k0 hk) ?_
   | refine qk (Kr n k0) ?_
   | refine qq (fun h=> ?_) (fun h=> ?_)
   | refine qw (fun h=> ?_) (fun h=> ?_)
   | refine qd (fun h=> ?_) (fun h=> ?_)
   | refine zb env rfl rfl (qz ?_)
   | refine zn env rfl (qz ?_)
  all_goals rfl
 cases k3:We n
 case false=>
  have e:wu n=7:=by simp [wu,Zx,k0,k1,k2,k3]
  rw [Y4,e]
  refine zg (T:=tt) (N:=44) (rs:= [.tmp 2]) (fun vs w=>by simp) Tryz.func70 rfl rfl rfl rfl (by kernel_rfl) (zm rfl) (qy _ rfl) ?_
  repeat' first
   | refine ji env rfl ?_
   | (refine qf ?_ ?_;(· simp only [k0,Ab,Aa]))
   | (refine qg ?_ ?_;(· simp only [k0,Ab,Aa]))
   | (refine qi ?_ ?_;(· simp only [k0,Ab,Aa]))
   | (refine qh ?_ ?_;(· simp only [k0,Ab,Aa]))
   | (refine qn ?_ ?_;(· simp only [k0,Ab,Aa]))
   | (refine qo ?_ ?_;(· simp only [k0,Ab,Aa]))
   | (refine qf ?_ ?_;(· simp only [k1,Ab,Aa]))
   | (refine qg ?_ ?_;(· simp only [k1,Ab,Aa]))
   | (refine qi ?_ ?_;(· simp only [k1,Ab,Aa]))
   | (refine qh ?_ ?_;(· simp only [k1,Ab,Aa]))
   | (refine qn ?_ ?_;(· simp only [k1,Ab,Aa]))
   | (refine qo ?_ ?_;(· simp only [k1,Ab,Aa]))
   | (refine qf ?_ ?_;(· simp only [k2,Ab,Aa]))
   | (refine qg ?_ ?_;(· simp only [k2,Ab,Aa]))
   | (refine qi ?_ ?_;(· simp only [k2,Ab,Aa]))
   | (refine qh ?_ ?_;(· simp only [k2,Ab,Aa]))
   | (refine qn ?_ ?_;(· simp only [k2,Ab,Aa]))
   | (refine qo ?_ ?_;(· simp only [k2,Ab,Aa]))
   | (refine qf ?_ ?_;(· simp only [k3,Ab,Aa]))
   | (refine qg ?_ ?_;(· simp only [k3,Ab,Aa]))
   | (refine qi ?_ ?_;(· simp only [k3,Ab,Aa]))
   | (refine qh ?_ ?_;(· simp only [k3,Ab,Aa]))
   | (refine qn ?_ ?_;(· simp only [k3,Ab,Aa]))
   | (refine qo ?_ ?_;(· simp only [k3,Ab,Aa]))
   | refine qk (wj _) ?_
   | refine qk (W1 n k0 hk) ?_
   | refine qk (Kr n k0) ?_
   | refine qk (qbw n (qfi n k1 k0)) ?_
   | refine qq (fun h=> ?_) (fun h=> ?_)
   | refine qw (fun h=> ?_) (fun h=> ?_)
   | refine qd (fun h=> ?_) (fun h=> ?_)
   | refine zb env rfl rfl (qz ?_)
   | refine zn env rfl (qz ?_)
  all_goals rfl
 cases k4:qbz n
 case false=>
  have e:wu n=4:=by simp [wu,Zx,k0,k1,k2,k3,k4]
  rw [Y4,e]
  refine zg (T:=tt) (N:=44) (rs:= [.tmp 2]) (fun vs w=>by simp) Tryz.func70 rfl rfl rfl rfl (by kernel_rfl) (zm rfl) (qy _ rfl) ?_
  repeat' first
   | refine ji env rfl ?_
   | (refine qf ?_ ?_;(· simp only [k0,Ab,Aa]))
   | (refine qg ?_ ?_;(· simp only [k0,Ab,Aa]))
   | (refine qi ?_ ?_;(· simp only [k0,Ab,Aa]))
   | (refine qh ?_ ?_;(· simp only [k0,Ab,Aa]))
   | (refine qn ?_ ?_;(· simp only [k0,Ab,Aa]))
   | (refine qo ?_ ?_;(· simp only [k0,Ab,Aa]))
   | (refine qf ?_ ?_;(· simp only [k1,Ab,Aa]))
   | (refine qg ?_ ?_;(· simp only [k1,Ab,Aa]))
   | (refine qi ?_ ?_;(· simp only [k1,Ab,Aa]))
   | (refine qh ?_ ?_;(· simp only [k1,Ab,Aa]))
   | (refine qn ?_ ?_;(· simp only [k1,Ab,Aa]))
   | (refine qo ?_ ?_;(· simp only [k1,Ab,Aa]))
   | (refine qf ?_ ?_;(· simp only [k2,Ab,Aa]))
   | (refine qg ?_ ?_;(· simp only [k2,Ab,Aa]))
   | (refine qi ?_ ?_;(· simp only [k2,Ab,Aa]))
   | (refine qh ?_ ?_;(· simp only [k2,Ab,Aa]))
   | (refine qn ?_ ?_;(· simp only [k2,Ab,Aa]))
   | (refine qo ?_ ?_;(· simp only [k2,Ab,Aa]))
   | (refine qf ?_ ?_;(· simp only [k3,Ab,Aa]))
   | (refine qg ?_ ?_;(· simp only [k3,Ab,Aa]))
   | (refine qi ?_ ?_;(· simp only [k3,Ab,Aa]))
   | (refine qh ?_ ?_;(· simp only [k3,Ab,Aa]))
   | (refine qn ?_ ?_;(· simp only [k3,Ab,Aa]))
   | (refine qo ?_ ?_;(· simp only [k3,Ab,Aa]))
   | (refine qf ?_ ?_;(· simp only [k4,Ab,Aa]))
   | (refine qg ?_ ?_;(· simp only [k4,Ab,Aa]))
   | (refine qi ?_ ?_;(· simp only [k4,Ab,Aa]))
   | (refine qh ?_ ?_;(· simp only [k4,Ab,Aa]))
   | (refine qn ?_ ?_;(· simp only [k4,Ab,Aa]))
   | (refine qo ?_ ?_;(· simp only [k4,Ab,Aa]))
   | refine qk (wj _) ?_
   | refine qk (W1 n k0 hk) ?_
   | refine qk (Kr n k0) ?_
   | refine qk (qbw n (qfi n k1 k0)) ?_
   | refine qk (qfj n k0) ?_
   | refine qq (fun h=> ?_) (fun h=> ?_)
   | refine qw (fun h=> ?_) (fun h=> ?_)
   | refine qd (fun h=> ?_) (fun h=> ?_)
   | refine zb env rfl rfl (qz ?_)
   | refine zn env rfl (qz ?_)
  all_goals rfl
 cases k5:qj3 n
 case false=>
  have e:wu n=7:=by simp [wu,Zx,k0,k1,k2,k3,k4,k5]
  rw [Y4,e]
  refine zg (T:=tt) (N:=44) (rs:= [.tmp 2]) (fun vs w=>by simp) Tryz.func70 rfl rfl rfl rfl (by kernel_rfl) (zm rfl) (qy _ rfl) ?_
  repeat' first
   | refine ji env rfl ?_
   | (refine qf ?_ ?_;(· simp only [k0,Ab,Aa]))
   | (refine qg ?_ ?_;(· simp only [k0,Ab,Aa]))
   | (refine qi ?_ ?_;(· simp only [k0,Ab,Aa]))
   | (refine qh ?_ ?_;(· simp only [k0,Ab,Aa]))
   | (refine qn ?_ ?_;(· simp only [k0,Ab,Aa]))
   | (refine qo ?_ ?_;(· simp only [k0,Ab,Aa]))
   | (refine qf ?_ ?_;(· simp only [k1,Ab,Aa]))
   | (refine qg ?_ ?_;(· simp only [k1,Ab,Aa]))
   | (refine qi ?_ ?_;(· simp only [k1,Ab,Aa]))
   | (refine qh ?_ ?_;(· simp only [k1,Ab,Aa]))
   | (refine qn ?_ ?_;(· simp only [k1,Ab,Aa]))
   | (refine qo ?_ ?_;(· simp only [k1,Ab,Aa]))
   | (refine qf ?_ ?_;(· simp only [k2,Ab,Aa]))
   | (refine qg ?_ ?_;(· simp only [k2,Ab,Aa]))
   | (refine qi ?_ ?_;(· simp only [k2,Ab,Aa]))
   | (refine qh ?_ ?_;(· simp only [k2,Ab,Aa]))
   | (refine qn ?_ ?_;(· simp only [k2,Ab,Aa]))
   | (refine qo ?_ ?_;(· simp only [k2,Ab,Aa]))
   | (refine qf ?_ ?_;(· simp only [k3,Ab,Aa]))
   | (refine qg ?_ ?_;(· simp only [k3,Ab,Aa]))
   | (refine qi ?_ ?_;(· simp only [k3,Ab,Aa]))
   | (refine qh ?_ ?_;(· simp only [k3,Ab,Aa]))
   | (refine qn ?_ ?_;(· simp only [k3,Ab,Aa]))
   | (refine qo ?_ ?_;(· simp only [k3,Ab,Aa]))
   | (refine qf ?_ ?_;(· simp only [k4,Ab,Aa]))
   | (refine qg ?_ ?_;(· simp only [k4,Ab,Aa]))
   | (refine qi ?_ ?_;(· simp only [k4,Ab,Aa]))
   | (refine qh ?_ ?_;(· simp only [k4,Ab,Aa]))
   | (refine qn ?_ ?_;(· simp only [k4,Ab,Aa]))
   | (refine qo ?_ ?_;(· simp only [k4,Ab,Aa]))
   | (refine qf ?_ ?_;(· simp only [k5,Ab,Aa]))
   | (refine qg ?_ ?_;(· simp only [k5,Ab,Aa]))
   | (refine qi ?_ ?_;(· simp only [k5,Ab,Aa]))
   | (refine qh ?_ ?_;(· simp only [k5,Ab,Aa]))
   | (refine qn ?_ ?_;(· simp only [k5,Ab,Aa]))
   | (refine qo ?_ ?_;(· simp only [k5,Ab,Aa]))
   | refine qk (wj _) ?_
   | refine qk (W1 n k0 hk) ?_
   | refine qk (Kr n k0) ?_
   | refine qk (qbw n (qfi n k1 k0)) ?_
   | refine qk (qfj n k0) ?_
   | refine qk (qnh n hg hk hs) ?_
   | refine qq (fun h=> ?_) (fun h=> ?_)
   | refine qw (fun h=> ?_) (fun h=> ?_)
   | refine qd (fun h=> ?_) (fun h=> ?_)
   | refine zb env rfl rfl (qz ?_)
   | refine zn env rfl (qz ?_)
  all_goals rfl
 have e:wu n=0:=by simp [wu,Zx,k0,k1,k2,k3,k4,k5]
 rw [Y4,e,if_pos rfl]
 refine zg (T:=tt) (N:=44) (rs:= [.tmp 2]) (fun vs w=>by simp) Tryz.func70 rfl rfl rfl rfl (by kernel_rfl) (zm rfl) (qy _ rfl) ?_
 repeat' first
  | refine ji env rfl ?_
  | (refine Kf (α:=Nat) (fun i=>i≤n.kids.length∧we n.kids=we (n.kids.drop i)) (fun i=>n.kids.length - i) (fun i=> [(34, .int .i64 i)]) (fun _=> []) (0) (fun _=>rfl) (fun _=>rfl) (⟨Az _,rfl⟩) ?_ ?_ (fun i hJ=> ?_);(· simp [leFT,leV,leOs,leO,leC,rho,AV.ren,AV.ren1,AV.un,AV.un1,AV.closed]);(· simp [leFT,leV,leOs,leO,leC,rho,AV.ren,AV.ren1,AV.un,AV.un1,AV.closed]);rcases q09 n.kids i hk hJ with ⟨m,hm,hmem,hlt,hb,hw,⟨g1,he⟩ | ⟨g1,he⟩⟩ | ⟨hb,he⟩)
  | refine Ke rfl ?_
  | refine Jk rfl rfl ?_
  | (refine Yq (i+1) ?_ ?_ ?_ ?_;(· exact ⟨by omega,he⟩);(· omega);(· (simp only [hw];simp [leFT,leV,leOs,leO,leC,rho,AV.ren,AV.ren1,AV.un,AV.un1,AV.closed]));(· simp [leFT,leV,leOs,leO,leC,rho,AV.ren,AV.ren1,AV.un,AV.un1,AV.closed]))
  | (refine qf ?_ ?_;(· simp only [k0,Ab,Aa]))
  | (refine qg ?_ ?_;(· simp only [k0,Ab,Aa]))
  | (refine qi ?_ ?_;(· simp only [k0,Ab,Aa]))
  | (refine qh ?_ ?_;(· simp only [k0,Ab,Aa]))
  | (refine qn ?_ ?_;(· simp only [k0,Ab,Aa]))
  | (refine qo ?_ ?_;(· simp only [k0,Ab,Aa]))
  | (refine qf ?_ ?_;(· simp only [k1,Ab,Aa]))
  | (refine qg ?_ ?_;(· simp only [k1,Ab,Aa]))
  | (refine qi ?_ ?_;(· simp only [k1,Ab,Aa]))
  | (refine qh ?_ ?_;(· simp only [k1,Ab,Aa]))
  | (refine qn ?_ ?_;(· simp only [k1,Ab,Aa]))
  | (refine qo ?_ ?_;(· simp only [k1,Ab,Aa]))
  | (refine qf ?_ ?_;(· simp only [k2,Ab,Aa]))
  | (refine qg ?_ ?_;(· simp only [k2,Ab,Aa]))
  | (refine qi ?_ ?_;(· simp only [k2,Ab,Aa]))
  | (refine qh ?_ ?_;(· simp only [k2,Ab,Aa]))
  | (refine qn ?_ ?_;(· simp only [k2,Ab,Aa]))
  | (refine qo ?_ ?_;(· simp only [k2,Ab,Aa]))
  | (refine qf ?_ ?_;(· simp only [k3,Ab,Aa]))
  | (refine qg ?_ ?_;(· simp only [k3,Ab,Aa]))
  | (refine qi ?_ ?_;(· simp only [k3,Ab,Aa]))
  | (refine qh ?_ ?_;(· simp only [k3,Ab,Aa]))
  | (refine qn ?_ ?_;(· simp only [k3,Ab,Aa]))
  | (refine qo ?_ ?_;(· simp only [k3,Ab,Aa]))
  | (refine qf ?_ ?_;(· simp only [k4,Ab,Aa]))
  | (refine qg ?_ ?_;(· simp only [k4,Ab,Aa]))
  | (refine qi ?_ ?_;(· simp only [k4,Ab,Aa]))
  | (refine qh ?_ ?_;(· simp only [k4,Ab,Aa]))
  | (refine qn ?_ ?_;(· simp only [k4,Ab,Aa]))
  | (refine qo ?_ ?_;(· simp only [k4,Ab,Aa]))
  | (refine qf ?_ ?_;(· simp only [k5,Ab,Aa]))
  | (refine qg ?_ ?_;(· simp only [k5,Ab,Aa]))
  | (refine qi ?_ ?_;(· simp only [k5,Ab,Aa]))
  | (refine qh ?_ ?_;(· simp only [k5,Ab,Aa]))
  | (refine qn ?_ ?_;(· simp only [k5,Ab,Aa]))
  | (refine qo ?_ ?_;(· simp only [k5,Ab,Aa]))
  | (refine qf ?_ ?_;(· simp only [hb]))
  | (refine qg ?_ ?_;(· simp only [hb]))
  | (refine qi ?_ ?_;(· simp only [hb]))
  | (refine qh ?_ ?_;(· simp only [hb]))
  | (refine qn ?_ ?_;(· simp only [hb]))
  | (refine qo ?_ ?_;(· simp only [hb]))
  | (refine qf ?_ ?_;(· simp only [g1,Ab,Aa]))
  | (refine qg ?_ ?_;(· simp only [g1,Ab,Aa]))
  | (refine qi ?_ ?_;(· simp only [g1,Ab,Aa]))
  | (refine qh ?_ ?_;(· simp only [g1,Ab,Aa]))
  | (refine qn ?_ ?_;(· simp only [g1,Ab,Aa]))
  | (refine qo ?_ ?_;(· simp only [g1,Ab,Aa]))
  | refine Y5 env rfl rfl rfl rfl rfl (qcu hm) ?_
  | refine qk (wj _) ?_
  | refine qk (W1 n k0 hk) ?_
  | refine qk (Kr n k0) ?_
  | refine qk (qbw n (qfi n k1 k0)) ?_
  | refine qk (qfj n k0) ?_
  | refine qk (qnh n hg hk hs) ?_
  | refine qk (ih m hmem) ?_
  | refine qq (fun h=> ?_) (fun h=> ?_)
  | refine qw (fun h=> ?_) (fun h=> ?_)
  | refine qd (fun h=> ?_) (fun h=> ?_)
  | refine zb env rfl rfl (qz ?_)
  | refine zn env rfl (qz ?_)
 all_goals refine Ka ?_
 all_goals rw [he]
def ya (o:Option Nat) (left:Int):Int:=match o with
 | some s=>if (s:Int)≤left then left - s else -1
 | none=> -1
theorem q5q:∀(n:Node) (d s:Nat),size? n d=some s→0 < s:=by
 intro n d s h
 cases n with
 | mk k t g l=>
   cases d with
   | zero=>simp [size?] at h
   | succ d=>
     simp only [size?] at h
     split at h
     ·cases h
     simp only [Am] at h
     obtain ⟨a,_,rfl⟩:=h
     omega
theorem quj (n:Node):size? n 0=none:=by cases n;rfl
theorem quk (n:Node) (d:Nat):size? n (d+1)=if most n.kind < (n.kids.length:Int) then none else (sizeL? n.kids d).map (· +1):=by cases n;rfl
theorem qia (m:Node) (l:List Node) (d:Nat):sizeL? (m::l) d=match size? m d,sizeL? l d with | some a,some b=>some (a+b) | _,_=>none:=rfl
theorem qx0 (m:Node) (l:List Node) (d:Nat) (left:Int) (h0:0≤left):
 (ya (size? m d) left < 0∧ya (sizeL? (m::l) d) left= -1)∨(0≤ya (size? m d) left∧ya (size? m d) left≤left∧ya (sizeL? (m::l) d) left=ya (sizeL? l d) (ya (size? m d) left)):=by
 rw [qia]
 cases ha:size? m d with
 | none=>exact .inl ⟨by simp [ya],by simp [ya]⟩
 | some a=>
   by_cases hl:(a:Int)≤left
   ·refine .inr ⟨by simp only [ya,if_pos hl];omega,by simp only [ya,if_pos hl];omega,?_⟩
    cases hb:sizeL? l d with
    | none=>simp [ya]
    | some b=>
      simp only [ya,if_pos hl]
      by_cases h2:(b:Int)≤left - a
      ·rw [if_pos (by omega),if_pos h2];omega
      rw [if_neg (by omega),if_neg h2]
   refine .inl ⟨by simp only [ya,if_neg hl];omega,?_⟩
   cases hb:sizeL? l d with
   | none=>simp [ya]
   | some b=>simp only [ya];rw [if_neg (by omega)]
theorem qxz (n:Node) (left:Int) (d:Nat) (hl:0 < left):ya (size? n (d+1)) left=if most n.kind < (n.kids.length:Int) then -1 else ya (sizeL? n.kids d) (left - 1):=by
 rw [quk]
 split
 ·rfl
 cases hb:sizeL? n.kids d with
 | none=>rfl
 | some b=>
   simp only [AP,ya]
   by_cases h:(b:Int)≤left - 1
   ·rw [if_pos (by omega),if_pos h];omega
   rw [if_neg (by omega),if_neg h]
theorem qxy (l:List Node) (d i:Nat) (top left:Int) (hl:l.length≤9223372036854775807) (hJ:i≤l.length∧0≤left∧left≤top∧ya (sizeL? l d) top=ya (sizeL? (l.drop i) d) left):
 (∃ m,l[i]? =some m∧m∈l∧i < l.length∧decide ((i:Int) < ((l.map Node.cells).length:Int))=true∧IntKind.i64.wrap ((i:Int)+1)=((i+1:Nat):Int)∧
   ((decide (ya (size? m d) left < 0)=true∧ya (sizeL? l d) top= -1)∨
    (decide (ya (size? m d) left < 0)=false∧0≤ya (size? m d) left∧ya (size? m d) left≤top∧ya (sizeL? l d) top=ya (sizeL? (l.drop (i+1)) d) (ya (size? m d) left))))∨
 (decide ((i:Int) < ((l.map Node.cells).length:Int))=false∧ya (sizeL? l d) top=left):=by
 obtain ⟨h1,h2,h3,h4⟩:=hJ
 rcases Bt i l.length with h | h
 ·refine .inl ⟨l[i],Aj h,B4 h,h,by simpa using h,js (by omega) (by omega),?_⟩
  rw [h4,Bl h]
  rcases qx0 l[i] (l.drop (i+1)) d left h2 with ⟨a,b⟩ | ⟨a,b,c⟩
  ·exact .inl ⟨decide_eq_true a,b⟩
  exact .inr ⟨decide_eq_false (by omega),a,by omega,c⟩
 refine .inr ⟨by simpa using h,?_⟩
 rw [h4,AD h]
 show ya (some 0) left=left
 simp only [ya]
 rw [if_pos (by omega)];omega
set_option maxHeartbeats 4000000 in
theorem qr6:∀n:Node,Wf n→∀(left:Int) (d:Int), -9223372036854775808≤left→left≤9223372036854775807→ -9223372036854775808≤d→d≤9223372036854775807→
 Fn Tryz.prog G 69 [.agg (zl n), .int .i64 left, .int .i64 d] (.int .i64 (ya (size? n d.toNat) left)):=by
 intro n hwf
 induction hwf with | mk n hk hg ht hs _ ih=> ?_
 intro left d hl0 hl1 hd0 hd1
 by_cases c1:left≤0
 case pos=>
  have e1:decide (left≤0)=true:=decide_eq_true c1
  have e:ya (size? n d.toNat) left= -1:=by
   unfold ya
   split
   ·rename_i s h;have:=q5q n _ s h;rw [if_neg (by omega)]
   rfl
  rw [e]
  refine zg (T:=tt) (N:=42) (rs:= [.tmp 6]) (fun vs w=>by simp) Tryz.func69 rfl rfl rfl rfl (by kernel_rfl) (zm rfl) (qy _ rfl) ?_
  repeat' first
   | refine ji env rfl ?_
   | (refine qf ?_ ?_;(· simp only [e1]))
   | (refine qg ?_ ?_;(· simp only [e1]))
   | (refine qi ?_ ?_;(· simp only [e1]))
   | (refine qh ?_ ?_;(· simp only [e1]))
   | (refine qn ?_ ?_;(· simp only [e1]))
   | (refine qo ?_ ?_;(· simp only [e1]))
   | refine qq (fun h=> ?_) (fun h=> ?_)
   | refine qw (fun h=> ?_) (fun h=> ?_)
   | refine qd (fun h=> ?_) (fun h=> ?_)
   | refine zb env rfl rfl (qz ?_)
   | refine zn env rfl (qz ?_)
  all_goals rfl
 have e1:decide (left≤0)=false:=decide_eq_false c1
 by_cases c2:d≤0
 case pos=>
  have e2:decide (d≤0)=true:=decide_eq_true c2
  have e:ya (size? n d.toNat) left= -1:=by rw [show d.toNat=0 by omega,quj];rfl
  rw [e]
  refine zg (T:=tt) (N:=42) (rs:= [.tmp 6]) (fun vs w=>by simp) Tryz.func69 rfl rfl rfl rfl (by kernel_rfl) (zm rfl) (qy _ rfl) ?_
  repeat' first
   | refine ji env rfl ?_
   | (refine qf ?_ ?_;(· simp only [e1]))
   | (refine qg ?_ ?_;(· simp only [e1]))
   | (refine qi ?_ ?_;(· simp only [e1]))
   | (refine qh ?_ ?_;(· simp only [e1]))
   | (refine qn ?_ ?_;(· simp only [e1]))
   | (refine qo ?_ ?_;(· simp only [e1]))
   | (refine qf ?_ ?_;(· simp only [e2]))
   | (refine qg ?_ ?_;(· simp only [e2]))
   | (refine qi ?_ ?_;(· simp only [e2]))
   | (refine qh ?_ ?_;(· simp only [e2]))
   | (refine qn ?_ ?_;(· simp only [e2]))
   | (refine qo ?_ ?_;(· simp only [e2]))
   | refine qq (fun h=> ?_) (fun h=> ?_)
   | refine qw (fun h=> ?_) (fun h=> ?_)
   | refine qd (fun h=> ?_) (fun h=> ?_)
   | refine zb env rfl rfl (qz ?_)
   | refine zn env rfl (qz ?_)
  all_goals rfl
 have e2:decide (d≤0)=false:=decide_eq_false c2
 obtain ⟨d,rfl⟩:∃q:Nat,d=((q+1:Nat):Int):=⟨d.toNat - 1,by omega⟩
 rw [Bi,qxz n left d (by omega)]
 by_cases c3:most n.kind < (n.kids.length:Int)
 case pos=>
  have e3:decide (most n.kind < ((n.kids.map Node.cells).length:Int))=true:=by simpa using c3
  rw [if_pos c3]
  refine zg (T:=tt) (N:=42) (rs:= [.tmp 6]) (fun vs w=>by simp) Tryz.func69 rfl rfl rfl rfl (by kernel_rfl) (zm rfl) (qy _ rfl) ?_
  repeat' first
   | refine ji env rfl ?_
   | (refine qf ?_ ?_;(· simp only [e1]))
   | (refine qg ?_ ?_;(· simp only [e1]))
   | (refine qi ?_ ?_;(· simp only [e1]))
   | (refine qh ?_ ?_;(· simp only [e1]))
   | (refine qn ?_ ?_;(· simp only [e1]))
   | (refine qo ?_ ?_;(· simp only [e1]))
   | (refine qf ?_ ?_;(· simp only [e2]))
   | (refine qg ?_ ?_;(· simp only [e2]))
   | (refine qi ?_ ?_;(· simp only [e2]))
   | (refine qh ?_ ?_;(· simp only [e2]))
   | (refine qn ?_ ?_;(· simp only [e2]))
   | (refine qo ?_ ?_;(· simp only [e2]))
   | (refine qf ?_ ?_;(· simp only [e3]))
   | (refine qg ?_ ?_;(· simp only [e3]))
   | (refine qi ?_ ?_;(· simp only [e3]))
   | (refine qh ?_ ?_;(· simp only [e3]))
   | (refine qn ?_ ?_;(· simp only [e3]))
   | (refine qo ?_ ?_;(· simp only [e3]))
   | refine qk (qng _) ?_
   | refine qq (fun h=> ?_) (fun h=> ?_)
   | refine qw (fun h=> ?_) (fun h=> ?_)
   | refine qd (fun h=> ?_) (fun h=> ?_)
   | refine zb env rfl rfl (qz ?_)
   | refine zn env rfl (qz ?_)
  all_goals rfl
 have e3:decide (most n.kind < ((n.kids.map Node.cells).length:Int))=false:=by simpa using c3
 rw [if_neg c3]
 have w1:IntKind.i64.wrap (left - 1)=left - 1:=js (by omega) (by omega)
 have w2:IntKind.i64.wrap (((d+1:Nat):Int) - 1)=(d:Int):=by rw [js (by omega) (by omega)];omega
 refine zg (T:=tt) (N:=42) (rs:= [.tmp 6]) (fun vs w=>by simp) Tryz.func69 rfl rfl rfl rfl (by kernel_rfl) (zm rfl) (qy _ rfl) ?_
 repeat' first
  | refine ji env rfl ?_
  | (refine Kf (α:=Nat × Int) (fun a=>a.1≤n.kids.length∧0≤a.2∧a.2≤left - 1∧ya (sizeL? n.kids d) (left - 1)=ya (sizeL? (n.kids.drop a.1) d) a.2) (fun a=>n.kids.length - a.1) (fun a=> [(29, .int .i64 a.1),(1, .int .i64 a.2)]) (fun _=> []) ((0,left - 1)) (fun _=>rfl) (fun _=>rfl) (⟨Az _,by show 0≤left - 1;omega,Int.le_refl _,rfl⟩) ?_ ?_ (fun ⟨i,r⟩ hJ=> ?_);(· (simp only [w1];simp [leFT,leV,leOs,leO,leC,rho,AV.ren,AV.ren1,AV.un,AV.un1,AV.closed]));(· (simp only [w1];simp [leFT,leV,leOs,leO,leC,rho,AV.ren,AV.ren1,AV.un,AV.un1,AV.closed]));rcases qxy n.kids d i (left - 1) r hk hJ with ⟨m,hm,hmem,hlt,hb,hw,⟨g1,he⟩ | ⟨g1,p1,p2,he⟩⟩ | ⟨hb,he⟩)
  | refine Ke rfl ?_
  | refine Jk rfl rfl ?_
  | (refine Yq ((i+1,ya (size? m d) r)) ?_ ?_ ?_ ?_;(· exact ⟨by show i+1≤n.kids.length;omega,p1,p2,he⟩);(· (show n.kids.length - (i+1) < n.kids.length - i;omega));(· (simp only [hw];simp [leFT,leV,leOs,leO,leC,rho,AV.ren,AV.ren1,AV.un,AV.un1,AV.closed]));(· simp [leFT,leV,leOs,leO,leC,rho,AV.ren,AV.ren1,AV.un,AV.un1,AV.closed]))
  | refine Y5 env rfl rfl rfl rfl rfl (qcu hm) ?_
  | refine qk (x:= .int .i64 (ya (size? m d) r)) (by rw [w2];exact ih m hmem r d (by omega) (by omega) (by omega) (by omega)) ?_
  | (refine qf ?_ ?_;(· simp only [e1]))
  | (refine qg ?_ ?_;(· simp only [e1]))
  | (refine qi ?_ ?_;(· simp only [e1]))
  | (refine qh ?_ ?_;(· simp only [e1]))
  | (refine qn ?_ ?_;(· simp only [e1]))
  | (refine qo ?_ ?_;(· simp only [e1]))
  | (refine qf ?_ ?_;(· simp only [e2]))
  | (refine qg ?_ ?_;(· simp only [e2]))
  | (refine qi ?_ ?_;(· simp only [e2]))
  | (refine qh ?_ ?_;(· simp only [e2]))
  | (refine qn ?_ ?_;(· simp only [e2]))
  | (refine qo ?_ ?_;(· simp only [e2]))
  | (refine qf ?_ ?_;(· simp only [e3]))
  | (refine qg ?_ ?_;(· simp only [e3]))
  | (refine qi ?_ ?_;(· simp only [e3]))
  | (refine qh ?_ ?_;(· simp only [e3]))
  | (refine qn ?_ ?_;(· simp only [e3]))
  | (refine qo ?_ ?_;(· simp only [e3]))
  | (refine qf ?_ ?_;(· simp only [hb]))
  | (refine qg ?_ ?_;(· simp only [hb]))
  | (refine qi ?_ ?_;(· simp only [hb]))
  | (refine qh ?_ ?_;(· simp only [hb]))
  | (refine qn ?_ ?_;(· simp only [hb]))
  | (refine qo ?_ ?_;(· simp only [hb]))
  | (refine qf ?_ ?_;(· simp only [g1]))
  | (refine qg ?_ ?_;(· simp only [g1]))
  | (refine qi ?_ ?_;(· simp only [g1]))
  | (refine qh ?_ ?_;(· simp only [g1]))
  | (refine qn ?_ ?_;(· simp only [g1]))
  | (refine qo ?_ ?_;(· simp only [g1]))
  | refine qk (qng _) ?_
  | refine qq (fun h=> ?_) (fun h=> ?_)
  | refine qw (fun h=> ?_) (fun h=> ?_)
  | refine qd (fun h=> ?_) (fun h=> ?_)
  | refine zb env rfl rfl (qz ?_)
  | refine zn env rfl (qz ?_)
 all_goals refine Ka ?_
 all_goals rw [he]
end Go.Proofs.YtpnkemogepoioaaGreatDoorW.Ex.Gr
