/- Whole trees: the program's first, within and Check. Conditions: those of the trees that come in (Wf). -/
import Derived.Test.YtpnkemogepoioaaGreatDoorGe
namespace Go.Proofs.YtpnkemogepoioaaGreatDoorW.Ex.Gr
open Go Go.Proofs.YtpnkemogepoioaaGreatDoorW.Ex
set_option linter.all false
set_option maxRecDepth 100000
theorem qyl (l:List Node) (i:Nat) (hl:l.length≤9223372036854775807) (hJ:i≤l.length∧wi l=wi (l.drop i)):
 (∃ m,l[i]? =some m∧m∈l∧i < l.length∧decide ((i:Int) < ((l.map Node.cells).length:Int))=true∧IntKind.i64.wrap ((i:Int)+1)=((i+1:Nat):Int)∧
   ((decide (firstErr m=0)=true∧wi l=wi (l.drop (i+1)))∨(decide (firstErr m=0)=false∧wi l=firstErr m)))∨
 (decide ((i:Int) < ((l.map Node.cells).length:Int))=false∧wi l=0):=by
 rcases Br i l.length with h | h
 ·refine .inl ⟨l[i],Ak h,Ci h,h,by simpa using h,we (by omega) (by omega),?_⟩
  have e:wi (l.drop i)=if firstErr l[i]=0 then wi (l.drop (i+1)) else firstErr l[i]:=by rw [Be h,wi]
  rw [hJ.2,e]
  by_cases hv:firstErr l[i]=0
  ·exact .inl ⟨decide_eq_true hv,if_pos hv⟩
  exact .inr ⟨decide_eq_false hv,if_neg hv⟩
 refine .inr ⟨by simpa using h,?_⟩
 rw [hJ.2,AW h,wi]
set_option maxHeartbeats 4000000 in
theorem qrd:∀n:Node,Wf n→Fn Tryz.prog G 70 [.agg (z7 n)] (.int .i64 (firstErr n)):=by
 intro n hwf
 induction hwf with | mk n hk hg ht hs _ ih=> ?_
 cases k0:known n.kind
 case false=>
  have e:vm n=7:=by simp [vm,qai,k0]
  rw [Ya,e]
  refine z8 (T:=tt) (N:=44) (rs:= [.tmp 2]) (fun vs w=>by simp) Tryz.func70 rfl rfl rfl rfl (by kernel_rfl) (jo rfl) (zf _ rfl) ?_
  repeat' first
   | refine ky env rfl ?_
   | (refine qt ?_ ?_;(· simp only [k0,Ac,Aa]))
   | (refine qu ?_ ?_;(· simp only [k0,Ac,Aa]))
   | (refine qw ?_ ?_;(· simp only [k0,Ac,Aa]))
   | (refine qv ?_ ?_;(· simp only [k0,Ac,Aa]))
   | (refine qy ?_ ?_;(· simp only [k0,Ac,Aa]))
   | (refine qz ?_ ?_;(· simp only [k0,Ac,Aa]))
   | refine qn (wg _) ?_
   | refine qr (fun h=> ?_) (fun h=> ?_)
   | refine q9 (fun h=> ?_) (fun h=> ?_)
   | refine qe (fun h=> ?_) (fun h=> ?_)
   | refine yg env rfl rfl (zl ?_)
   | refine jp env rfl (zl ?_)
  all_goals rfl
 cases k1:Yd n
 case false=>
  have e:vm n=7:=by simp [vm,qai,k0,k1]
  rw [Ya,e]
  refine z8 (T:=tt) (N:=44) (rs:= [.tmp 2]) (fun vs w=>by simp) Tryz.func70 rfl rfl rfl rfl (by kernel_rfl) (jo rfl) (zf _ rfl) ?_
  repeat' first
   | refine ky env rfl ?_
   | (refine qt ?_ ?_;(· simp only [k0,Ac,Aa]))
   | (refine qu ?_ ?_;(· simp only [k0,Ac,Aa]))
   | (refine qw ?_ ?_;(· simp only [k0,Ac,Aa]))
   | (refine qv ?_ ?_;(· simp only [k0,Ac,Aa]))
   | (refine qy ?_ ?_;(· simp only [k0,Ac,Aa]))
   | (refine qz ?_ ?_;(· simp only [k0,Ac,Aa]))
   | (refine qt ?_ ?_;(· simp only [k1,Ac,Aa]))
   | (refine qu ?_ ?_;(· simp only [k1,Ac,Aa]))
   | (refine qw ?_ ?_;(· simp only [k1,Ac,Aa]))
   | (refine qv ?_ ?_;(· simp only [k1,Ac,Aa]))
   | (refine qy ?_ ?_;(· simp only [k1,Ac,Aa]))
   | (refine qz ?_ ?_;(· simp only [k1,Ac,Aa]))
   | refine qn (wg _) ?_
   | refine qn (Kz n k0 hk) ?_
   | refine qr (fun h=> ?_) (fun h=> ?_)
   | refine q9 (fun h=> ?_) (fun h=> ?_)
   | refine qe (fun h=> ?_) (fun h=> ?_)
   | refine yg env rfl rfl (zl ?_)
   | refine jp env rfl (zl ?_)
  all_goals rfl
 cases k2:Kw n
 case false=>
  have e:vm n=7:=by simp [vm,qai,k0,k1,k2]
  rw [Ya,e]
  refine z8 (T:=tt) (N:=44) (rs:= [.tmp 2]) (fun vs w=>by simp) Tryz.func70 rfl rfl rfl rfl (by kernel_rfl) (jo rfl) (zf _ rfl) ?_
  repeat' first
   | refine ky env rfl ?_
   | (refine qt ?_ ?_;(· simp only [k0,Ac,Aa]))
   | (refine qu ?_ ?_;(· simp only [k0,Ac,Aa]))
   | (refine qw ?_ ?_;(· simp only [k0,Ac,Aa]))
   | (refine qv ?_ ?_;(· simp only [k0,Ac,Aa]))
   | (refine qy ?_ ?_;(· simp only [k0,Ac,Aa]))
   | (refine qz ?_ ?_;(· simp only [k0,Ac,Aa]))
   | (refine qt ?_ ?_;(· simp only [k1,Ac,Aa]))
   | (refine qu ?_ ?_;(· simp only [k1,Ac,Aa]))
   | (refine qw ?_ ?_;(· simp only [k1,Ac,Aa]))
   | (refine qv ?_ ?_;(· simp only [k1,Ac,Aa]))
   | (refine qy ?_ ?_;(· simp only [k1,Ac,Aa]))
   | (refine qz ?_ ?_;(· simp only [k1,Ac,Aa]))
   | (refine qt ?_ ?_;(· simp only [k2,Ac,Aa]))
   | (refine qu ?_ ?_;(· simp only [k2,Ac,Aa]))
   | (refine qw ?_ ?_;(· simp only [k2,Ac,Aa]))
   | (refine qv ?_ ?_;(· simp only [k2,Ac,Aa]))
   | (refine qy ?_ ?_;(· simp only [k2,Ac,Aa]))
   | (refine qz ?_ ?_;(· simp only [k2,Ac,Aa]))
   | refine qn (wg _) ?_
   | refine qn (Kz n k0 hk) ?_
   | refine qn (Ym n k0) ?_
   | refine qr (fun h=> ?_) (fun h=> ?_)
   | refine q9 (fun h=> ?_) (fun h=> ?_)
   | refine qe (fun h=> ?_) (fun h=> ?_)
   | refine yg env rfl rfl (zl ?_)
   | refine jp env rfl (zl ?_)
  all_goals rfl
 cases k3:Wn n
 case false=>
  have e:vm n=7:=by simp [vm,qai,k0,k1,k2,k3]
  rw [Ya,e]
  refine z8 (T:=tt) (N:=44) (rs:= [.tmp 2]) (fun vs w=>by simp) Tryz.func70 rfl rfl rfl rfl (by kernel_rfl) (jo rfl) (zf _ rfl) ?_
  repeat' first
   | refine ky env rfl ?_
   | (refine qt ?_ ?_;(· simp only [k0,Ac,Aa]))
   | (refine qu ?_ ?_;(· simp only [k0,Ac,Aa]))
   | (refine qw ?_ ?_;(· simp only [k0,Ac,Aa]))
   | (refine qv ?_ ?_;(· simp only [k0,Ac,Aa]))
   | (refine qy ?_ ?_;(· simp only [k0,Ac,Aa]))
   | (refine qz ?_ ?_;(· simp only [k0,Ac,Aa]))
   | (refine qt ?_ ?_;(· simp only [k1,Ac,Aa]))
   | (refine qu ?_ ?_;(· simp only [k1,Ac,Aa]))
   | (refine qw ?_ ?_;(· simp only [k1,Ac,Aa]))
   | (refine qv ?_ ?_;(· simp only [k1,Ac,Aa]))
   | (refine qy ?_ ?_;(· simp only [k1,Ac,Aa]))
   | (refine qz ?_ ?_;(· simp only [k1,Ac,Aa]))
   | (refine qt ?_ ?_;(· simp only [k2,Ac,Aa]))
   | (refine qu ?_ ?_;(· simp only [k2,Ac,Aa]))
   | (refine qw ?_ ?_;(· simp only [k2,Ac,Aa]))
   | (refine qv ?_ ?_;(· simp only [k2,Ac,Aa]))
   | (refine qy ?_ ?_;(· simp only [k2,Ac,Aa]))
   | (refine qz ?_ ?_;(· simp only [k2,Ac,Aa]))
   | (refine qt ?_ ?_;(· simp only [k3,Ac,Aa]))
   | (refine qu ?_ ?_;(· simp only [k3,Ac,Aa]))
   | (refine qw ?_ ?_;(· simp only [k3,Ac,Aa]))
   | (refine qv ?_ ?_;(· simp only [k3,Ac,Aa]))
   | (refine qy ?_ ?_;(· simp only [k3,Ac,Aa]))
   | (refine qz ?_ ?_;(· simp only [k3,Ac,Aa]))
   | refine qn (wg _) ?_
   | refine qn (Kz n k0 hk) ?_
   | refine qn (Ym n k0) ?_
   | refine qn (qaq n (qgc n k1 k0)) ?_
   | refine qr (fun h=> ?_) (fun h=> ?_)
   | refine q9 (fun h=> ?_) (fun h=> ?_)
   | refine qe (fun h=> ?_) (fun h=> ?_)
   | refine yg env rfl rfl (zl ?_)
   | refine jp env rfl (zl ?_)
  all_goals rfl
 cases k4:qat n
 case false=>
  have e:vm n=4:=by simp [vm,qai,k0,k1,k2,k3,k4]
  rw [Ya,e]
  refine z8 (T:=tt) (N:=44) (rs:= [.tmp 2]) (fun vs w=>by simp) Tryz.func70 rfl rfl rfl rfl (by kernel_rfl) (jo rfl) (zf _ rfl) ?_
  repeat' first
   | refine ky env rfl ?_
   | (refine qt ?_ ?_;(· simp only [k0,Ac,Aa]))
   | (refine qu ?_ ?_;(· simp only [k0,Ac,Aa]))
   | (refine qw ?_ ?_;(· simp only [k0,Ac,Aa]))
   | (refine qv ?_ ?_;(· simp only [k0,Ac,Aa]))
   | (refine qy ?_ ?_;(· simp only [k0,Ac,Aa]))
   | (refine qz ?_ ?_;(· simp only [k0,Ac,Aa]))
   | (refine qt ?_ ?_;(· simp only [k1,Ac,Aa]))
   | (refine qu ?_ ?_;(· simp only [k1,Ac,Aa]))
   | (refine qw ?_ ?_;(· simp only [k1,Ac,Aa]))
   | (refine qv ?_ ?_;(· simp only [k1,Ac,Aa]))
   | (refine qy ?_ ?_;(· simp only [k1,Ac,Aa]))
   | (refine qz ?_ ?_;(· simp only [k1,Ac,Aa]))
   | (refine qt ?_ ?_;(· simp only [k2,Ac,Aa]))
   | (refine qu ?_ ?_;(· simp only [k2,Ac,Aa]))
   | (refine qw ?_ ?_;(· simp only [k2,Ac,Aa]))
   | (refine qv ?_ ?_;(· simp only [k2,Ac,Aa]))
   | (refine qy ?_ ?_;(· simp only [k2,Ac,Aa]))
   | (refine qz ?_ ?_;(· simp only [k2,Ac,Aa]))
   | (refine qt ?_ ?_;(· simp only [k3,Ac,Aa]))
   | (refine qu ?_ ?_;(· simp only [k3,Ac,Aa]))
   | (refine qw ?_ ?_;(· simp only [k3,Ac,Aa]))
   | (refine qv ?_ ?_;(· simp only [k3,Ac,Aa]))
   | (refine qy ?_ ?_;(· simp only [k3,Ac,Aa]))
   | (refine qz ?_ ?_;(· simp only [k3,Ac,Aa]))
   | (refine qt ?_ ?_;(· simp only [k4,Ac,Aa]))
   | (refine qu ?_ ?_;(· simp only [k4,Ac,Aa]))
   | (refine qw ?_ ?_;(· simp only [k4,Ac,Aa]))
   | (refine qv ?_ ?_;(· simp only [k4,Ac,Aa]))
   | (refine qy ?_ ?_;(· simp only [k4,Ac,Aa]))
   | (refine qz ?_ ?_;(· simp only [k4,Ac,Aa]))
   | refine qn (wg _) ?_
   | refine qn (Kz n k0 hk) ?_
   | refine qn (Ym n k0) ?_
   | refine qn (qaq n (qgc n k1 k0)) ?_
   | refine qn (qds n k0) ?_
   | refine qr (fun h=> ?_) (fun h=> ?_)
   | refine q9 (fun h=> ?_) (fun h=> ?_)
   | refine qe (fun h=> ?_) (fun h=> ?_)
   | refine yg env rfl rfl (zl ?_)
   | refine jp env rfl (zl ?_)
  all_goals rfl
 cases k5:qhw n
 case false=>
  have e:vm n=7:=by simp [vm,qai,k0,k1,k2,k3,k4,k5]
  rw [Ya,e]
  refine z8 (T:=tt) (N:=44) (rs:= [.tmp 2]) (fun vs w=>by simp) Tryz.func70 rfl rfl rfl rfl (by kernel_rfl) (jo rfl) (zf _ rfl) ?_
  repeat' first
   | refine ky env rfl ?_
   | (refine qt ?_ ?_;(· simp only [k0,Ac,Aa]))
   | (refine qu ?_ ?_;(· simp only [k0,Ac,Aa]))
   | (refine qw ?_ ?_;(· simp only [k0,Ac,Aa]))
   | (refine qv ?_ ?_;(· simp only [k0,Ac,Aa]))
   | (refine qy ?_ ?_;(· simp only [k0,Ac,Aa]))
   | (refine qz ?_ ?_;(· simp only [k0,Ac,Aa]))
   | (refine qt ?_ ?_;(· simp only [k1,Ac,Aa]))
   | (refine qu ?_ ?_;(· simp only [k1,Ac,Aa]))
   | (refine qw ?_ ?_;(· simp only [k1,Ac,Aa]))
   | (refine qv ?_ ?_;(· simp only [k1,Ac,Aa]))
   | (refine qy ?_ ?_;(· simp only [k1,Ac,Aa]))
   | (refine qz ?_ ?_;(· simp only [k1,Ac,Aa]))
   | (refine qt ?_ ?_;(· simp only [k2,Ac,Aa]))
   | (refine qu ?_ ?_;(· simp only [k2,Ac,Aa]))
   | (refine qw ?_ ?_;(· simp only [k2,Ac,Aa]))
   | (refine qv ?_ ?_;(· simp only [k2,Ac,Aa]))
   | (refine qy ?_ ?_;(· simp only [k2,Ac,Aa]))
   | (refine qz ?_ ?_;(· simp only [k2,Ac,Aa]))
   | (refine qt ?_ ?_;(· simp only [k3,Ac,Aa]))
   | (refine qu ?_ ?_;(· simp only [k3,Ac,Aa]))
   | (refine qw ?_ ?_;(· simp only [k3,Ac,Aa]))
   | (refine qv ?_ ?_;(· simp only [k3,Ac,Aa]))
   | (refine qy ?_ ?_;(· simp only [k3,Ac,Aa]))
   | (refine qz ?_ ?_;(· simp only [k3,Ac,Aa]))
   | (refine qt ?_ ?_;(· simp only [k4,Ac,Aa]))
   | (refine qu ?_ ?_;(· simp only [k4,Ac,Aa]))
   | (refine qw ?_ ?_;(· simp only [k4,Ac,Aa]))
   | (refine qv ?_ ?_;(· simp only [k4,Ac,Aa]))
   | (refine qy ?_ ?_;(· simp only [k4,Ac,Aa]))
   | (refine qz ?_ ?_;(· simp only [k4,Ac,Aa]))
   | (refine qt ?_ ?_;(· simp only [k5,Ac,Aa]))
   | (refine qu ?_ ?_;(· simp only [k5,Ac,Aa]))
   | (refine qw ?_ ?_;(· simp only [k5,Ac,Aa]))
   | (refine qv ?_ ?_;(· simp only [k5,Ac,Aa]))
   | (refine qy ?_ ?_;(· simp only [k5,Ac,Aa]))
   | (refine qz ?_ ?_;(· simp only [k5,Ac,Aa]))
   | refine qn (wg _) ?_
   | refine qn (Kz n k0 hk) ?_
   | refine qn (Ym n k0) ?_
   | refine qn (qaq n (qgc n k1 k0)) ?_
   | refine qn (qds n k0) ?_
   | refine qn (qk2 n hg hk hs) ?_
   | refine qr (fun h=> ?_) (fun h=> ?_)
   | refine q9 (fun h=> ?_) (fun h=> ?_)
   | refine qe (fun h=> ?_) (fun h=> ?_)
   | refine yg env rfl rfl (zl ?_)
   | refine jp env rfl (zl ?_)
  all_goals rfl
 have e:vm n=0:=by simp [vm,qai,k0,k1,k2,k3,k4,k5]
 rw [Ya,e,if_pos rfl]
 refine z8 (T:=tt) (N:=44) (rs:= [.tmp 2]) (fun vs w=>by simp) Tryz.func70 rfl rfl rfl rfl (by kernel_rfl) (jo rfl) (zf _ rfl) ?_
 repeat' first
  | refine ky env rfl ?_
  | (refine qiz (α:=Nat) (fun i=>i≤n.kids.length∧wi n.kids=wi (n.kids.drop i)) (fun i=>n.kids.length - i) (fun i=> [(34, .int .i64 i)]) (fun _=> []) (0) (fun _=>rfl) (fun _=>rfl) (⟨AD _,rfl⟩) ?_ ?_ (fun i hJ=> ?_);(· simp [leFT,leV,leOs,leO,leC,rho,AV.ren,AV.ren1,AV.un,AV.un1,AV.closed]);(· simp [leFT,leV,leOs,leO,leC,rho,AV.ren,AV.ren1,AV.un,AV.un1,AV.closed]);rcases qyl n.kids i hk hJ with ⟨m,hm,hmem,hlt,hb,hw,⟨g1,he⟩ | ⟨g1,he⟩⟩ | ⟨hb,he⟩)
  | refine qiy rfl ?_
  | refine qfk rfl rfl ?_
  | (refine qgp (i+1) ?_ ?_ ?_ ?_;(· exact ⟨by omega,he⟩);(· omega);(· (simp only [hw];simp [leFT,leV,leOs,leO,leC,rho,AV.ren,AV.ren1,AV.un,AV.un1,AV.closed]));(· simp [leFT,leV,leOs,leO,leC,rho,AV.ren,AV.ren1,AV.un,AV.un1,AV.closed]))
  | (refine qt ?_ ?_;(· simp only [k0,Ac,Aa]))
  | (refine qu ?_ ?_;(· simp only [k0,Ac,Aa]))
  | (refine qw ?_ ?_;(· simp only [k0,Ac,Aa]))
  | (refine qv ?_ ?_;(· simp only [k0,Ac,Aa]))
  | (refine qy ?_ ?_;(· simp only [k0,Ac,Aa]))
  | (refine qz ?_ ?_;(· simp only [k0,Ac,Aa]))
  | (refine qt ?_ ?_;(· simp only [k1,Ac,Aa]))
  | (refine qu ?_ ?_;(· simp only [k1,Ac,Aa]))
  | (refine qw ?_ ?_;(· simp only [k1,Ac,Aa]))
  | (refine qv ?_ ?_;(· simp only [k1,Ac,Aa]))
  | (refine qy ?_ ?_;(· simp only [k1,Ac,Aa]))
  | (refine qz ?_ ?_;(· simp only [k1,Ac,Aa]))
  | (refine qt ?_ ?_;(· simp only [k2,Ac,Aa]))
  | (refine qu ?_ ?_;(· simp only [k2,Ac,Aa]))
  | (refine qw ?_ ?_;(· simp only [k2,Ac,Aa]))
  | (refine qv ?_ ?_;(· simp only [k2,Ac,Aa]))
  | (refine qy ?_ ?_;(· simp only [k2,Ac,Aa]))
  | (refine qz ?_ ?_;(· simp only [k2,Ac,Aa]))
  | (refine qt ?_ ?_;(· simp only [k3,Ac,Aa]))
  | (refine qu ?_ ?_;(· simp only [k3,Ac,Aa]))
  | (refine qw ?_ ?_;(· simp only [k3,Ac,Aa]))
  | (refine qv ?_ ?_;(· simp only [k3,Ac,Aa]))
  | (refine qy ?_ ?_;(· simp only [k3,Ac,Aa]))
  | (refine qz ?_ ?_;(· simp only [k3,Ac,Aa]))
  | (refine qt ?_ ?_;(· simp only [k4,Ac,Aa]))
  | (refine qu ?_ ?_;(· simp only [k4,Ac,Aa]))
  | (refine qw ?_ ?_;(· simp only [k4,Ac,Aa]))
  | (refine qv ?_ ?_;(· simp only [k4,Ac,Aa]))
  | (refine qy ?_ ?_;(· simp only [k4,Ac,Aa]))
  | (refine qz ?_ ?_;(· simp only [k4,Ac,Aa]))
  | (refine qt ?_ ?_;(· simp only [k5,Ac,Aa]))
  | (refine qu ?_ ?_;(· simp only [k5,Ac,Aa]))
  | (refine qw ?_ ?_;(· simp only [k5,Ac,Aa]))
  | (refine qv ?_ ?_;(· simp only [k5,Ac,Aa]))
  | (refine qy ?_ ?_;(· simp only [k5,Ac,Aa]))
  | (refine qz ?_ ?_;(· simp only [k5,Ac,Aa]))
  | (refine qt ?_ ?_;(· simp only [hb]))
  | (refine qu ?_ ?_;(· simp only [hb]))
  | (refine qw ?_ ?_;(· simp only [hb]))
  | (refine qv ?_ ?_;(· simp only [hb]))
  | (refine qy ?_ ?_;(· simp only [hb]))
  | (refine qz ?_ ?_;(· simp only [hb]))
  | (refine qt ?_ ?_;(· simp only [g1,Ac,Aa]))
  | (refine qu ?_ ?_;(· simp only [g1,Ac,Aa]))
  | (refine qw ?_ ?_;(· simp only [g1,Ac,Aa]))
  | (refine qv ?_ ?_;(· simp only [g1,Ac,Aa]))
  | (refine qy ?_ ?_;(· simp only [g1,Ac,Aa]))
  | (refine qz ?_ ?_;(· simp only [g1,Ac,Aa]))
  | refine qay env rfl rfl rfl rfl rfl (qma hm) ?_
  | refine qn (wg _) ?_
  | refine qn (Kz n k0 hk) ?_
  | refine qn (Ym n k0) ?_
  | refine qn (qaq n (qgc n k1 k0)) ?_
  | refine qn (qds n k0) ?_
  | refine qn (qk2 n hg hk hs) ?_
  | refine qn (ih m hmem) ?_
  | refine qr (fun h=> ?_) (fun h=> ?_)
  | refine q9 (fun h=> ?_) (fun h=> ?_)
  | refine qe (fun h=> ?_) (fun h=> ?_)
  | refine yg env rfl rfl (zl ?_)
  | refine jp env rfl (zl ?_)
 all_goals refine qgg ?_
 all_goals rw [he]
def jx (o:Option Nat) (left:Int):Int:=match o with
 | some s=>if (s:Int)≤left then left - s else -1
 | none=> -1
theorem q3l:∀(n:Node) (d s:Nat),size? n d=some s→0 < s:=by
 intro n d s h
 cases n with
 | mk k t g l=>
   cases d with
   | zero=>simp [size?] at h
   | succ d=>
     simp only [size?] at h
     split at h
     ·cases h
     simp only [Am] at h
     obtain ⟨a,_,rfl⟩:=h
     omega
theorem q1x (n:Node):size? n 0=none:=by cases n;rfl
theorem ql3 (n:Node) (d:Nat):size? n (d+1)=if most n.kind < (n.kids.length:Int) then none else (sizeL? n.kids d).map (· +1):=by cases n;rfl
theorem qdl (m:Node) (l:List Node) (d:Nat):sizeL? (m::l) d=match size? m d,sizeL? l d with | some a,some b=>some (a+b) | _,_=>none:=rfl
theorem qvj (m:Node) (l:List Node) (d:Nat) (left:Int) (h0:0≤left):
 (jx (size? m d) left < 0∧jx (sizeL? (m::l) d) left= -1)∨(0≤jx (size? m d) left∧jx (size? m d) left≤left∧jx (sizeL? (m::l) d) left=jx (sizeL? l d) (jx (size? m d) left)):=by
 rw [qdl]
 cases ha:size? m d with
 | none=>exact .inl ⟨by simp [jx],by simp [jx]⟩
 | some a=>
   by_cases hl:(a:Int)≤left
   ·refine .inr ⟨by simp only [jx,if_pos hl];omega,by simp only [jx,if_pos hl];omega,?_⟩
    cases hb:sizeL? l d with
    | none=>simp [jx]
    | some b=>
      simp only [jx,if_pos hl]
      by_cases h2:(b:Int)≤left - a
      ·rw [if_pos (by omega),if_pos h2];omega
      rw [if_neg (by omega),if_neg h2]
   refine .inl ⟨by simp only [jx,if_neg hl];omega,?_⟩
   cases hb:sizeL? l d with
   | none=>simp [jx]
   | some b=>simp only [jx];rw [if_neg (by omega)]
theorem qvi (n:Node) (left:Int) (d:Nat) (hl:0 < left):jx (size? n (d+1)) left=if most n.kind < (n.kids.length:Int) then -1 else jx (sizeL? n.kids d) (left - 1):=by
 rw [ql3]
 split
 ·rfl
 cases hb:sizeL? n.kids d with
 | none=>rfl
 | some b=>
   simp only [Ba,jx]
   by_cases h:(b:Int)≤left - 1
   ·rw [if_pos (by omega),if_pos h];omega
   rw [if_neg (by omega),if_neg h]
theorem qvh (l:List Node) (d i:Nat) (top left:Int) (hl:l.length≤9223372036854775807) (hJ:i≤l.length∧0≤left∧left≤top∧jx (sizeL? l d) top=jx (sizeL? (l.drop i) d) left):
 (∃ m,l[i]? =some m∧m∈l∧i < l.length∧decide ((i:Int) < ((l.map Node.cells).length:Int))=true∧IntKind.i64.wrap ((i:Int)+1)=((i+1:Nat):Int)∧
   ((decide (jx (size? m d) left < 0)=true∧jx (sizeL? l d) top= -1)∨
    (decide (jx (size? m d) left < 0)=false∧0≤jx (size? m d) left∧jx (size? m d) left≤top∧jx (sizeL? l d) top=jx (sizeL? (l.drop (i+1)) d) (jx (size? m d) left))))∨
 (decide ((i:Int) < ((l.map Node.cells).length:Int))=false∧jx (sizeL? l d) top=left):=by
 obtain ⟨h1,h2,h3,h4⟩:=hJ
 rcases Br i l.length with h | h
 ·refine .inl ⟨l[i],Ak h,Ci h,h,by simpa using h,we (by omega) (by omega),?_⟩
  rw [h4,Be h]
  rcases qvj l[i] (l.drop (i+1)) d left h2 with ⟨a,b⟩ | ⟨a,b,c⟩
  ·exact .inl ⟨decide_eq_true a,b⟩
  exact .inr ⟨decide_eq_false (by omega),a,by omega,c⟩
 refine .inr ⟨by simpa using h,?_⟩
 rw [h4,AW h]
 show jx (some 0) left=left
 simp only [jx]
 rw [if_pos (by omega)];omega
set_option maxHeartbeats 4000000 in
theorem qps:∀n:Node,Wf n→∀(left:Int) (d:Int), -9223372036854775808≤left→left≤9223372036854775807→ -9223372036854775808≤d→d≤9223372036854775807→
 Fn Tryz.prog G 69 [.agg (z7 n), .int .i64 left, .int .i64 d] (.int .i64 (jx (size? n d.toNat) left)):=by
 intro n hwf
 induction hwf with | mk n hk hg ht hs _ ih=> ?_
 intro left d hl0 hl1 hd0 hd1
 by_cases c1:left≤0
 case pos=>
  have e1:decide (left≤0)=true:=decide_eq_true c1
  have e:jx (size? n d.toNat) left= -1:=by
   unfold jx
   split
   ·rename_i s h;have:=q3l n _ s h;rw [if_neg (by omega)]
   rfl
  rw [e]
  refine z8 (T:=tt) (N:=42) (rs:= [.tmp 6]) (fun vs w=>by simp) Tryz.func69 rfl rfl rfl rfl (by kernel_rfl) (jo rfl) (zf _ rfl) ?_
  repeat' first
   | refine ky env rfl ?_
   | (refine qt ?_ ?_;(· simp only [e1]))
   | (refine qu ?_ ?_;(· simp only [e1]))
   | (refine qw ?_ ?_;(· simp only [e1]))
   | (refine qv ?_ ?_;(· simp only [e1]))
   | (refine qy ?_ ?_;(· simp only [e1]))
   | (refine qz ?_ ?_;(· simp only [e1]))
   | refine qr (fun h=> ?_) (fun h=> ?_)
   | refine q9 (fun h=> ?_) (fun h=> ?_)
   | refine qe (fun h=> ?_) (fun h=> ?_)
   | refine yg env rfl rfl (zl ?_)
   | refine jp env rfl (zl ?_)
  all_goals rfl
 have e1:decide (left≤0)=false:=decide_eq_false c1
 by_cases c2:d≤0
 case pos=>
  have e2:decide (d≤0)=true:=decide_eq_true c2
  have e:jx (size? n d.toNat) left= -1:=by rw [show d.toNat=0 by omega,q1x];rfl
  rw [e]
  refine z8 (T:=tt) (N:=42) (rs:= [.tmp 6]) (fun vs w=>by simp) Tryz.func69 rfl rfl rfl rfl (by kernel_rfl) (jo rfl) (zf _ rfl) ?_
  repeat' first
   | refine ky env rfl ?_
   | (refine qt ?_ ?_;(· simp only [e1]))
   | (refine qu ?_ ?_;(· simp only [e1]))
   | (refine qw ?_ ?_;(· simp only [e1]))
   | (refine qv ?_ ?_;(· simp only [e1]))
   | (refine qy ?_ ?_;(· simp only [e1]))
   | (refine qz ?_ ?_;(· simp only [e1]))
   | (refine qt ?_ ?_;(· simp only [e2]))
   | (refine qu ?_ ?_;(· simp only [e2]))
   | (refine qw ?_ ?_;(· simp only [e2]))
   | (refine qv ?_ ?_;(· simp only [e2]))
   | (refine qy ?_ ?_;(· simp only [e2]))
   | (refine qz ?_ ?_;(· simp only [e2]))
   | refine qr (fun h=> ?_) (fun h=> ?_)
   | refine q9 (fun h=> ?_) (fun h=> ?_)
   | refine qe (fun h=> ?_) (fun h=> ?_)
   | refine yg env rfl rfl (zl ?_)
   | refine jp env rfl (zl ?_)
  all_goals rfl
 have e2:decide (d≤0)=false:=decide_eq_false c2
 obtain ⟨d,rfl⟩:∃q:Nat,d=((q+1:Nat):Int):=⟨d.toNat - 1,by omega⟩
 rw [Bj,qvi n left d (by omega)]
 by_cases c3:most n.kind < (n.kids.length:Int)
 case pos=>
  have e3:decide (most n.kind < ((n.kids.map Node.cells).length:Int))=true:=by simpa using c3
  rw [if_pos c3]
  refine z8 (T:=tt) (N:=42) (rs:= [.tmp 6]) (fun vs w=>by simp) Tryz.func69 rfl rfl rfl rfl (by kernel_rfl) (jo rfl) (zf _ rfl) ?_
  repeat' first
   | refine ky env rfl ?_
   | (refine qt ?_ ?_;(· simp only [e1]))
   | (refine qu ?_ ?_;(· simp only [e1]))
   | (refine qw ?_ ?_;(· simp only [e1]))
   | (refine qv ?_ ?_;(· simp only [e1]))
   | (refine qy ?_ ?_;(· simp only [e1]))
   | (refine qz ?_ ?_;(· simp only [e1]))
   | (refine qt ?_ ?_;(· simp only [e2]))
   | (refine qu ?_ ?_;(· simp only [e2]))
   | (refine qw ?_ ?_;(· simp only [e2]))
   | (refine qv ?_ ?_;(· simp only [e2]))
   | (refine qy ?_ ?_;(· simp only [e2]))
   | (refine qz ?_ ?_;(· simp only [e2]))
   | (refine qt ?_ ?_;(· simp only [e3]))
   | (refine qu ?_ ?_;(· simp only [e3]))
   | (refine qw ?_ ?_;(· simp only [e3]))
   | (refine qv ?_ ?_;(· simp only [e3]))
   | (refine qy ?_ ?_;(· simp only [e3]))
   | (refine qz ?_ ?_;(· simp only [e3]))
   | refine qn (qk1 _) ?_
   | refine qr (fun h=> ?_) (fun h=> ?_)
   | refine q9 (fun h=> ?_) (fun h=> ?_)
   | refine qe (fun h=> ?_) (fun h=> ?_)
   | refine yg env rfl rfl (zl ?_)
   | refine jp env rfl (zl ?_)
  all_goals rfl
 have e3:decide (most n.kind < ((n.kids.map Node.cells).length:Int))=false:=by simpa using c3
 rw [if_neg c3]
 have w1:IntKind.i64.wrap (left - 1)=left - 1:=we (by omega) (by omega)
 have w2:IntKind.i64.wrap (((d+1:Nat):Int) - 1)=(d:Int):=by rw [we (by omega) (by omega)];omega
 refine z8 (T:=tt) (N:=42) (rs:= [.tmp 6]) (fun vs w=>by simp) Tryz.func69 rfl rfl rfl rfl (by kernel_rfl) (jo rfl) (zf _ rfl) ?_
 repeat' first
  | refine ky env rfl ?_
  | (refine qiz (α:=Nat × Int) (fun a=>a.1≤n.kids.length∧0≤a.2∧a.2≤left - 1∧jx (sizeL? n.kids d) (left - 1)=jx (sizeL? (n.kids.drop a.1) d) a.2) (fun a=>n.kids.length - a.1) (fun a=> [(29, .int .i64 a.1),(1, .int .i64 a.2)]) (fun _=> []) ((0,left - 1)) (fun _=>rfl) (fun _=>rfl) (⟨AD _,by show 0≤left - 1;omega,Int.le_refl _,rfl⟩) ?_ ?_ (fun ⟨i,r⟩ hJ=> ?_);(· (simp only [w1];simp [leFT,leV,leOs,leO,leC,rho,AV.ren,AV.ren1,AV.un,AV.un1,AV.closed]));(· (simp only [w1];simp [leFT,leV,leOs,leO,leC,rho,AV.ren,AV.ren1,AV.un,AV.un1,AV.closed]));rcases qvh n.kids d i (left - 1) r hk hJ with ⟨m,hm,hmem,hlt,hb,hw,⟨g1,he⟩ | ⟨g1,p1,p2,he⟩⟩ | ⟨hb,he⟩)
  | refine qiy rfl ?_
  | refine qfk rfl rfl ?_
  | (refine qgp ((i+1,jx (size? m d) r)) ?_ ?_ ?_ ?_;(· exact ⟨by show i+1≤n.kids.length;omega,p1,p2,he⟩);(· (show n.kids.length - (i+1) < n.kids.length - i;omega));(· (simp only [hw];simp [leFT,leV,leOs,leO,leC,rho,AV.ren,AV.ren1,AV.un,AV.un1,AV.closed]));(· simp [leFT,leV,leOs,leO,leC,rho,AV.ren,AV.ren1,AV.un,AV.un1,AV.closed]))
  | refine qay env rfl rfl rfl rfl rfl (qma hm) ?_
  | refine qn (x:= .int .i64 (jx (size? m d) r)) (by rw [w2];exact ih m hmem r d (by omega) (by omega) (by omega) (by omega)) ?_
  | (refine qt ?_ ?_;(· simp only [e1]))
  | (refine qu ?_ ?_;(· simp only [e1]))
  | (refine qw ?_ ?_;(· simp only [e1]))
  | (refine qv ?_ ?_;(· simp only [e1]))
  | (refine qy ?_ ?_;(· simp only [e1]))
  | (refine qz ?_ ?_;(· simp only [e1]))
  | (refine qt ?_ ?_;(· simp only [e2]))
  | (refine qu ?_ ?_;(· simp only [e2]))
  | (refine qw ?_ ?_;(· simp only [e2]))
  | (refine qv ?_ ?_;(· simp only [e2]))
  | (refine qy ?_ ?_;(· simp only [e2]))
  | (refine qz ?_ ?_;(· simp only [e2]))
  | (refine qt ?_ ?_;(· simp only [e3]))
  | (refine qu ?_ ?_;(· simp only [e3]))
  | (refine qw ?_ ?_;(· simp only [e3]))
  | (refine qv ?_ ?_;(· simp only [e3]))
  | (refine qy ?_ ?_;(· simp only [e3]))
  | (refine qz ?_ ?_;(· simp only [e3]))
  | (refine qt ?_ ?_;(· simp only [hb]))
  | (refine qu ?_ ?_;(· simp only [hb]))
  | (refine qw ?_ ?_;(· simp only [hb]))
  | (refine qv ?_ ?_;(· simp only [hb]))
  | (refine qy ?_ ?_;(· simp only [hb]))
  | (refine qz ?_ ?_;(· simp only [hb]))
  | (refine qt ?_ ?_;(· simp only [g1]))
  | (refine qu ?_ ?_;(· simp only [g1]))
  | (refine qw ?_ ?_;(· simp only [g1]))
  | (refine qv ?_ ?_;(· simp only [g1]))
  | (refine qy ?_ ?_;(· simp only [g1]))
  | (refine qz ?_ ?_;(· simp only [g1]))
  | refine qn (qk1 _) ?_
  | refine qr (fun h=> ?_) (fun h=> ?_)
  | refine q9 (fun h=> ?_) (fun h=> ?_)
  | refine qe (fun h=> ?_) (fun h=> ?_)
  | refine yg env rfl rfl (zl ?_)
  | refine jp env rfl (zl ?_)
 all_goals refine qgg ?_
 all_goals rw [he]
end Go.Proofs.YtpnkemogepoioaaGreatDoorW.Ex.Gr
