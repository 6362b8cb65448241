/- A node's kids. No conditions beside those in each theorem. -/
import Derived.Test.YtpnkemogepoioaaGreatDoorGd
namespace Go.Proofs.YtpnkemogepoioaaGreatDoorW.Ex.Gr
open Go Go.Proofs.YtpnkemogepoioaaGreatDoorW.Ex
set_option linter.all false
set_option maxRecDepth 100000
set_option maxHeartbeats 4000000 in
theorem W1 (n:Node) (hkn:known n.kind=true) (hk:n.kids.length≤9223372036854775807):Fn Tryz.prog G 107 [.agg (zl n)] (.bool (qj2 n)):=by
 have kb:=Wg hkn
 have h0:0≤n.kind:=by omega
 have h2:n.kind.toNat < 27:=by omega
 have hg:=qnk n.kind h2
 refine zg (T:=tt) (N:=57) (rs:= [.tmp 2]) (fun vs w=>by simp) Tryz.func107 rfl rfl rfl rfl (by kernel_rfl) (zm rfl) (qy _ rfl) ?_
 repeat' first
  | refine ji env rfl ?_
  | refine qoy env rfl rfl rfl rfl h0 h2 hg ?_
  | (refine Kf (α:=Nat) (fun i=>i≤(n.kids).length∧vl (fun i m=>fits n.kind i m.kind) 0 (n.kids)=vl (fun i m=>fits n.kind i m.kind) i ((n.kids).drop i)) (fun i=>(n.kids).length - i) (fun i=> [(44, .int .i64 i)]) (fun _=> []) (0) (fun _=>rfl) (fun _=>rfl) (⟨Az _,rfl⟩) ?_ ?_ (fun i hJ=> ?_);(· simp [leFT,leV,leOs,leO,leC,rho,AV.ren,AV.ren1,AV.un,AV.un1,AV.closed]);(· simp [leFT,leV,leOs,leO,leC,rho,AV.ren,AV.ren1,AV.un,AV.un1,AV.closed]);rcases qka (fun i m=>fits n.kind i m.kind) (n.kids) (Node.cells) i hk hJ with ⟨m,hm,hlt,hb,hw,he⟩ | ⟨hb,he⟩)
  | refine Ke rfl ?_
  | refine Jk rfl rfl ?_
  | (refine Yq (i+1) ?_ ?_ ?_ ?_;(· exact ⟨by omega,by simp_all⟩);(· omega);(· simp [leFT,leV,leOs,leO,leC,rho,AV.ren,AV.ren1,AV.un,AV.un1,AV.closed,hw]);(· simp [leFT,leV,leOs,leO,leC,rho,AV.ren,AV.ren1,AV.un,AV.un1,AV.closed]))
  | (refine qf ?_ ?_;(· simp only [hb]))
  | (refine qg ?_ ?_;(· simp only [hb]))
  | (refine qi ?_ ?_;(· simp only [hb]))
  | (refine qh ?_ ?_;(· simp only [hb]))
  | (refine qn ?_ ?_;(· simp only [hb]))
  | (refine qo ?_ ?_;(· simp only [hb]))
  | refine Y5 env rfl rfl rfl rfl rfl (qcu hm) ?_
  | refine qk (qwl _ _ _) ?_
  | refine qq (fun h=> ?_) (fun h=> ?_)
  | refine qw (fun h=> ?_) (fun h=> ?_)
  | refine qd (fun h=> ?_) (fun h=> ?_)
  | refine zb env rfl rfl (qz ?_)
  | refine zn env rfl (qz ?_)
 all_goals refine w8 ?_
 all_goals simp_all [qj2,qdk,Prod.ext_iff]
 all_goals omega
def Kb (v:ByteArray):Nat→List ByteArray→Int
 | _, []=> -1
 | i,w::l=>if v=w then i else Kb v (i+1) l
theorem q2o (v:ByteArray):∀(l:List ByteArray) (i:Nat),decide (0≤Kb v i l)=memB v l
 | [],i=>by simp [Kb,memB]
 | w::l,i=>by
   simp only [Kb]
   split
   ·rename_i h;subst h;simp [memB]
   rename_i h;rw [q2o v l (i+1)];simp [memB,h]
theorem q61 (v:ByteArray) (l:List ByteArray) (i:Nat) (hl:l.length≤9223372036854775807) (hJ:i≤l.length∧Kb v 0 l=Kb v i (l.drop i)):
 (∃ m,(l.map sc)[i]? =some [.str m]∧i < l.length∧decide ((i:Int) < ((l.map sc).length:Int))=true∧IntKind.i64.wrap ((i:Int)+1)=((i+1:Nat):Int)∧
   ((decide (v=m)=true∧Kb v 0 l=i)∨(decide (v=m)=false∧Kb v 0 l=Kb v (i+1) (l.drop (i+1)))))∨
 (decide ((i:Int) < ((l.map sc).length:Int))=false∧Kb v 0 l= -1):=by
 rcases Bt i l.length with h | h
 ·refine .inl ⟨l[i],by rw [Ar,Aj h];rfl,h,by simpa using h,js (by omega) (by omega),?_⟩
  have e:Kb v i (l.drop i)=if v=l[i] then (i:Int) else Kb v (i+1) (l.drop (i+1)):=by rw [Bl h];rfl
  rw [hJ.2,e]
  by_cases hv:v=l[i]
  ·exact .inl ⟨decide_eq_true hv,if_pos hv⟩
  exact .inr ⟨decide_eq_false hv,if_neg hv⟩
 refine .inr ⟨by simpa using h,?_⟩
 rw [hJ.2,AD h];rfl
set_option maxHeartbeats 4000000 in
theorem qvz (l:List ByteArray) (v:ByteArray) (hl:l.length≤9223372036854775807):Fn Tryz.prog G 172 [.sl 1 false (l.map sc), .str v] (.int .i64 (Kb v 0 l)):=by
 refine zg (T:=tt) (N:=19) (rs:= [.tmp 4]) (fun vs w=>by simp) Tryz.func172 rfl rfl rfl rfl (by kernel_rfl) (zm rfl) (qy _ rfl) ?_
 repeat' first
  | refine ji env rfl ?_
  | (refine Kf (α:=Nat) (fun i=>i≤l.length∧Kb v 0 l=Kb v i (l.drop i)) (fun i=>l.length - i) (fun i=> [(8, .int .i64 i)]) (fun _=> []) (0) (fun _=>rfl) (fun _=>rfl) (⟨Az _,rfl⟩) ?_ ?_ (fun i hJ=> ?_);(· simp [leFT,leV,leOs,leO,leC,rho,AV.ren,AV.ren1,AV.un,AV.un1,AV.closed]);(· simp [leFT,leV,leOs,leO,leC,rho,AV.ren,AV.ren1,AV.un,AV.un1,AV.closed]);rcases q61 v l i hl hJ with ⟨m,hm,hlt,hb,hw,⟨g1,he⟩ | ⟨g1,he⟩⟩ | ⟨hb,he⟩)
  | refine Ke rfl ?_
  | refine Jk rfl rfl ?_
  | (refine Yq (i+1) ?_ ?_ ?_ ?_;(· exact ⟨by omega,he⟩);(· omega);(· (simp only [hw];simp [leFT,leV,leOs,leO,leC,rho,AV.ren,AV.ren1,AV.un,AV.un1,AV.closed]));(· simp [leFT,leV,leOs,leO,leC,rho,AV.ren,AV.ren1,AV.un,AV.un1,AV.closed]))
  | (refine qf ?_ ?_;(· simp only [hb]))
  | (refine qg ?_ ?_;(· simp only [hb]))
  | (refine qi ?_ ?_;(· simp only [hb]))
  | (refine qh ?_ ?_;(· simp only [hb]))
  | (refine qn ?_ ?_;(· simp only [hb]))
  | (refine qo ?_ ?_;(· simp only [hb]))
  | (refine qf ?_ ?_;(· simp only [g1]))
  | (refine qg ?_ ?_;(· simp only [g1]))
  | (refine qi ?_ ?_;(· simp only [g1]))
  | (refine qh ?_ ?_;(· simp only [g1]))
  | (refine qn ?_ ?_;(· simp only [g1]))
  | (refine qo ?_ ?_;(· simp only [g1]))
  | refine Y5 env rfl rfl rfl rfl rfl hm ?_
  | refine qq (fun h=> ?_) (fun h=> ?_)
  | refine qw (fun h=> ?_) (fun h=> ?_)
  | refine qd (fun h=> ?_) (fun h=> ?_)
  | refine zb env rfl rfl (qz ?_)
  | refine zn env rfl (qz ?_)
 all_goals refine Ka ?_
 all_goals simp only [he]
set_option maxHeartbeats 4000000 in
theorem qps (l:List ByteArray) (v:ByteArray) (hl:l.length≤9223372036854775807):Fn Tryz.prog G 141 [.sl 1 false (l.map sc), .str v] (.bool (memB v l)):=by
 refine zg (T:=tt) (N:=9) (rs:= [.tmp 4]) (fun vs w=>by simp) Tryz.func141 rfl rfl rfl rfl (by kernel_rfl) (zm rfl) (qy _ rfl) ?_
 repeat' first
  | refine ji env rfl ?_
  | refine qk (qvz _ _ hl) ?_
  | refine qq (fun h=> ?_) (fun h=> ?_)
  | refine qw (fun h=> ?_) (fun h=> ?_)
  | refine qd (fun h=> ?_) (fun h=> ?_)
  | refine zb env rfl rfl (qz ?_)
  | refine zn env rfl (qz ?_)
 all_goals refine w8 ?_
 all_goals exact q2o v l 0
theorem q3n:∀k:Nat,k < 27→(shapes.getD k ⟨[],(0,0),0, [],0⟩).words.length≤8:=by decide
set_option maxHeartbeats 4000000 in
theorem Kr (n:Node) (hkn:known n.kind=true):Fn Tryz.prog G 108 [.agg (zl n)] (.bool (qey n)):=by
 have kb:=Wg hkn
 have h0:0≤n.kind:=by omega
 have h2:n.kind.toNat < 27:=by omega
 have hg:=qnk n.kind h2
 have hw:(y7 n.kind).words.length≤9223372036854775807:=BG (q3n n.kind.toNat h2) (by decide)
 refine zg (T:=tt) (N:=22) (rs:= [.tmp 2]) (fun vs w=>by simp) Tryz.func108 rfl rfl rfl rfl (by kernel_rfl) (zm rfl) (qy _ rfl) ?_
 repeat' first
  | refine ji env rfl ?_
  | refine qoy env rfl rfl rfl rfl h0 h2 hg ?_
  | refine qk (qps _ _ hw) ?_
  | refine qq (fun h=> ?_) (fun h=> ?_)
  | refine qw (fun h=> ?_) (fun h=> ?_)
  | refine qd (fun h=> ?_) (fun h=> ?_)
  | refine zb env rfl rfl (qz ?_)
  | refine zn env rfl (qz ?_)
 all_goals refine w8 ?_
 all_goals simp_all [qey]
set_option maxHeartbeats 4000000 in
theorem qfj (n:Node) (hkn:known n.kind=true):Fn Tryz.prog G 110 [.agg (zl n)] (.bool (qbz n)):=by
 have kb:=Wg hkn
 have h0:0≤n.kind:=by omega
 have h2:n.kind.toNat < 27:=by omega
 have hg:=qnk n.kind h2
 refine zg (T:=tt) (N:=23) (rs:= [.tmp 2]) (fun vs w=>by simp) Tryz.func110 rfl rfl rfl rfl (by kernel_rfl) (zm rfl) (qy _ rfl) ?_
 repeat' first
  | refine ji env rfl ?_
  | refine qoy env rfl rfl rfl rfl h0 h2 hg ?_
  | refine qk (qru _) ?_
  | refine qk (qpu _) ?_
  | refine qq (fun h=> ?_) (fun h=> ?_)
  | refine qw (fun h=> ?_) (fun h=> ?_)
  | refine qd (fun h=> ?_) (fun h=> ?_)
  | refine zb env rfl rfl (qz ?_)
  | refine zn env rfl (qz ?_)
 all_goals refine w8 ?_
 all_goals simp_all [qbz]
theorem q4n:∀k:Nat,k < 27→(k=24→(shapes.getD k ⟨[],(0,0),0, [],0⟩).first.length=2)∧(k=25∨k=21→(shapes.getD k ⟨[],(0,0),0, [],0⟩).first.length=1):=by decide
theorem qfi (n:Node) (h:qj2 n=true) (hkn:known n.kind=true):(n.kind=24→∃a b,n.kids[0]? =some a∧n.kids[1]? =some b∧kid n 0=a∧kid n 1=b)∧(n.kind=25∨n.kind=21→∃a,n.kids[0]? =some a∧kid n 0=a):=by
 have kb:=Wg hkn
 have hf:=q4n n.kind.toNat (by omega)
 have hk:n.kind≠14→(y7 n.kind).first.length≤n.kids.length:=by
  intro hne
  unfold qj2 at h
  rw [if_neg (by omega)] at h
  split at h
  ·cases h
  omega
 have hs:(y7 n.kind).first=(shapes.getD n.kind.toNat ⟨[],(0,0),0, [],0⟩).first:=rfl
 constructor
 ·intro hk24
  have h2:=hk (by omega)
  rw [hs,hf.1 (by omega)] at h2
  refine ⟨n.kids[0],n.kids[1],Aj (by omega),Aj (by omega),?_,?_⟩
  ·unfold kid;rw [Ax,Aj (by omega)];rfl
  unfold kid;rw [Ax,Aj (by omega)];rfl
 intro hk2
 have h2:=hk (by omega)
 rw [hs,hf.2 (by omega)] at h2
 refine ⟨n.kids[0],Aj (by omega),?_⟩
 unfold kid;rw [Ax,Aj (by omega)];rfl
set_option maxHeartbeats 4000000 in
theorem qbw (n:Node) (hk0:(n.kind=24→∃a b,n.kids[0]? =some a∧n.kids[1]? =some b∧kid n 0=a∧kid n 1=b)∧(n.kind=25∨n.kind=21→∃a,n.kids[0]? =some a∧kid n 0=a)):Fn Tryz.prog G 109 [.agg (zl n)] (.bool (We n)):=by
 by_cases hb:n.kind=24
 case pos=>
  obtain ⟨a,b,ha,hb2,ea,eb⟩:=hk0.1 hb
  have d1:decide (n.kind=24)=true:=decide_eq_true hb
  refine zg (T:=tt) (N:=51) (rs:= [.tmp 2]) (fun vs w=>by simp) Tryz.func109 rfl rfl rfl rfl (by kernel_rfl) (zm rfl) (qy _ rfl) ?_
  repeat' first
   | refine ji env rfl ?_
   | (refine qf ?_ ?_;(· simp only [d1]))
   | (refine qg ?_ ?_;(· simp only [d1]))
   | (refine qi ?_ ?_;(· simp only [d1]))
   | (refine qh ?_ ?_;(· simp only [d1]))
   | (refine qn ?_ ?_;(· simp only [d1]))
   | (refine qo ?_ ?_;(· simp only [d1]))
   | refine Y5 env rfl rfl rfl rfl (m:=0) rfl (qcu ha) ?_
   | refine Y5 env rfl rfl rfl rfl (m:=1) rfl (qcu hb2) ?_
   | refine qk (qgo _) ?_
   | refine qq (fun h=> ?_) (fun h=> ?_)
   | refine qw (fun h=> ?_) (fun h=> ?_)
   | refine qd (fun h=> ?_) (fun h=> ?_)
   | refine zb env rfl rfl (qz ?_)
   | refine zn env rfl (qz ?_)
  all_goals refine w8 ?_
  all_goals (simp_all [We])
  all_goals (try omega)
 have d1:decide (n.kind=24)=false:=decide_eq_false hb
 by_cases hu:n.kind=25∨n.kind=21
 case pos=>
  obtain ⟨a,ha,ea⟩:=hk0.2 hu
  refine zg (T:=tt) (N:=51) (rs:= [.tmp 2]) (fun vs w=>by simp) Tryz.func109 rfl rfl rfl rfl (by kernel_rfl) (zm rfl) (qy _ rfl) ?_
  repeat' first
   | refine ji env rfl ?_
   | (refine qf ?_ ?_;(· simp only [d1]))
   | (refine qg ?_ ?_;(· simp only [d1]))
   | (refine qi ?_ ?_;(· simp only [d1]))
   | (refine qh ?_ ?_;(· simp only [d1]))
   | (refine qn ?_ ?_;(· simp only [d1]))
   | (refine qo ?_ ?_;(· simp only [d1]))
   | refine Y5 env rfl rfl rfl rfl (m:=0) rfl (qcu ha) ?_
   | refine qk (qgo _) ?_
   | refine qq (fun h=> ?_) (fun h=> ?_)
   | refine qw (fun h=> ?_) (fun h=> ?_)
   | refine qd (fun h=> ?_) (fun h=> ?_)
   | refine zb env rfl rfl (qz ?_)
   | refine zn env rfl (qz ?_)
  all_goals refine w8 ?_
  all_goals (simp_all [We])
  all_goals (try omega)
 have d2:decide (n.kind=25)=false:=decide_eq_false (fun e=>hu (.inl e))
 have d3:decide (n.kind=21)=false:=decide_eq_false (fun e=>hu (.inr e))
 refine zg (T:=tt) (N:=51) (rs:= [.tmp 2]) (fun vs w=>by simp) Tryz.func109 rfl rfl rfl rfl (by kernel_rfl) (zm rfl) (qy _ rfl) ?_
 repeat' first
  | refine ji env rfl ?_
  | (refine qf ?_ ?_;(· simp only [d1]))
  | (refine qg ?_ ?_;(· simp only [d1]))
  | (refine qi ?_ ?_;(· simp only [d1]))
  | (refine qh ?_ ?_;(· simp only [d1]))
  | (refine qn ?_ ?_;(· simp only [d1]))
  | (refine qo ?_ ?_;(· simp only [d1]))
  | (refine qf ?_ ?_;(· simp only [d2]))
  | (refine qg ?_ ?_;(· simp only [d2]))
  | (refine qi ?_ ?_;(· simp only [d2]))
  | (refine qh ?_ ?_;(· simp only [d2]))
  | (refine qn ?_ ?_;(· simp only [d2]))
  | (refine qo ?_ ?_;(· simp only [d2]))
  | (refine qf ?_ ?_;(· simp only [d3]))
  | (refine qg ?_ ?_;(· simp only [d3]))
  | (refine qi ?_ ?_;(· simp only [d3]))
  | (refine qh ?_ ?_;(· simp only [d3]))
  | (refine qn ?_ ?_;(· simp only [d3]))
  | (refine qo ?_ ?_;(· simp only [d3]))
  | refine qk (qgo _) ?_
  | refine qq (fun h=> ?_) (fun h=> ?_)
  | refine qw (fun h=> ?_) (fun h=> ?_)
  | refine qd (fun h=> ?_) (fun h=> ?_)
  | refine zb env rfl rfl (qz ?_)
  | refine zn env rfl (qz ?_)
 all_goals refine w8 ?_
 all_goals (simp_all [We])
set_option maxHeartbeats 4000000 in
theorem q4z (n:Node) (hk0:(n.kind=24→∃a b,n.kids[0]? =some a∧n.kids[1]? =some b∧kid n 0=a∧kid n 1=b)∧(n.kind=25∨n.kind=21→∃a,n.kids[0]? =some a∧kid n 0=a)):Fn Tryz.prog G 183 [.agg (zl n)] (.bool (We n)):=by
 by_cases hb:n.kind=24
 case pos=>
  obtain ⟨a,b,ha,hb2,ea,eb⟩:=hk0.1 hb
  have d1:decide (n.kind=24)=true:=decide_eq_true hb
  refine zg (T:=tt) (N:=52) (rs:= [.tmp 2]) (fun vs w=>by simp) Tryz.func183 rfl rfl rfl rfl (by kernel_rfl) (zm rfl) (qy _ rfl) ?_
  repeat' first
   | refine ji env rfl ?_
   | (refine qf ?_ ?_;(· simp only [d1]))
   | (refine qg ?_ ?_;(· simp only [d1]))
   | (refine qi ?_ ?_;(· simp only [d1]))
   | (refine qh ?_ ?_;(· simp only [d1]))
   | (refine qn ?_ ?_;(· simp only [d1]))
   | (refine qo ?_ ?_;(· simp only [d1]))
   | refine Y5 env rfl rfl rfl rfl (m:=0) rfl (qcu ha) ?_
   | refine Y5 env rfl rfl rfl rfl (m:=1) rfl (qcu hb2) ?_
   | refine qk (qny _) ?_
   | refine qq (fun h=> ?_) (fun h=> ?_)
   | refine qw (fun h=> ?_) (fun h=> ?_)
   | refine qd (fun h=> ?_) (fun h=> ?_)
   | refine zb env rfl rfl (qz ?_)
   | refine zn env rfl (qz ?_)
  all_goals refine w8 ?_
  all_goals (simp_all [We])
  all_goals (try omega)
 have d1:decide (n.kind=24)=false:=decide_eq_false hb
 by_cases hu:n.kind=25∨n.kind=21
 case pos=>
  obtain ⟨a,ha,ea⟩:=hk0.2 hu
  refine zg (T:=tt) (N:=52) (rs:= [.tmp 2]) (fun vs w=>by simp) Tryz.func183 rfl rfl rfl rfl (by kernel_rfl) (zm rfl) (qy _ rfl) ?_
  repeat' first
   | refine ji env rfl ?_
   | (refine qf ?_ ?_;(· simp only [d1]))
   | (refine qg ?_ ?_;(· simp only [d1]))
   | (refine qi ?_ ?_;(· simp only [d1]))
   | (refine qh ?_ ?_;(· simp only [d1]))
   | (refine qn ?_ ?_;(· simp only [d1]))
   | (refine qo ?_ ?_;(· simp only [d1]))
   | refine Y5 env rfl rfl rfl rfl (m:=0) rfl (qcu ha) ?_
   | refine qk (qny _) ?_
   | refine qq (fun h=> ?_) (fun h=> ?_)
   | refine qw (fun h=> ?_) (fun h=> ?_)
   | refine qd (fun h=> ?_) (fun h=> ?_)
   | refine zb env rfl rfl (qz ?_)
   | refine zn env rfl (qz ?_)
  all_goals refine w8 ?_
  all_goals (simp_all [We])
  all_goals (try omega)
 have d2:decide (n.kind=25)=false:=decide_eq_false (fun e=>hu (.inl e))
 have d3:decide (n.kind=21)=false:=decide_eq_false (fun e=>hu (.inr e))
 refine zg (T:=tt) (N:=52) (rs:= [.tmp 2]) (fun vs w=>by simp) Tryz.func183 rfl rfl rfl rfl (by kernel_rfl) (zm rfl) (qy _ rfl) ?_
 repeat' first
  | refine ji env rfl ?_
  | (refine qf ?_ ?_;(· simp only [d1]))
  | (refine qg ?_ ?_;(· simp only [d1]))
  | (refine qi ?_ ?_;(· simp only [d1]))
  | (refine qh ?_ ?_;(· simp only [d1]))
  | (refine qn ?_ ?_;(· simp only [d1]))
  | (refine qo ?_ ?_;(· simp only [d1]))
  | (refine qf ?_ ?_;(· simp only [d2]))
  | (refine qg ?_ ?_;(· simp only [d2]))
  | (refine qi ?_ ?_;(· simp only [d2]))
  | (refine qh ?_ ?_;(· simp only [d2]))
  | (refine qn ?_ ?_;(· simp only [d2]))
  | (refine qo ?_ ?_;(· simp only [d2]))
  | (refine qf ?_ ?_;(· simp only [d3]))
  | (refine qg ?_ ?_;(· simp only [d3]))
  | (refine qi ?_ ?_;(· simp only [d3]))
  | (refine qh ?_ ?_;(· simp only [d3]))
  | (refine qn ?_ ?_;(· simp only [d3]))
  | (refine qo ?_ ?_;(· simp only [d3]))
  | refine qk (qny _) ?_
  | refine qq (fun h=> ?_) (fun h=> ?_)
  | refine qw (fun h=> ?_) (fun h=> ?_)
  | refine qd (fun h=> ?_) (fun h=> ?_)
  | refine zb env rfl rfl (qz ?_)
  | refine zn env rfl (qz ?_)
 all_goals refine w8 ?_
 all_goals (simp_all [We])
theorem qnj {l:List ByteArray} {i:Nat} {g:ByteArray} (h:l[i]? =some g):g∈l:=Ah h
set_option maxHeartbeats 4000000 in
theorem qnh (n:Node) (hk:n.gaps.length≤9223372036854775807) (hkk:n.kids.length≤9223372036854775807) (hs:∀g∈n.gaps,g.size≤9223372036854775807):Fn Tryz.prog G 111 [.agg (zl n)] (.bool (qj3 n)):=by
 refine zg (T:=tt) (N:=26) (rs:= [.tmp 2]) (fun vs w=>by simp) Tryz.func111 rfl rfl rfl rfl (by kernel_rfl) (zm rfl) (qy _ rfl) ?_
 repeat' first
  | refine ji env rfl ?_
  | (refine Kf (α:=Nat) (fun i=>i≤(n.gaps).length∧vl (fun _ g=>Jh g) 0 (n.gaps)=vl (fun _ g=>Jh g) i ((n.gaps).drop i)) (fun i=>(n.gaps).length - i) (fun i=> [(12, .int .i64 i)]) (fun _=> []) (0) (fun _=>rfl) (fun _=>rfl) (⟨Az _,rfl⟩) ?_ ?_ (fun i hJ=> ?_);(· simp [leFT,leV,leOs,leO,leC,rho,AV.ren,AV.ren1,AV.un,AV.un1,AV.closed]);(· simp [leFT,leV,leOs,leO,leC,rho,AV.ren,AV.ren1,AV.un,AV.un1,AV.closed]);rcases qka (fun _ g=>Jh g) (n.gaps) (sc) i hk hJ with ⟨m,hm,hlt,hb,hw,he⟩ | ⟨hb,he⟩)
  | refine Ke rfl ?_
  | refine Jk rfl rfl ?_
  | (refine Yq (i+1) ?_ ?_ ?_ ?_;(· exact ⟨by omega,by simp_all⟩);(· omega);(· simp [leFT,leV,leOs,leO,leC,rho,AV.ren,AV.ren1,AV.un,AV.un1,AV.closed,hw]);(· simp [leFT,leV,leOs,leO,leC,rho,AV.ren,AV.ren1,AV.un,AV.un1,AV.closed]))
  | (refine qf ?_ ?_;(· simp only [hb]))
  | (refine qg ?_ ?_;(· simp only [hb]))
  | (refine qi ?_ ?_;(· simp only [hb]))
  | (refine qh ?_ ?_;(· simp only [hb]))
  | (refine qn ?_ ?_;(· simp only [hb]))
  | (refine qo ?_ ?_;(· simp only [hb]))
  | refine Y5 env rfl rfl rfl rfl rfl (q66 hm) ?_
  | refine qk (qvs _ (hs _ (qnj hm))) ?_
  | refine qk (qyz _ hkk) ?_
  | refine qq (fun h=> ?_) (fun h=> ?_)
  | refine qw (fun h=> ?_) (fun h=> ?_)
  | refine qd (fun h=> ?_) (fun h=> ?_)
  | refine zb env rfl rfl (qz ?_)
  | refine zn env rfl (qz ?_)
 all_goals refine w8 ?_
 all_goals simp_all [qj3,qga]
end Go.Proofs.YtpnkemogepoioaaGreatDoorW.Ex.Gr
