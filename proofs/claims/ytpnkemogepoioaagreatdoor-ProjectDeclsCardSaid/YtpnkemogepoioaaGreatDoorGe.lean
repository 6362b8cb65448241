/- A node's kids. No conditions beside those in each theorem. -/
import Derived.Test.YtpnkemogepoioaaGreatDoorGd
namespace Go.Proofs.YtpnkemogepoioaaGreatDoorW.Ex.Gr
open Go Go.Proofs.YtpnkemogepoioaaGreatDoorW.Ex
set_option linter.all false
set_option maxRecDepth 100000
set_option maxHeartbeats 4000000 in
theorem J7 (n:Node) (hkn:known n.kind=true) (hk:n.kids.length≤9223372036854775807):Fn Tryz.prog G 107 [.agg (zq n)] (.bool (qjn n)):=by
 have kb:=qdi hkn
 have h0:0≤n.kind:=by omega
 have h2:n.kind.toNat < 27:=by omega
 have hg:=qim n.kind h2
 refine zo (T:=tt) (N:=57) (rs:= [.tmp 2]) (fun vs w=>by simp) Tryz.func107 rfl rfl rfl rfl (by kernel_rfl) (z7 rfl) (q5 _ rfl) ?_
 repeat' first
  | refine yo env rfl ?_
  | refine qjz env rfl rfl rfl rfl h0 h2 hg ?_
  | (refine qgn (α:=Nat) (fun i=>i≤(n.kids).length∧Zz (fun i m=>fits n.kind i m.kind) 0 (n.kids)=Zz (fun i m=>fits n.kind i m.kind) i ((n.kids).drop i)) (fun i=>(n.kids).length - i) (fun i=> [(44, .int .i64 i)]) (fun _=> []) (0) (fun _=>rfl) (fun _=>rfl) (⟨Nat.zero_le _,rfl⟩) ?_ ?_ (fun i hJ=> ?_);(· simp [leFT,leV,leOs,leO,leC,rho,AV.ren,AV.ren1,AV.un,AV.un1,AV.closed]);(· simp [leFT,leV,leOs,leO,leC,rho,AV.ren,AV.ren1,AV.un,AV.un1,AV.closed]);rcases qs3 (fun i m=>fits n.kind i m.kind) (n.kids) (Node.cells) i hk hJ with ⟨m,hm,hlt,hb,hw,he⟩ | ⟨hb,he⟩)
  | refine qgm rfl ?_
  | refine qds rfl rfl ?_
  | (refine qet (i+1) ?_ ?_ ?_ ?_;(· exact ⟨by omega,by simp_all⟩);(· omega);(· simp [leFT,leV,leOs,leO,leC,rho,AV.ren,AV.ren1,AV.un,AV.un1,AV.closed,hw]);(· simp [leFT,leV,leOs,leO,leC,rho,AV.ren,AV.ren1,AV.un,AV.un1,AV.closed]))
  | (refine qk ?_ ?_;(· simp only [hb]))
  | (refine ql ?_ ?_;(· simp only [hb]))
  | (refine qn ?_ ?_;(· simp only [hb]))
  | (refine qm ?_ ?_;(· simp only [hb]))
  | (refine qu ?_ ?_;(· simp only [hb]))
  | (refine qv ?_ ?_;(· simp only [hb]))
  | refine We env rfl rfl rfl rfl rfl (qjo hm) ?_
  | refine qp (qqg _ _ _) ?_
  | refine qo (fun h=> ?_) (fun h=> ?_)
  | refine za (fun h=> ?_) (fun h=> ?_)
  | refine qf (fun h=> ?_) (fun h=> ?_)
  | refine j5 env rfl rfl (q9 ?_)
  | refine z8 env rfl (q9 ?_)
 all_goals refine Jl ?_
 all_goals simp_all [qjn,qsp,Prod.ext_iff]
 all_goals omega
def Zw (v:ByteArray):Nat→List ByteArray→Int
 | _, []=> -1
 | i,w::l=>if v=w then i else Zw v (i+1) l
theorem qvp (v:ByteArray):∀(l:List ByteArray) (i:Nat),decide (0≤Zw v i l)=memB v l
 | [],i=>by simp [Zw,memB]
 | w::l,i=>by
   simp only [Zw]
   split
   ·rename_i h;subst h;simp [memB]
   rename_i h;rw [qvp v l (i+1)];simp [memB,h]
theorem qzj (v:ByteArray) (l:List ByteArray) (i:Nat) (hl:l.length≤9223372036854775807) (hJ:i≤l.length∧Zw v 0 l=Zw v i (l.drop i)):
 (∃ m,(l.map sc)[i]? =some [.str m]∧i < l.length∧decide ((i:Int) < ((l.map sc).length:Int))=true∧IntKind.i64.wrap ((i:Int)+1)=((i+1:Nat):Int)∧
   ((decide (v=m)=true∧Zw v 0 l=i)∨(decide (v=m)=false∧Zw v 0 l=Zw v (i+1) (l.drop (i+1)))))∨
 (decide ((i:Int) < ((l.map sc).length:Int))=false∧Zw v 0 l= -1):=by
 rcases Nat.lt_or_ge i l.length with h | h
 ·refine .inl ⟨l[i],by rw [List.getElem?_map,List.getElem?_eq_getElem h];rfl,h,by simpa using h,ke (by omega) (by omega),?_⟩
  have e:Zw v i (l.drop i)=if v=l[i] then (i:Int) else Zw v (i+1) (l.drop (i+1)):=by rw [List.drop_eq_getElem_cons h];rfl
  rw [hJ.2,e]
  by_cases hv:v=l[i]
  ·exact .inl ⟨decide_eq_true hv,if_pos hv⟩
  exact .inr ⟨decide_eq_false hv,if_neg hv⟩
 refine .inr ⟨by simpa using h,?_⟩
 rw [hJ.2,List.drop_of_length_le h];rfl
set_option maxHeartbeats 4000000 in
theorem qpt (l:List ByteArray) (v:ByteArray) (hl:l.length≤9223372036854775807):Fn Tryz.prog G 172 [.sl 1 false (l.map sc), .str v] (.int .i64 (Zw v 0 l)):=by
 refine zo (T:=tt) (N:=19) (rs:= [.tmp 4]) (fun vs w=>by simp) Tryz.func172 rfl rfl rfl rfl (by kernel_rfl) (z7 rfl) (q5 _ rfl) ?_
 repeat' first
  | refine yo env rfl ?_
  | (refine qgn (α:=Nat) (fun i=>i≤l.length∧Zw v 0 l=Zw v i (l.drop i)) (fun i=>l.length - i) (fun i=> [(8, .int .i64 i)]) (fun _=> []) (0) (fun _=>rfl) (fun _=>rfl) (⟨Nat.zero_le _,rfl⟩) ?_ ?_ (fun i hJ=> ?_);(· simp [leFT,leV,leOs,leO,leC,rho,AV.ren,AV.ren1,AV.un,AV.un1,AV.closed]);(· simp [leFT,leV,leOs,leO,leC,rho,AV.ren,AV.ren1,AV.un,AV.un1,AV.closed]);rcases qzj v l i hl hJ with ⟨m,hm,hlt,hb,hw,⟨g1,he⟩ | ⟨g1,he⟩⟩ | ⟨hb,he⟩)
  | refine qgm rfl ?_
  | refine qds rfl rfl ?_
  | (refine qet (i+1) ?_ ?_ ?_ ?_;(· exact ⟨by omega,he⟩);(· omega);(· (simp only [hw];simp [leFT,leV,leOs,leO,leC,rho,AV.ren,AV.ren1,AV.un,AV.un1,AV.closed]));(· simp [leFT,leV,leOs,leO,leC,rho,AV.ren,AV.ren1,AV.un,AV.un1,AV.closed]))
  | (refine qk ?_ ?_;(· simp only [hb]))
  | (refine ql ?_ ?_;(· simp only [hb]))
  | (refine qn ?_ ?_;(· simp only [hb]))
  | (refine qm ?_ ?_;(· simp only [hb]))
  | (refine qu ?_ ?_;(· simp only [hb]))
  | (refine qv ?_ ?_;(· simp only [hb]))
  | (refine qk ?_ ?_;(· simp only [g1]))
  | (refine ql ?_ ?_;(· simp only [g1]))
  | (refine qn ?_ ?_;(· simp only [g1]))
  | (refine qm ?_ ?_;(· simp only [g1]))
  | (refine qu ?_ ?_;(· simp only [g1]))
  | (refine qv ?_ ?_;(· simp only [g1]))
  | refine We env rfl rfl rfl rfl rfl hm ?_
  | refine qo (fun h=> ?_) (fun h=> ?_)
  | refine za (fun h=> ?_) (fun h=> ?_)
  | refine qf (fun h=> ?_) (fun h=> ?_)
  | refine j5 env rfl rfl (q9 ?_)
  | refine z8 env rfl (q9 ?_)
 all_goals refine qel ?_
 all_goals simp only [he]
set_option maxHeartbeats 4000000 in
theorem qkp (l:List ByteArray) (v:ByteArray) (hl:l.length≤9223372036854775807):Fn Tryz.prog G 141 [.sl 1 false (l.map sc), .str v] (.bool (memB v l)):=by
 refine zo (T:=tt) (N:=9) (rs:= [.tmp 4]) (fun vs w=>by simp) Tryz.func141 rfl rfl rfl rfl (by kernel_rfl) (z7 rfl) (q5 _ rfl) ?_
 repeat' first
  | refine yo env rfl ?_
  | refine qp (qpt _ _ hl) ?_
  | refine qo (fun h=> ?_) (fun h=> ?_)
  | refine za (fun h=> ?_) (fun h=> ?_)
  | refine qf (fun h=> ?_) (fun h=> ?_)
  | refine j5 env rfl rfl (q9 ?_)
  | refine z8 env rfl (q9 ?_)
 all_goals refine Jl ?_
 all_goals exact qvp v l 0
theorem qwk:∀k:Nat,k < 27→(shapes.getD k ⟨[],(0,0),0, [],0⟩).words.length≤8:=by decide
set_option maxHeartbeats 4000000 in
theorem Z4 (n:Node) (hkn:known n.kind=true):Fn Tryz.prog G 108 [.agg (zq n)] (.bool (qga n)):=by
 have kb:=qdi hkn
 have h0:0≤n.kind:=by omega
 have h2:n.kind.toNat < 27:=by omega
 have hg:=qim n.kind h2
 have hw:(wx n.kind).words.length≤9223372036854775807:=Nat.le_trans (qwk n.kind.toNat h2) (by decide)
 refine zo (T:=tt) (N:=22) (rs:= [.tmp 2]) (fun vs w=>by simp) Tryz.func108 rfl rfl rfl rfl (by kernel_rfl) (z7 rfl) (q5 _ rfl) ?_
 repeat' first
  | refine yo env rfl ?_
  | refine qjz env rfl rfl rfl rfl h0 h2 hg ?_
  | refine qp (qkp _ _ hw) ?_
  | refine qo (fun h=> ?_) (fun h=> ?_)
  | refine za (fun h=> ?_) (fun h=> ?_)
  | refine qf (fun h=> ?_) (fun h=> ?_)
  | refine j5 env rfl rfl (q9 ?_)
  | refine z8 env rfl (q9 ?_)
 all_goals refine Jl ?_
 all_goals simp_all [qga]
set_option maxHeartbeats 4000000 in
theorem qby (n:Node) (hkn:known n.kind=true):Fn Tryz.prog G 110 [.agg (zq n)] (.bool (qiw n)):=by
 have kb:=qdi hkn
 have h0:0≤n.kind:=by omega
 have h2:n.kind.toNat < 27:=by omega
 have hg:=qim n.kind h2
 refine zo (T:=tt) (N:=23) (rs:= [.tmp 2]) (fun vs w=>by simp) Tryz.func110 rfl rfl rfl rfl (by kernel_rfl) (z7 rfl) (q5 _ rfl) ?_
 repeat' first
  | refine yo env rfl ?_
  | refine qjz env rfl rfl rfl rfl h0 h2 hg ?_
  | refine qp (qmc _) ?_
  | refine qp (qkr _) ?_
  | refine qo (fun h=> ?_) (fun h=> ?_)
  | refine za (fun h=> ?_) (fun h=> ?_)
  | refine qf (fun h=> ?_) (fun h=> ?_)
  | refine j5 env rfl rfl (q9 ?_)
  | refine z8 env rfl (q9 ?_)
 all_goals refine Jl ?_
 all_goals simp_all [qiw]
theorem qxf:∀k:Nat,k < 27→(k=24→(shapes.getD k ⟨[],(0,0),0, [],0⟩).first.length=2)∧(k=25∨k=21→(shapes.getD k ⟨[],(0,0),0, [],0⟩).first.length=1):=by decide
theorem qej (n:Node) (h:qjn n=true) (hkn:known n.kind=true):(n.kind=24→∃a b,n.kids[0]? =some a∧n.kids[1]? =some b∧kid n 0=a∧kid n 1=b)∧(n.kind=25∨n.kind=21→∃a,n.kids[0]? =some a∧kid n 0=a):=by
 have kb:=qdi hkn
 have hf:=qxf n.kind.toNat (by omega)
 have hk:n.kind≠14→(wx n.kind).first.length≤n.kids.length:=by
  intro hne
  unfold qjn at h
  rw [if_neg (by omega)] at h
  split at h
  ·cases h
  omega
 have hs:(wx n.kind).first=(shapes.getD n.kind.toNat ⟨[],(0,0),0, [],0⟩).first:=rfl
 constructor
 ·intro hk24
  have h2:=hk (by omega)
  rw [hs,hf.1 (by omega)] at h2
  refine ⟨n.kids[0],n.kids[1],List.getElem?_eq_getElem (by omega),List.getElem?_eq_getElem (by omega),?_,?_⟩
  ·unfold kid;rw [List.getD_eq_getElem?_getD,List.getElem?_eq_getElem (by omega)];rfl
  unfold kid;rw [List.getD_eq_getElem?_getD,List.getElem?_eq_getElem (by omega)];rfl
 intro hk2
 have h2:=hk (by omega)
 rw [hs,hf.2 (by omega)] at h2
 refine ⟨n.kids[0],List.getElem?_eq_getElem (by omega),?_⟩
 unfold kid;rw [List.getD_eq_getElem?_getD,List.getElem?_eq_getElem (by omega)];rfl
set_option maxHeartbeats 4000000 in
theorem Kt (n:Node) (hk0:(n.kind=24→∃a b,n.kids[0]? =some a∧n.kids[1]? =some b∧kid n 0=a∧kid n 1=b)∧(n.kind=25∨n.kind=21→∃a,n.kids[0]? =some a∧kid n 0=a)):Fn Tryz.prog G 109 [.agg (zq n)] (.bool (qde n)):=by
 by_cases hb:n.kind=24
 case pos=>
  obtain ⟨a,b,ha,hb2,ea,eb⟩:=hk0.1 hb
  have d1:decide (n.kind=24)=true:=decide_eq_true hb
  refine zo (T:=tt) (N:=51) (rs:= [.tmp 2]) (fun vs w=>by simp) Tryz.func109 rfl rfl rfl rfl (by kernel_rfl) (z7 rfl) (q5 _ rfl) ?_
  repeat' first
   | refine yo env rfl ?_
   | (refine qk ?_ ?_;(· simp only [d1]))
   | (refine ql ?_ ?_;(· simp only [d1]))
   | (refine qn ?_ ?_;(· simp only [d1]))
   | (refine qm ?_ ?_;(· simp only [d1]))
   | (refine qu ?_ ?_;(· simp only [d1]))
   | (refine qv ?_ ?_;(· simp only [d1]))
   | refine We env rfl rfl rfl rfl (m:=0) rfl (qjo ha) ?_
   | refine We env rfl rfl rfl rfl (m:=1) rfl (qjo hb2) ?_
   | refine qp (qc1 _) ?_
   | refine qo (fun h=> ?_) (fun h=> ?_)
   | refine za (fun h=> ?_) (fun h=> ?_)
   | refine qf (fun h=> ?_) (fun h=> ?_)
   | refine j5 env rfl rfl (q9 ?_)
   | refine z8 env rfl (q9 ?_)
  all_goals refine Jl ?_
  all_goals (simp_all [qde])
  all_goals (try omega)
 have d1:decide (n.kind=24)=false:=decide_eq_false hb
 by_cases hu:n.kind=25∨n.kind=21
 case pos=>
  obtain ⟨a,ha,ea⟩:=hk0.2 hu
  refine zo (T:=tt) (N:=51) (rs:= [.tmp 2]) (fun vs w=>by simp) Tryz.func109 rfl rfl rfl rfl (by kernel_rfl) (z7 rfl) (q5 _ rfl) ?_
  repeat' first
   | refine yo env rfl ?_
   | (refine qk ?_ ?_;(· simp only [d1]))
   | (refine ql ?_ ?_;(· simp only [d1]))
   | (refine qn ?_ ?_;(· simp only [d1]))
   | (refine qm ?_ ?_;(· simp only [d1]))
   | (refine qu ?_ ?_;(· simp only [d1]))
   | (refine qv ?_ ?_;(· simp only [d1]))
   | refine We env rfl rfl rfl rfl (m:=0) rfl (qjo ha) ?_
   | refine qp (qc1 _) ?_
   | refine qo (fun h=> ?_) (fun h=> ?_)
   | refine za (fun h=> ?_) (fun h=> ?_)
   | refine qf (fun h=> ?_) (fun h=> ?_)
   | refine j5 env rfl rfl (q9 ?_)
   | refine z8 env rfl (q9 ?_)
  all_goals refine Jl ?_
  all_goals (simp_all [qde])
  all_goals (try omega)
 have d2:decide (n.kind=25)=false:=decide_eq_false (fun e=>hu (.inl e))
 have d3:decide (n.kind=21)=false:=decide_eq_false (fun e=>hu (.inr e))
 refine zo (T:=tt) (N:=51) (rs:= [.tmp 2]) (fun vs w=>by simp) Tryz.func109 rfl rfl rfl rfl (by kernel_rfl) (z7 rfl) (q5 _ rfl) ?_
 repeat' first
  | refine yo env rfl ?_
  | (refine qk ?_ ?_;(· simp only [d1]))
  | (refine ql ?_ ?_;(· simp only [d1]))
  | (refine qn ?_ ?_;(· simp only [d1]))
  | (refine qm ?_ ?_;(· simp only [d1]))
  | (refine qu ?_ ?_;(· simp only [d1]))
  | (refine qv ?_ ?_;(· simp only [d1]))
  | (refine qk ?_ ?_;(· simp only [d2]))
  | (refine ql ?_ ?_;(· simp only [d2]))
  | (refine qn ?_ ?_;(· simp only [d2]))
  | (refine qm ?_ ?_;(· simp only [d2]))
  | (refine qu ?_ ?_;(· simp only [d2]))
  | (refine qv ?_ ?_;(· simp only [d2]))
  | (refine qk ?_ ?_;(· simp only [d3]))
  | (refine ql ?_ ?_;(· simp only [d3]))
  | (refine qn ?_ ?_;(· simp only [d3]))
  | (refine qm ?_ ?_;(· simp only [d3]))
  | (refine qu ?_ ?_;(· simp only [d3]))
  | (refine qv ?_ ?_;(· simp only [d3]))
  | refine qp (qc1 _) ?_
  | refine qo (fun h=> ?_) (fun h=> ?_)
  | refine za (fun h=> ?_) (fun h=> ?_)
  | refine qf (fun h=> ?_) (fun h=> ?_)
  | refine j5 env rfl rfl (q9 ?_)
  | refine z8 env rfl (q9 ?_)
 all_goals refine Jl ?_
 all_goals (simp_all [qde])
theorem q1c {l:List ByteArray} {i:Nat} {g:ByteArray} (h:l[i]? =some g):g∈l:=List.mem_of_getElem? h
set_option maxHeartbeats 4000000 in
theorem qik (n:Node) (hk:n.gaps.length≤9223372036854775807) (hkk:n.kids.length≤9223372036854775807) (hs:∀g∈n.gaps,g.size≤9223372036854775807):Fn Tryz.prog G 111 [.agg (zq n)] (.bool (qqh n)):=by
 refine zo (T:=tt) (N:=26) (rs:= [.tmp 2]) (fun vs w=>by simp) Tryz.func111 rfl rfl rfl rfl (by kernel_rfl) (z7 rfl) (q5 _ rfl) ?_
 repeat' first
  | refine yo env rfl ?_
  | (refine qgn (α:=Nat) (fun i=>i≤(n.gaps).length∧Zz (fun _ g=>J3 g) 0 (n.gaps)=Zz (fun _ g=>J3 g) i ((n.gaps).drop i)) (fun i=>(n.gaps).length - i) (fun i=> [(12, .int .i64 i)]) (fun _=> []) (0) (fun _=>rfl) (fun _=>rfl) (⟨Nat.zero_le _,rfl⟩) ?_ ?_ (fun i hJ=> ?_);(· simp [leFT,leV,leOs,leO,leC,rho,AV.ren,AV.ren1,AV.un,AV.un1,AV.closed]);(· simp [leFT,leV,leOs,leO,leC,rho,AV.ren,AV.ren1,AV.un,AV.un1,AV.closed]);rcases qs3 (fun _ g=>J3 g) (n.gaps) (sc) i hk hJ with ⟨m,hm,hlt,hb,hw,he⟩ | ⟨hb,he⟩)
  | refine qgm rfl ?_
  | refine qds rfl rfl ?_
  | (refine qet (i+1) ?_ ?_ ?_ ?_;(· exact ⟨by omega,by simp_all⟩);(· omega);(· simp [leFT,leV,leOs,leO,leC,rho,AV.ren,AV.ren1,AV.un,AV.un1,AV.closed,hw]);(· simp [leFT,leV,leOs,leO,leC,rho,AV.ren,AV.ren1,AV.un,AV.un1,AV.closed]))
  | (refine qk ?_ ?_;(· simp only [hb]))
  | (refine ql ?_ ?_;(· simp only [hb]))
  | (refine qn ?_ ?_;(· simp only [hb]))
  | (refine qm ?_ ?_;(· simp only [hb]))
  | (refine qu ?_ ?_;(· simp only [hb]))
  | (refine qv ?_ ?_;(· simp only [hb]))
  | refine We env rfl rfl rfl rfl rfl (q27 hm) ?_
  | refine qp (qpn _ (hs _ (q1c hm))) ?_
  | refine qp (qsn _ hkk) ?_
  | refine qo (fun h=> ?_) (fun h=> ?_)
  | refine za (fun h=> ?_) (fun h=> ?_)
  | refine qf (fun h=> ?_) (fun h=> ?_)
  | refine j5 env rfl rfl (q9 ?_)
  | refine z8 env rfl (q9 ?_)
 all_goals refine Jl ?_
 all_goals simp_all [qqh,qvt]
end Go.Proofs.YtpnkemogepoioaaGreatDoorW.Ex.Gr
