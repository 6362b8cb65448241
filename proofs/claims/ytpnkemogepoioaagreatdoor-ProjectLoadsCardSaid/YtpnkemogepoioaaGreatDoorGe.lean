/- A node's kids. No conditions beside those in each theorem. -/
import Derived.Test.YtpnkemogepoioaaGreatDoorGd
namespace Go.Proofs.YtpnkemogepoioaaGreatDoorW.Ex.Gr
open Go Go.Proofs.YtpnkemogepoioaaGreatDoorW.Ex
set_option linter.all false
set_option maxRecDepth 100000
set_option maxHeartbeats 4000000 in
theorem Kz (n:Node) (hkn:known n.kind=true) (hk:n.kids.length≤9223372036854775807):Fn Tryz.prog G 107 [.agg (z7 n)] (.bool (Yd n)):=by
 have kb:=qb2 hkn
 have h0:0≤n.kind:=by omega
 have h2:n.kind.toNat < 27:=by omega
 have hg:=qk4 n.kind h2
 refine z8 (T:=tt) (N:=57) (rs:= [.tmp 2]) (fun vs w=>by simp) Tryz.func107 rfl rfl rfl rfl (by kernel_rfl) (jo rfl) (zf _ rfl) ?_
 repeat' first
  | refine ky env rfl ?_
  | refine qmj env rfl rfl rfl rfl h0 h2 hg ?_
  | (refine qiz (α:=Nat) (fun i=>i≤(n.kids).length∧Q7 (fun i m=>fits n.kind i m.kind) 0 (n.kids)=Q7 (fun i m=>fits n.kind i m.kind) i ((n.kids).drop i)) (fun i=>(n.kids).length - i) (fun i=> [(44, .int .i64 i)]) (fun _=> []) (0) (fun _=>rfl) (fun _=>rfl) (⟨AD _,rfl⟩) ?_ ?_ (fun i hJ=> ?_);(· simp [leFT,leV,leOs,leO,leC,rho,AV.ren,AV.ren1,AV.un,AV.un1,AV.closed]);(· simp [leFT,leV,leOs,leO,leC,rho,AV.ren,AV.ren1,AV.un,AV.un1,AV.closed]);rcases qxc (fun i m=>fits n.kind i m.kind) (n.kids) (Node.cells) i hk hJ with ⟨m,hm,hlt,hb,hw,he⟩ | ⟨hb,he⟩)
  | refine qiy rfl ?_
  | refine qfk rfl rfl ?_
  | (refine qgp (i+1) ?_ ?_ ?_ ?_;(· exact ⟨by omega,by simp_all⟩);(· omega);(· simp [leFT,leV,leOs,leO,leC,rho,AV.ren,AV.ren1,AV.un,AV.un1,AV.closed,hw]);(· simp [leFT,leV,leOs,leO,leC,rho,AV.ren,AV.ren1,AV.un,AV.un1,AV.closed]))
  | (refine qt ?_ ?_;(· simp only [hb]))
  | (refine qu ?_ ?_;(· simp only [hb]))
  | (refine qw ?_ ?_;(· simp only [hb]))
  | (refine qv ?_ ?_;(· simp only [hb]))
  | (refine qy ?_ ?_;(· simp only [hb]))
  | (refine qz ?_ ?_;(· simp only [hb]))
  | refine qay env rfl rfl rfl rfl rfl (qma hm) ?_
  | refine qn (qt9 _ _ _) ?_
  | refine qr (fun h=> ?_) (fun h=> ?_)
  | refine q9 (fun h=> ?_) (fun h=> ?_)
  | refine qe (fun h=> ?_) (fun h=> ?_)
  | refine yg env rfl rfl (zl ?_)
  | refine jp env rfl (zl ?_)
 all_goals refine Y6 ?_
 all_goals simp_all [Yd,qfc,Prod.ext_iff]
 all_goals omega
def Ye (v:ByteArray):Nat→List ByteArray→Int
 | _, []=> -1
 | i,w::l=>if v=w then i else Ye v (i+1) l
theorem q0d (v:ByteArray):∀(l:List ByteArray) (i:Nat),decide (0≤Ye v i l)=memB v l
 | [],i=>by simp [Ye,memB]
 | w::l,i=>by
   simp only [Ye]
   split
   ·rename_i h;subst h;simp [memB]
   rename_i h;rw [q0d v l (i+1)];simp [memB,h]
theorem q4t (v:ByteArray) (l:List ByteArray) (i:Nat) (hl:l.length≤9223372036854775807) (hJ:i≤l.length∧Ye v 0 l=Ye v i (l.drop i)):
 (∃ m,(l.map sc)[i]? =some [.str m]∧i < l.length∧decide ((i:Int) < ((l.map sc).length:Int))=true∧IntKind.i64.wrap ((i:Int)+1)=((i+1:Nat):Int)∧
   ((decide (v=m)=true∧Ye v 0 l=i)∨(decide (v=m)=false∧Ye v 0 l=Ye v (i+1) (l.drop (i+1)))))∨
 (decide ((i:Int) < ((l.map sc).length:Int))=false∧Ye v 0 l= -1):=by
 rcases Br i l.length with h | h
 ·refine .inl ⟨l[i],by rw [Av,Ak h];rfl,h,by simpa using h,we (by omega) (by omega),?_⟩
  have e:Ye v i (l.drop i)=if v=l[i] then (i:Int) else Ye v (i+1) (l.drop (i+1)):=by rw [Be h];rfl
  rw [hJ.2,e]
  by_cases hv:v=l[i]
  ·exact .inl ⟨decide_eq_true hv,if_pos hv⟩
  exact .inr ⟨decide_eq_false hv,if_neg hv⟩
 refine .inr ⟨by simpa using h,?_⟩
 rw [hJ.2,AW h];rfl
set_option maxHeartbeats 4000000 in
theorem qtk (l:List ByteArray) (v:ByteArray) (hl:l.length≤9223372036854775807):Fn Tryz.prog G 172 [.sl 1 false (l.map sc), .str v] (.int .i64 (Ye v 0 l)):=by
 refine z8 (T:=tt) (N:=19) (rs:= [.tmp 4]) (fun vs w=>by simp) Tryz.func172 rfl rfl rfl rfl (by kernel_rfl) (jo rfl) (zf _ rfl) ?_
 repeat' first
  | refine ky env rfl ?_
  | (refine qiz (α:=Nat) (fun i=>i≤l.length∧Ye v 0 l=Ye v i (l.drop i)) (fun i=>l.length - i) (fun i=> [(8, .int .i64 i)]) (fun _=> []) (0) (fun _=>rfl) (fun _=>rfl) (⟨AD _,rfl⟩) ?_ ?_ (fun i hJ=> ?_);(· simp [leFT,leV,leOs,leO,leC,rho,AV.ren,AV.ren1,AV.un,AV.un1,AV.closed]);(· simp [leFT,leV,leOs,leO,leC,rho,AV.ren,AV.ren1,AV.un,AV.un1,AV.closed]);rcases q4t v l i hl hJ with ⟨m,hm,hlt,hb,hw,⟨g1,he⟩ | ⟨g1,he⟩⟩ | ⟨hb,he⟩)
  | refine qiy rfl ?_
  | refine qfk rfl rfl ?_
  | (refine qgp (i+1) ?_ ?_ ?_ ?_;(· exact ⟨by omega,he⟩);(· omega);(· (simp only [hw];simp [leFT,leV,leOs,leO,leC,rho,AV.ren,AV.ren1,AV.un,AV.un1,AV.closed]));(· simp [leFT,leV,leOs,leO,leC,rho,AV.ren,AV.ren1,AV.un,AV.un1,AV.closed]))
  | (refine qt ?_ ?_;(· simp only [hb]))
  | (refine qu ?_ ?_;(· simp only [hb]))
  | (refine qw ?_ ?_;(· simp only [hb]))
  | (refine qv ?_ ?_;(· simp only [hb]))
  | (refine qy ?_ ?_;(· simp only [hb]))
  | (refine qz ?_ ?_;(· simp only [hb]))
  | (refine qt ?_ ?_;(· simp only [g1]))
  | (refine qu ?_ ?_;(· simp only [g1]))
  | (refine qw ?_ ?_;(· simp only [g1]))
  | (refine qv ?_ ?_;(· simp only [g1]))
  | (refine qy ?_ ?_;(· simp only [g1]))
  | (refine qz ?_ ?_;(· simp only [g1]))
  | refine qay env rfl rfl rfl rfl rfl hm ?_
  | refine qr (fun h=> ?_) (fun h=> ?_)
  | refine q9 (fun h=> ?_) (fun h=> ?_)
  | refine qe (fun h=> ?_) (fun h=> ?_)
  | refine yg env rfl rfl (zl ?_)
  | refine jp env rfl (zl ?_)
 all_goals refine qgg ?_
 all_goals simp only [he]
set_option maxHeartbeats 4000000 in
theorem qnf (l:List ByteArray) (v:ByteArray) (hl:l.length≤9223372036854775807):Fn Tryz.prog G 141 [.sl 1 false (l.map sc), .str v] (.bool (memB v l)):=by
 refine z8 (T:=tt) (N:=9) (rs:= [.tmp 4]) (fun vs w=>by simp) Tryz.func141 rfl rfl rfl rfl (by kernel_rfl) (jo rfl) (zf _ rfl) ?_
 repeat' first
  | refine ky env rfl ?_
  | refine qn (qtk _ _ hl) ?_
  | refine qr (fun h=> ?_) (fun h=> ?_)
  | refine q9 (fun h=> ?_) (fun h=> ?_)
  | refine qe (fun h=> ?_) (fun h=> ?_)
  | refine yg env rfl rfl (zl ?_)
  | refine jp env rfl (zl ?_)
 all_goals refine Y6 ?_
 all_goals exact q0d v l 0
theorem q1g:∀k:Nat,k < 27→(shapes.getD k ⟨[],(0,0),0, [],0⟩).words.length≤8:=by decide
set_option maxHeartbeats 4000000 in
theorem Ym (n:Node) (hkn:known n.kind=true):Fn Tryz.prog G 108 [.agg (z7 n)] (.bool (Kw n)):=by
 have kb:=qb2 hkn
 have h0:0≤n.kind:=by omega
 have h2:n.kind.toNat < 27:=by omega
 have hg:=qk4 n.kind h2
 have hw:(jc n.kind).words.length≤9223372036854775807:=BD (q1g n.kind.toNat h2) (by decide)
 refine z8 (T:=tt) (N:=22) (rs:= [.tmp 2]) (fun vs w=>by simp) Tryz.func108 rfl rfl rfl rfl (by kernel_rfl) (jo rfl) (zf _ rfl) ?_
 repeat' first
  | refine ky env rfl ?_
  | refine qmj env rfl rfl rfl rfl h0 h2 hg ?_
  | refine qn (qnf _ _ hw) ?_
  | refine qr (fun h=> ?_) (fun h=> ?_)
  | refine q9 (fun h=> ?_) (fun h=> ?_)
  | refine qe (fun h=> ?_) (fun h=> ?_)
  | refine yg env rfl rfl (zl ?_)
  | refine jp env rfl (zl ?_)
 all_goals refine Y6 ?_
 all_goals simp_all [Kw]
set_option maxHeartbeats 4000000 in
theorem qds (n:Node) (hkn:known n.kind=true):Fn Tryz.prog G 110 [.agg (z7 n)] (.bool (qat n)):=by
 have kb:=qb2 hkn
 have h0:0≤n.kind:=by omega
 have h2:n.kind.toNat < 27:=by omega
 have hg:=qk4 n.kind h2
 refine z8 (T:=tt) (N:=23) (rs:= [.tmp 2]) (fun vs w=>by simp) Tryz.func110 rfl rfl rfl rfl (by kernel_rfl) (jo rfl) (zf _ rfl) ?_
 repeat' first
  | refine ky env rfl ?_
  | refine qmj env rfl rfl rfl rfl h0 h2 hg ?_
  | refine qn (qpe _) ?_
  | refine qn (qnh _) ?_
  | refine qr (fun h=> ?_) (fun h=> ?_)
  | refine q9 (fun h=> ?_) (fun h=> ?_)
  | refine qe (fun h=> ?_) (fun h=> ?_)
  | refine yg env rfl rfl (zl ?_)
  | refine jp env rfl (zl ?_)
 all_goals refine Y6 ?_
 all_goals simp_all [qat]
theorem q2g:∀k:Nat,k < 27→(k=24→(shapes.getD k ⟨[],(0,0),0, [],0⟩).first.length=2)∧(k=25∨k=21→(shapes.getD k ⟨[],(0,0),0, [],0⟩).first.length=1):=by decide
theorem qgc (n:Node) (h:Yd n=true) (hkn:known n.kind=true):(n.kind=24→∃a b,n.kids[0]? =some a∧n.kids[1]? =some b∧kid n 0=a∧kid n 1=b)∧(n.kind=25∨n.kind=21→∃a,n.kids[0]? =some a∧kid n 0=a):=by
 have kb:=qb2 hkn
 have hf:=q2g n.kind.toNat (by omega)
 have hk:n.kind≠14→(jc n.kind).first.length≤n.kids.length:=by
  intro hne
  unfold Yd at h
  rw [if_neg (by omega)] at h
  split at h
  ·cases h
  omega
 have hs:(jc n.kind).first=(shapes.getD n.kind.toNat ⟨[],(0,0),0, [],0⟩).first:=rfl
 constructor
 ·intro hk24
  have h2:=hk (by omega)
  rw [hs,hf.1 (by omega)] at h2
  refine ⟨n.kids[0],n.kids[1],Ak (by omega),Ak (by omega),?_,?_⟩
  ·unfold kid;rw [Ax,Ak (by omega)];rfl
  unfold kid;rw [Ax,Ak (by omega)];rfl
 intro hk2
 have h2:=hk (by omega)
 rw [hs,hf.2 (by omega)] at h2
 refine ⟨n.kids[0],Ak (by omega),?_⟩
 unfold kid;rw [Ax,Ak (by omega)];rfl
set_option maxHeartbeats 4000000 in
theorem qaq (n:Node) (hk0:(n.kind=24→∃a b,n.kids[0]? =some a∧n.kids[1]? =some b∧kid n 0=a∧kid n 1=b)∧(n.kind=25∨n.kind=21→∃a,n.kids[0]? =some a∧kid n 0=a)):Fn Tryz.prog G 109 [.agg (z7 n)] (.bool (Wn n)):=by
 by_cases hb:n.kind=24
 case pos=>
  obtain ⟨a,b,ha,hb2,ea,eb⟩:=hk0.1 hb
  have d1:decide (n.kind=24)=true:=decide_eq_true hb
  refine z8 (T:=tt) (N:=51) (rs:= [.tmp 2]) (fun vs w=>by simp) Tryz.func109 rfl rfl rfl rfl (by kernel_rfl) (jo rfl) (zf _ rfl) ?_
  repeat' first
   | refine ky env rfl ?_
   | (refine qt ?_ ?_;(· simp only [d1]))
   | (refine qu ?_ ?_;(· simp only [d1]))
   | (refine qw ?_ ?_;(· simp only [d1]))
   | (refine qv ?_ ?_;(· simp only [d1]))
   | (refine qy ?_ ?_;(· simp only [d1]))
   | (refine qz ?_ ?_;(· simp only [d1]))
   | refine qay env rfl rfl rfl rfl (m:=0) rfl (qma ha) ?_
   | refine qay env rfl rfl rfl rfl (m:=1) rfl (qma hb2) ?_
   | refine qn (qeq _) ?_
   | refine qr (fun h=> ?_) (fun h=> ?_)
   | refine q9 (fun h=> ?_) (fun h=> ?_)
   | refine qe (fun h=> ?_) (fun h=> ?_)
   | refine yg env rfl rfl (zl ?_)
   | refine jp env rfl (zl ?_)
  all_goals refine Y6 ?_
  all_goals (simp_all [Wn])
  all_goals (try omega)
 have d1:decide (n.kind=24)=false:=decide_eq_false hb
 by_cases hu:n.kind=25∨n.kind=21
 case pos=>
  obtain ⟨a,ha,ea⟩:=hk0.2 hu
  refine z8 (T:=tt) (N:=51) (rs:= [.tmp 2]) (fun vs w=>by simp) Tryz.func109 rfl rfl rfl rfl (by kernel_rfl) (jo rfl) (zf _ rfl) ?_
  repeat' first
   | refine ky env rfl ?_
   | (refine qt ?_ ?_;(· simp only [d1]))
   | (refine qu ?_ ?_;(· simp only [d1]))
   | (refine qw ?_ ?_;(· simp only [d1]))
   | (refine qv ?_ ?_;(· simp only [d1]))
   | (refine qy ?_ ?_;(· simp only [d1]))
   | (refine qz ?_ ?_;(· simp only [d1]))
   | refine qay env rfl rfl rfl rfl (m:=0) rfl (qma ha) ?_
   | refine qn (qeq _) ?_
   | refine qr (fun h=> ?_) (fun h=> ?_)
   | refine q9 (fun h=> ?_) (fun h=> ?_)
   | refine qe (fun h=> ?_) (fun h=> ?_)
   | refine yg env rfl rfl (zl ?_)
   | refine jp env rfl (zl ?_)
  all_goals refine Y6 ?_
  all_goals (simp_all [Wn])
  all_goals (try omega)
 have d2:decide (n.kind=25)=false:=decide_eq_false (fun e=>hu (.inl e))
 have d3:decide (n.kind=21)=false:=decide_eq_false (fun e=>hu (.inr e))
 refine z8 (T:=tt) (N:=51) (rs:= [.tmp 2]) (fun vs w=>by simp) Tryz.func109 rfl rfl rfl rfl (by kernel_rfl) (jo rfl) (zf _ rfl) ?_
 repeat' first
  | refine ky env rfl ?_
  | (refine qt ?_ ?_;(· simp only [d1]))
  | (refine qu ?_ ?_;(· simp only [d1]))
  | (refine qw ?_ ?_;(· simp only [d1]))
  | (refine qv ?_ ?_;(· simp only [d1]))
  | (refine qy ?_ ?_;(· simp only [d1]))
  | (refine qz ?_ ?_;(· simp only [d1]))
  | (refine qt ?_ ?_;(· simp only [d2]))
  | (refine qu ?_ ?_;(· simp only [d2]))
  | (refine qw ?_ ?_;(· simp only [d2]))
  | (refine qv ?_ ?_;(· simp only [d2]))
  | (refine qy ?_ ?_;(· simp only [d2]))
  | (refine qz ?_ ?_;(· simp only [d2]))
  | (refine qt ?_ ?_;(· simp only [d3]))
  | (refine qu ?_ ?_;(· simp only [d3]))
  | (refine qw ?_ ?_;(· simp only [d3]))
  | (refine qv ?_ ?_;(· simp only [d3]))
  | (refine qy ?_ ?_;(· simp only [d3]))
  | (refine qz ?_ ?_;(· simp only [d3]))
  | refine qn (qeq _) ?_
  | refine qr (fun h=> ?_) (fun h=> ?_)
  | refine q9 (fun h=> ?_) (fun h=> ?_)
  | refine qe (fun h=> ?_) (fun h=> ?_)
  | refine yg env rfl rfl (zl ?_)
  | refine jp env rfl (zl ?_)
 all_goals refine Y6 ?_
 all_goals (simp_all [Wn])
theorem q66 {l:List ByteArray} {i:Nat} {g:ByteArray} (h:l[i]? =some g):g∈l:=Af h
set_option maxHeartbeats 4000000 in
theorem qk2 (n:Node) (hk:n.gaps.length≤9223372036854775807) (hkk:n.kids.length≤9223372036854775807) (hs:∀g∈n.gaps,g.size≤9223372036854775807):Fn Tryz.prog G 111 [.agg (z7 n)] (.bool (qhw n)):=by
 refine z8 (T:=tt) (N:=26) (rs:= [.tmp 2]) (fun vs w=>by simp) Tryz.func111 rfl rfl rfl rfl (by kernel_rfl) (jo rfl) (zf _ rfl) ?_
 repeat' first
  | refine ky env rfl ?_
  | (refine qiz (α:=Nat) (fun i=>i≤(n.gaps).length∧Q7 (fun _ g=>trivValid g) 0 (n.gaps)=Q7 (fun _ g=>trivValid g) i ((n.gaps).drop i)) (fun i=>(n.gaps).length - i) (fun i=> [(12, .int .i64 i)]) (fun _=> []) (0) (fun _=>rfl) (fun _=>rfl) (⟨AD _,rfl⟩) ?_ ?_ (fun i hJ=> ?_);(· simp [leFT,leV,leOs,leO,leC,rho,AV.ren,AV.ren1,AV.un,AV.un1,AV.closed]);(· simp [leFT,leV,leOs,leO,leC,rho,AV.ren,AV.ren1,AV.un,AV.un1,AV.closed]);rcases qxc (fun _ g=>trivValid g) (n.gaps) (sc) i hk hJ with ⟨m,hm,hlt,hb,hw,he⟩ | ⟨hb,he⟩)
  | refine qiy rfl ?_
  | refine qfk rfl rfl ?_
  | (refine qgp (i+1) ?_ ?_ ?_ ?_;(· exact ⟨by omega,by simp_all⟩);(· omega);(· simp [leFT,leV,leOs,leO,leC,rho,AV.ren,AV.ren1,AV.un,AV.un1,AV.closed,hw]);(· simp [leFT,leV,leOs,leO,leC,rho,AV.ren,AV.ren1,AV.un,AV.un1,AV.closed]))
  | (refine qt ?_ ?_;(· simp only [hb]))
  | (refine qu ?_ ?_;(· simp only [hb]))
  | (refine qw ?_ ?_;(· simp only [hb]))
  | (refine qv ?_ ?_;(· simp only [hb]))
  | (refine qy ?_ ?_;(· simp only [hb]))
  | (refine qz ?_ ?_;(· simp only [hb]))
  | refine qay env rfl rfl rfl rfl rfl (q9g hm) ?_
  | refine qn (qte _ (hs _ (q66 hm))) ?_
  | refine qn (qwq _ hkk) ?_
  | refine qr (fun h=> ?_) (fun h=> ?_)
  | refine q9 (fun h=> ?_) (fun h=> ?_)
  | refine qe (fun h=> ?_) (fun h=> ?_)
  | refine yg env rfl rfl (zl ?_)
  | refine jp env rfl (zl ?_)
 all_goals refine Y6 ?_
 all_goals simp_all [qhw,qub]
end Go.Proofs.YtpnkemogepoioaaGreatDoorW.Ex.Gr
