/- Whole trees: the program's first, within and Check. Conditions: those of the trees that come in (Wf). -/
import Derived.Test.YtpnkemogepoioaaGreatDoorGe
namespace Go.Proofs.YtpnkemogepoioaaGreatDoorW.Ex.Gr
open Go Go.Proofs.YtpnkemogepoioaaGreatDoorW.Ex
set_option linter.all false
set_option maxRecDepth 100000
theorem qud (l:List Node) (i:Nat) (hl:l.length≤9223372036854775807) (hJ:i≤l.length∧wl l=wl (l.drop i)):
 (∃ m,l[i]? =some m∧m∈l∧i < l.length∧decide ((i:Int) < ((l.map Node.cells).length:Int))=true∧IntKind.i64.wrap ((i:Int)+1)=((i+1:Nat):Int)∧
   ((decide (firstErr m=0)=true∧wl l=wl (l.drop (i+1)))∨(decide (firstErr m=0)=false∧wl l=firstErr m)))∨
 (decide ((i:Int) < ((l.map Node.cells).length:Int))=false∧wl l=0):=by
 rcases Nat.lt_or_ge i l.length with h | h
 ·refine .inl ⟨l[i],List.getElem?_eq_getElem h,List.getElem_mem h,h,by simpa using h,ke (by omega) (by omega),?_⟩
  have e:wl (l.drop i)=if firstErr l[i]=0 then wl (l.drop (i+1)) else firstErr l[i]:=by rw [List.drop_eq_getElem_cons h,wl]
  rw [hJ.2,e]
  by_cases hv:firstErr l[i]=0
  ·exact .inl ⟨decide_eq_true hv,if_pos hv⟩
  exact .inr ⟨decide_eq_false hv,if_neg hv⟩
 refine .inr ⟨by simpa using h,?_⟩
 rw [hJ.2,List.drop_of_length_le h,wl]
set_option maxHeartbeats 4000000 in
theorem qnq:∀n:Node,Wf n→Fn Tryz.prog G 70 [.agg (zq n)] (.int .i64 (firstErr n)):=by
 intro n hwf
 induction hwf with | mk n hk hg ht hs _ ih=> ?_
 cases k0:known n.kind
 case false=>
  have e:Qr n=7:=by simp [Qr,qci,k0]
  rw [Jq,e]
  refine zo (T:=tt) (N:=44) (rs:= [.tmp 2]) (fun vs w=>by simp) Tryz.func70 rfl rfl rfl rfl (by kernel_rfl) (z7 rfl) (q5 _ rfl) ?_
  repeat' first
   | refine yo env rfl ?_
   | (refine qk ?_ ?_;(· simp only [k0,Bool.not_true,Bool.not_false]))
   | (refine ql ?_ ?_;(· simp only [k0,Bool.not_true,Bool.not_false]))
   | (refine qn ?_ ?_;(· simp only [k0,Bool.not_true,Bool.not_false]))
   | (refine qm ?_ ?_;(· simp only [k0,Bool.not_true,Bool.not_false]))
   | (refine qu ?_ ?_;(· simp only [k0,Bool.not_true,Bool.not_false]))
   | (refine qv ?_ ?_;(· simp only [k0,Bool.not_true,Bool.not_false]))
   | refine qp (yx _) ?_
   | refine qo (fun h=> ?_) (fun h=> ?_)
   | refine za (fun h=> ?_) (fun h=> ?_)
   | refine qf (fun h=> ?_) (fun h=> ?_)
   | refine j5 env rfl rfl (q9 ?_)
   | refine z8 env rfl (q9 ?_)
  all_goals rfl
 cases k1:qjn n
 case false=>
  have e:Qr n=7:=by simp [Qr,qci,k0,k1]
  rw [Jq,e]
  refine zo (T:=tt) (N:=44) (rs:= [.tmp 2]) (fun vs w=>by simp) Tryz.func70 rfl rfl rfl rfl (by kernel_rfl) (z7 rfl) (q5 _ rfl) ?_
  repeat' first
   | refine yo env rfl ?_
   | (refine qk ?_ ?_;(· simp only [k0,Bool.not_true,Bool.not_false]))
   | (refine ql ?_ ?_;(· simp only [k0,Bool.not_true,Bool.not_false]))
   | (refine qn ?_ ?_;(· simp only [k0,Bool.not_true,Bool.not_false]))
   | (refine qm ?_ ?_;(· simp only [k0,Bool.not_true,Bool.not_false]))
   | (refine qu ?_ ?_;(· simp only [k0,Bool.not_true,Bool.not_false]))
   | (refine qv ?_ ?_;(· simp only [k0,Bool.not_true,Bool.not_false]))
   | (refine qk ?_ ?_;(· simp only [k1,Bool.not_true,Bool.not_false]))
   | (refine ql ?_ ?_;(· simp only [k1,Bool.not_true,Bool.not_false]))
   | (refine qn ?_ ?_;(· simp only [k1,Bool.not_true,Bool.not_false]))
   | (refine qm ?_ ?_;(· simp only [k1,Bool.not_true,Bool.not_false]))
   | (refine qu ?_ ?_;(· simp only [k1,Bool.not_true,Bool.not_false]))
   | (refine qv ?_ ?_;(· simp only [k1,Bool.not_true,Bool.not_false]))
   | refine qp (yx _) ?_
   | refine qp (J7 n k0 hk) ?_
   | refine qo (fun h=> ?_) (fun h=> ?_)
   | refine za (fun h=> ?_) (fun h=> ?_)
   | refine qf (fun h=> ?_) (fun h=> ?_)
   | refine j5 env rfl rfl (q9 ?_)
   | refine z8 env rfl (q9 ?_)
  all_goals rfl
 cases k2:qga n
 case false=>
  have e:Qr n=7:=by simp [Qr,qci,k0,k1,k2]
  rw [Jq,e]
  refine zo (T:=tt) (N:=44) (rs:= [.tmp 2]) (fun vs w=>by simp) Tryz.func70 rfl rfl rfl rfl (by kernel_rfl) (z7 rfl) (q5 _ rfl) ?_
  repeat' first
   | refine yo env rfl ?_
   | (refine qk ?_ ?_;(· simp only [k0,Bool.not_true,Bool.not_false]))
   | (refine ql ?_ ?_;(· simp only [k0,Bool.not_true,Bool.not_false]))
   | (refine qn ?_ ?_;(· simp only [k0,Bool.not_true,Bool.not_false]))
   | (refine qm ?_ ?_;(· simp only [k0,Bool.not_true,Bool.not_false]))
   | (refine qu ?_ ?_;(· simp only [k0,Bool.not_true,Bool.not_false]))
   | (refine qv ?_ ?_;(· simp only [k0,Bool.not_true,Bool.not_false]))
   | (refine qk ?_ ?_;(· simp only [k1,Bool.not_true,Bool.not_false]))
   | (refine ql ?_ ?_;(· simp only [k1,Bool.not_true,Bool.not_false]))
   | (refine qn ?_ ?_;(· simp only [k1,Bool.not_true,Bool.not_false]))
   | (refine qm ?_ ?_;(· simp only [k1,Bool.not_true,Bool.not_false]))
   | (refine qu ?_ ?_;(· simp only [k1,Bool.not_true,Bool.not_false]))
   | (refine qv ?_ ?_;(· simp only [k1,Bool.not_true,Bool.not_false]))
   | (refine qk ?_ ?_;(· simp only [k2,Bool.not_true,Bool.not_false]))
   | (refine ql ?_ ?_;(· simp only [k2,Bool.not_true,Bool.not_false]))
   | (refine qn ?_ ?_;(· simp only [k2,Bool.not_true,Bool.not_false]))
   | (refine qm ?_ ?_;(· simp only [k2,Bool.not_true,Bool.not_false]))
   | (refine qu ?_ ?_;(· simp only [k2,Bool.not_true,Bool.not_false]))
   | (refine qv ?_ ?_;(· simp only [k2,Bool.not_true,Bool.not_false]))
   | refine qp (yx _) ?_
   | refine qp (J7 n k0 hk) ?_
   | refine qp (Z4 n k0) ?_
   | refine qo (fun h=> ?_) (fun h=> ?_)
   | refine za (fun h=> ?_) (fun h=> ?_)
   | refine qf (fun h=> ?_) (fun h=> ?_)
   | refine j5 env rfl rfl (q9 ?_)
   | refine z8 env rfl (q9 ?_)
  all_goals rfl
 cases k3:qde n
 case false=>
  have e:Qr n=7:=by simp [Qr,qci,k0,k1,k2,k3]
  rw [Jq,e]
  refine zo (T:=tt) (N:=44) (rs:= [.tmp 2]) (fun vs w=>by simp) Tryz.func70 rfl rfl rfl rfl (by kernel_rfl) (z7 rfl) (q5 _ rfl) ?_
  repeat' first
   | refine yo env rfl ?_
   | (refine qk ?_ ?_;(· simp only [k0,Bool.not_true,Bool.not_false]))
   | (refine ql ?_ ?_;(· simp only [k0,Bool.not_true,Bool.not_false]))
   | (refine qn ?_ ?_;(· simp only [k0,Bool.not_true,Bool.not_false]))
   | (refine qm ?_ ?_;(· simp only [k0,Bool.not_true,Bool.not_false]))
   | (refine qu ?_ ?_;(· simp only [k0,Bool.not_true,Bool.not_false]))
   | (refine qv ?_ ?_;(· simp only [k0,Bool.not_true,Bool.not_false]))
   | (refine qk ?_ ?_;(· simp only [k1,Bool.not_true,Bool.not_false]))
   | (refine ql ?_ ?_;(· simp only [k1,Bool.not_true,Bool.not_false]))
   | (refine qn ?_ ?_;(· simp only [k1,Bool.not_true,Bool.not_false]))
   | (refine qm ?_ ?_;(· simp only [k1,Bool.not_true,Bool.not_false]))
   | (refine qu ?_ ?_;(· simp only [k1,Bool.not_true,Bool.not_false]))
   | (refine qv ?_ ?_;(· simp only [k1,Bool.not_true,Bool.not_false]))
   | (refine qk ?_ ?_;(· simp only [k2,Bool.not_true,Bool.not_false]))
   | (refine ql ?_ ?_;(· simp only [k2,Bool.not_true,Bool.not_false]))
   | (refine qn ?_ ?_;(· simp only [k2,Bool.not_true,Bool.not_false]))
   | (refine qm ?_ ?_;(· simp only [k2,Bool.not_true,Bool.not_false]))
   | (refine qu ?_ ?_;(· simp only [k2,Bool.not_true,Bool.not_false]))
   | (refine qv ?_ ?_;(· simp only [k2,Bool.not_true,Bool.not_false]))
   | (refine qk ?_ ?_;(· simp only [k3,Bool.not_true,Bool.not_false]))
   | (refine ql ?_ ?_;(· simp only [k3,Bool.not_true,Bool.not_false]))
   | (refine qn ?_ ?_;(· simp only [k3,Bool.not_true,Bool.not_false]))
   | (refine qm ?_ ?_;(· simp only [k3,Bool.not_true,Bool.not_false]))
   | (refine qu ?_ ?_;(· simp only [k3,Bool.not_true,Bool.not_false]))
   | (refine qv ?_ ?_;(· simp only [k3,Bool.not_true,Bool.not_false]))
   | refine qp (yx _) ?_
   | refine qp (J7 n k0 hk) ?_
   | refine qp (Z4 n k0) ?_
   | refine qp (Kt n (qej n k1 k0)) ?_
   | refine qo (fun h=> ?_) (fun h=> ?_)
   | refine za (fun h=> ?_) (fun h=> ?_)
   | refine qf (fun h=> ?_) (fun h=> ?_)
   | refine j5 env rfl rfl (q9 ?_)
   | refine z8 env rfl (q9 ?_)
  all_goals rfl
 cases k4:qiw n
 case false=>
  have e:Qr n=4:=by simp [Qr,qci,k0,k1,k2,k3,k4]
  rw [Jq,e]
  refine zo (T:=tt) (N:=44) (rs:= [.tmp 2]) (fun vs w=>by simp) Tryz.func70 rfl rfl rfl rfl (by kernel_rfl) (z7 rfl) (q5 _ rfl) ?_
  repeat' first
   | refine yo env rfl ?_
   | (refine qk ?_ ?_;(· simp only [k0,Bool.not_true,Bool.not_false]))
   | (refine ql ?_ ?_;(· simp only [k0,Bool.not_true,Bool.not_false]))
   | (refine qn ?_ ?_;(· simp only [k0,Bool.not_true,Bool.not_false]))
   | (refine qm ?_ ?_;(· simp only [k0,Bool.not_true,Bool.not_false]))
   | (refine qu ?_ ?_;(· simp only [k0,Bool.not_true,Bool.not_false]))
   | (refine qv ?_ ?_;(· simp only [k0,Bool.not_true,Bool.not_false]))
   | (refine qk ?_ ?_;(· simp only [k1,Bool.not_true,Bool.not_false]))
   | (refine ql ?_ ?_;(· simp only [k1,Bool.not_true,Bool.not_false]))
   | (refine qn ?_ ?_;(· simp only [k1,Bool.not_true,Bool.not_false]))
   | (refine qm ?_ ?_;(· simp only [k1,Bool.not_true,Bool.not_false]))
   | (refine qu ?_ ?_;(· simp only [k1,Bool.not_true,Bool.not_false]))
   | (refine qv ?_ ?_;(· simp only [k1,Bool.not_true,Bool.not_false]))
   | (refine qk ?_ ?_;(· simp only [k2,Bool.not_true,Bool.not_false]))
   | (refine ql ?_ ?_;(· simp only [k2,Bool.not_true,Bool.not_false]))
   | (refine qn ?_ ?_;(· simp only [k2,Bool.not_true,Bool.not_false]))
   | (refine qm ?_ ?_;(· simp only [k2,Bool.not_true,Bool.not_false]))
   | (refine qu ?_ ?_;(· simp only [k2,Bool.not_true,Bool.not_false]))
   | (refine qv ?_ ?_;(· simp only [k2,Bool.not_true,Bool.not_false]))
   | (refine qk ?_ ?_;(· simp only [k3,Bool.not_true,Bool.not_false]))
   | (refine ql ?_ ?_;(· simp only [k3,Bool.not_true,Bool.not_false]))
   | (refine qn ?_ ?_;(· simp only [k3,Bool.not_true,Bool.not_false]))
   | (refine qm ?_ ?_;(· simp only [k3,Bool.not_true,Bool.not_false]))
   | (refine qu ?_ ?_;(· simp only [k3,Bool.not_true,Bool.not_false]))
   | (refine qv ?_ ?_;(· simp only [k3,Bool.not_true,Bool.not_false]))
   | (refine qk ?_ ?_;(· simp only [k4,Bool.not_true,Bool.not_false]))
   | (refine ql ?_ ?_;(· simp only [k4,Bool.not_true,Bool.not_false]))
   | (refine qn ?_ ?_;(· simp only [k4,Bool.not_true,Bool.not_false]))
   | (refine qm ?_ ?_;(· simp only [k4,Bool.not_true,Bool.not_false]))
   | (refine qu ?_ ?_;(· simp only [k4,Bool.not_true,Bool.not_false]))
   | (refine qv ?_ ?_;(· simp only [k4,Bool.not_true,Bool.not_false]))
   | refine qp (yx _) ?_
   | refine qp (J7 n k0 hk) ?_
   | refine qp (Z4 n k0) ?_
   | refine qp (Kt n (qej n k1 k0)) ?_
   | refine qp (qby n k0) ?_
   | refine qo (fun h=> ?_) (fun h=> ?_)
   | refine za (fun h=> ?_) (fun h=> ?_)
   | refine qf (fun h=> ?_) (fun h=> ?_)
   | refine j5 env rfl rfl (q9 ?_)
   | refine z8 env rfl (q9 ?_)
  all_goals rfl
 cases k5:qqh n
 case false=>
  have e:Qr n=7:=by simp [Qr,qci,k0,k1,k2,k3,k4,k5]
  rw [Jq,e]
  refine zo (T:=tt) (N:=44) (rs:= [.tmp 2]) (fun vs w=>by simp) Tryz.func70 rfl rfl rfl rfl (by kernel_rfl) (z7 rfl) (q5 _ rfl) ?_
  repeat' first
   | refine yo env rfl ?_
   | (refine qk ?_ ?_;(· simp only [k0,Bool.not_true,Bool.not_false]))
   | (refine ql ?_ ?_;(· simp only [k0,Bool.not_true,Bool.not_false]))
   | (refine qn ?_ ?_;(· simp only [k0,Bool.not_true,Bool.not_false]))
   | (refine qm ?_ ?_;(· simp only [k0,Bool.not_true,Bool.not_false]))
   | (refine qu ?_ ?_;(· simp only [k0,Bool.not_true,Bool.not_false]))
   | (refine qv ?_ ?_;(· simp only [k0,Bool.not_true,Bool.not_false]))
   | (refine qk ?_ ?_;(· simp only [k1,Bool.not_true,Bool.not_false]))
   | (refine ql ?_ ?_;(· simp only [k1,Bool.not_true,Bool.not_false]))
   | (refine qn ?_ ?_;(· simp only [k1,Bool.not_true,Bool.not_false]))
   | (refine qm ?_ ?_;(· simp only [k1,Bool.not_true,Bool.not_false]))
   | (refine qu ?_ ?_;(· simp only [k1,Bool.not_true,Bool.not_false]))
   | (refine qv ?_ ?_;(· simp only [k1,Bool.not_true,Bool.not_false]))
   | (refine qk ?_ ?_;(· simp only [k2,Bool.not_true,Bool.not_false]))
   | (refine ql ?_ ?_;(· simp only [k2,Bool.not_true,Bool.not_false]))
   | (refine qn ?_ ?_;(· simp only [k2,Bool.not_true,Bool.not_false]))
   | (refine qm ?_ ?_;(· simp only [k2,Bool.not_true,Bool.not_false]))
   | (refine qu ?_ ?_;(· simp only [k2,Bool.not_true,Bool.not_false]))
   | (refine qv ?_ ?_;(· simp only [k2,Bool.not_true,Bool.not_false]))
   | (refine qk ?_ ?_;(· simp only [k3,Bool.not_true,Bool.not_false]))
   | (refine ql ?_ ?_;(· simp only [k3,Bool.not_true,Bool.not_false]))
   | (refine qn ?_ ?_;(· simp only [k3,Bool.not_true,Bool.not_false]))
   | (refine qm ?_ ?_;(· simp only [k3,Bool.not_true,Bool.not_false]))
   | (refine qu ?_ ?_;(· simp only [k3,Bool.not_true,Bool.not_false]))
   | (refine qv ?_ ?_;(· simp only [k3,Bool.not_true,Bool.not_false]))
   | (refine qk ?_ ?_;(· simp only [k4,Bool.not_true,Bool.not_false]))
   | (refine ql ?_ ?_;(· simp only [k4,Bool.not_true,Bool.not_false]))
   | (refine qn ?_ ?_;(· simp only [k4,Bool.not_true,Bool.not_false]))
   | (refine qm ?_ ?_;(· simp only [k4,Bool.not_true,Bool.not_false]))
   | (refine qu ?_ ?_;(· simp only [k4,Bool.not_true,Bool.not_false]))
   | (refine qv ?_ ?_;(· simp only [k4,Bool.not_true,Bool.not_false]))
   | (refine qk ?_ ?_;(· simp only [k5,Bool.not_true,Bool.not_false]))
   | (refine ql ?_ ?_;(· simp only [k5,Bool.not_true,Bool.not_false]))
   | (refine qn ?_ ?_;(· simp only [k5,Bool.not_true,Bool.not_false]))
   | (refine qm ?_ ?_;(· simp only [k5,Bool.not_true,Bool.not_false]))
   | (refine qu ?_ ?_;(· simp only [k5,Bool.not_true,Bool.not_false]))
   | (refine qv ?_ ?_;(· simp only [k5,Bool.not_true,Bool.not_false]))
   | refine qp (yx _) ?_
   | refine qp (J7 n k0 hk) ?_
   | refine qp (Z4 n k0) ?_
   | refine qp (Kt n (qej n k1 k0)) ?_
   | refine qp (qby n k0) ?_
   | refine qp (qik n hg hk hs) ?_
   | refine qo (fun h=> ?_) (fun h=> ?_)
   | refine za (fun h=> ?_) (fun h=> ?_)
   | refine qf (fun h=> ?_) (fun h=> ?_)
   | refine j5 env rfl rfl (q9 ?_)
   | refine z8 env rfl (q9 ?_)
  all_goals rfl
 have e:Qr n=0:=by simp [Qr,qci,k0,k1,k2,k3,k4,k5]
 rw [Jq,e,if_pos rfl]
 refine zo (T:=tt) (N:=44) (rs:= [.tmp 2]) (fun vs w=>by simp) Tryz.func70 rfl rfl rfl rfl (by kernel_rfl) (z7 rfl) (q5 _ rfl) ?_
 repeat' first
  | refine yo env rfl ?_
  | (refine qgn (α:=Nat) (fun i=>i≤n.kids.length∧wl n.kids=wl (n.kids.drop i)) (fun i=>n.kids.length - i) (fun i=> [(34, .int .i64 i)]) (fun _=> []) (0) (fun _=>rfl) (fun _=>rfl) (⟨Nat.zero_le _,rfl⟩) ?_ ?_ (fun i hJ=> ?_);(· simp [leFT,leV,leOs,leO,leC,rho,AV.ren,AV.ren1,AV.un,AV.un1,AV.closed]);(· simp [leFT,leV,leOs,leO,leC,rho,AV.ren,AV.ren1,AV.un,AV.un1,AV.closed]);rcases qud n.kids i hk hJ with ⟨m,hm,hmem,hlt,hb,hw,⟨g1,he⟩ | ⟨g1,he⟩⟩ | ⟨hb,he⟩)
  | refine qgm rfl ?_
  | refine qds rfl rfl ?_
  | (refine qet (i+1) ?_ ?_ ?_ ?_;(· exact ⟨by omega,he⟩);(· omega);(· (simp only [hw];simp [leFT,leV,leOs,leO,leC,rho,AV.ren,AV.ren1,AV.un,AV.un1,AV.closed]));(· simp [leFT,leV,leOs,leO,leC,rho,AV.ren,AV.ren1,AV.un,AV.un1,AV.closed]))
  | (refine qk ?_ ?_;(· simp only [k0,Bool.not_true,Bool.not_false]))
  | (refine ql ?_ ?_;(· simp only [k0,Bool.not_true,Bool.not_false]))
  | (refine qn ?_ ?_;(· simp only [k0,Bool.not_true,Bool.not_false]))
  | (refine qm ?_ ?_;(· simp only [k0,Bool.not_true,Bool.not_false]))
  | (refine qu ?_ ?_;(· simp only [k0,Bool.not_true,Bool.not_false]))
  | (refine qv ?_ ?_;(· simp only [k0,Bool.not_true,Bool.not_false]))
  | (refine qk ?_ ?_;(· simp only [k1,Bool.not_true,Bool.not_false]))
  | (refine ql ?_ ?_;(· simp only [k1,Bool.not_true,Bool.not_false]))
  | (refine qn ?_ ?_;(· simp only [k1,Bool.not_true,Bool.not_false]))
  | (refine qm ?_ ?_;(· simp only [k1,Bool.not_true,Bool.not_false]))
  | (refine qu ?_ ?_;(· simp only [k1,Bool.not_true,Bool.not_false]))
  | (refine qv ?_ ?_;(· simp only [k1,Bool.not_true,Bool.not_false]))
  | (refine qk ?_ ?_;(· simp only [k2,Bool.not_true,Bool.not_false]))
  | (refine ql ?_ ?_;(· simp only [k2,Bool.not_true,Bool.not_false]))
  | (refine qn ?_ ?_;(· simp only [k2,Bool.not_true,Bool.not_false]))
  | (refine qm ?_ ?_;(· simp only [k2,Bool.not_true,Bool.not_false]))
  | (refine qu ?_ ?_;(· simp only [k2,Bool.not_true,Bool.not_false]))
  | (refine qv ?_ ?_;(· simp only [k2,Bool.not_true,Bool.not_false]))
  | (refine qk ?_ ?_;(· simp only [k3,Bool.not_true,Bool.not_false]))
  | (refine ql ?_ ?_;(· simp only [k3,Bool.not_true,Bool.not_false]))
  | (refine qn ?_ ?_;(· simp only [k3,Bool.not_true,Bool.not_false]))
  | (refine qm ?_ ?_;(· simp only [k3,Bool.not_true,Bool.not_false]))
  | (refine qu ?_ ?_;(· simp only [k3,Bool.not_true,Bool.not_false]))
  | (refine qv ?_ ?_;(· simp only [k3,Bool.not_true,Bool.not_false]))
  | (refine qk ?_ ?_;(· simp only [k4,Bool.not_true,Bool.not_false]))
  | (refine ql ?_ ?_;(· simp only [k4,Bool.not_true,Bool.not_false]))
  | (refine qn ?_ ?_;(· simp only [k4,Bool.not_true,Bool.not_false]))
  | (refine qm ?_ ?_;(· simp only [k4,Bool.not_true,Bool.not_false]))
  | (refine qu ?_ ?_;(· simp only [k4,Bool.not_true,Bool.not_false]))
  | (refine qv ?_ ?_;(· simp only [k4,Bool.not_true,Bool.not_false]))
  | (refine qk ?_ ?_;(· simp only [k5,Bool.not_true,Bool.not_false]))
  | (refine ql ?_ ?_;(· simp only [k5,Bool.not_true,Bool.not_false]))
  | (refine qn ?_ ?_;(· simp only [k5,Bool.not_true,Bool.not_false]))
  | (refine qm ?_ ?_;(· simp only [k5,Bool.not_true,Bool.not_false]))
  | (refine qu ?_ ?_;(· simp only [k5,Bool.not_true,Bool.not_false]))
  | (refine qv ?_ ?_;(· simp only [k5,Bool.not_true,Bool.not_false]))
  | (refine qk ?_ ?_;(· simp only [hb]))
  | (refine ql ?_ ?_;(· simp only [hb]))
  | (refine qn ?_ ?_;(· simp only [hb]))
  | (refine qm ?_ ?_;(· simp only [hb]))
  | (refine qu ?_ ?_;(· simp only [hb]))
  | (refine qv ?_ ?_;(· simp only [hb]))
  | (refine qk ?_ ?_;(· simp only [g1,Bool.not_true,Bool.not_false]))
  | (refine ql ?_ ?_;(· simp only [g1,Bool.not_true,Bool.not_false]))
  | (refine qn ?_ ?_;(· simp only [g1,Bool.not_true,Bool.not_false]))
  | (refine qm ?_ ?_;(· simp only [g1,Bool.not_true,Bool.not_false]))
  | (refine qu ?_ ?_;(· simp only [g1,Bool.not_true,Bool.not_false]))
  | (refine qv ?_ ?_;(· simp only [g1,Bool.not_true,Bool.not_false]))
  | refine We env rfl rfl rfl rfl rfl (qjo hm) ?_
  | refine qp (yx _) ?_
  | refine qp (J7 n k0 hk) ?_
  | refine qp (Z4 n k0) ?_
  | refine qp (Kt n (qej n k1 k0)) ?_
  | refine qp (qby n k0) ?_
  | refine qp (qik n hg hk hs) ?_
  | refine qp (ih m hmem) ?_
  | refine qo (fun h=> ?_) (fun h=> ?_)
  | refine za (fun h=> ?_) (fun h=> ?_)
  | refine qf (fun h=> ?_) (fun h=> ?_)
  | refine j5 env rfl rfl (q9 ?_)
  | refine z8 env rfl (q9 ?_)
 all_goals refine qel ?_
 all_goals rw [he]
def je (o:Option Nat) (left:Int):Int:=match o with
 | some s=>if (s:Int)≤left then left - s else -1
 | none=> -1
theorem qye:∀(n:Node) (d s:Nat),size? n d=some s→0 < s:=by
 intro n d s h
 cases n with
 | mk k t g l=>
   cases d with
   | zero=>simp [size?] at h
   | succ d=>
     simp only [size?] at h
     split at h
     ·cases h
     simp only [Option.map_eq_some_iff] at h
     obtain ⟨a,_,rfl⟩:=h
     omega
theorem qwy (n:Node):size? n 0=none:=by cases n;rfl
theorem qwz (n:Node) (d:Nat):size? n (d+1)=if most n.kind < (n.kids.length:Int) then none else (sizeL? n.kids d).map (· +1):=by cases n;rfl
theorem qhc (m:Node) (l:List Node) (d:Nat):sizeL? (m::l) d=match size? m d,sizeL? l d with | some a,some b=>some (a+b) | _,_=>none:=rfl
theorem qrj (m:Node) (l:List Node) (d:Nat) (left:Int) (h0:0≤left):
 (je (size? m d) left < 0∧je (sizeL? (m::l) d) left= -1)∨(0≤je (size? m d) left∧je (size? m d) left≤left∧je (sizeL? (m::l) d) left=je (sizeL? l d) (je (size? m d) left)):=by
 rw [qhc]
 cases ha:size? m d with
 | none=>exact .inl ⟨by simp [je],by simp [je]⟩
 | some a=>
   by_cases hl:(a:Int)≤left
   ·refine .inr ⟨by simp only [je,if_pos hl];omega,by simp only [je,if_pos hl];omega,?_⟩
    cases hb:sizeL? l d with
    | none=>simp [je]
    | some b=>
      simp only [je,if_pos hl]
      by_cases h2:(b:Int)≤left - a
      ·rw [if_pos (by omega),if_pos h2];omega
      rw [if_neg (by omega),if_neg h2]
   refine .inl ⟨by simp only [je,if_neg hl];omega,?_⟩
   cases hb:sizeL? l d with
   | none=>simp [je]
   | some b=>simp only [je];rw [if_neg (by omega)]
theorem qri (n:Node) (left:Int) (d:Nat) (hl:0 < left):je (size? n (d+1)) left=if most n.kind < (n.kids.length:Int) then -1 else je (sizeL? n.kids d) (left - 1):=by
 rw [qwz]
 split
 ·rfl
 cases hb:sizeL? n.kids d with
 | none=>rfl
 | some b=>
   simp only [Option.map_some,je]
   by_cases h:(b:Int)≤left - 1
   ·rw [if_pos (by omega),if_pos h];omega
   rw [if_neg (by omega),if_neg h]
theorem qrh (l:List Node) (d i:Nat) (top left:Int) (hl:l.length≤9223372036854775807) (hJ:i≤l.length∧0≤left∧left≤top∧je (sizeL? l d) top=je (sizeL? (l.drop i) d) left):
 (∃ m,l[i]? =some m∧m∈l∧i < l.length∧decide ((i:Int) < ((l.map Node.cells).length:Int))=true∧IntKind.i64.wrap ((i:Int)+1)=((i+1:Nat):Int)∧
   ((decide (je (size? m d) left < 0)=true∧je (sizeL? l d) top= -1)∨
    (decide (je (size? m d) left < 0)=false∧0≤je (size? m d) left∧je (size? m d) left≤top∧je (sizeL? l d) top=je (sizeL? (l.drop (i+1)) d) (je (size? m d) left))))∨
 (decide ((i:Int) < ((l.map Node.cells).length:Int))=false∧je (sizeL? l d) top=left):=by
 obtain ⟨h1,h2,h3,h4⟩:=hJ
 rcases Nat.lt_or_ge i l.length with h | h
 ·refine .inl ⟨l[i],List.getElem?_eq_getElem h,List.getElem_mem h,h,by simpa using h,ke (by omega) (by omega),?_⟩
  rw [h4,List.drop_eq_getElem_cons h]
  rcases qrj l[i] (l.drop (i+1)) d left h2 with ⟨a,b⟩ | ⟨a,b,c⟩
  ·exact .inl ⟨decide_eq_true a,b⟩
  exact .inr ⟨decide_eq_false (by omega),a,by omega,c⟩
 refine .inr ⟨by simpa using h,?_⟩
 rw [h4,List.drop_of_length_le h]
 show je (some 0) left=left
 simp only [je]
 rw [if_pos (by omega)];omega
set_option maxHeartbeats 4000000 in
theorem qml:∀n:Node,Wf n→∀(left:Int) (d:Int), -9223372036854775808≤left→left≤9223372036854775807→ -9223372036854775808≤d→d≤9223372036854775807→
 Fn Tryz.prog G 69 [.agg (zq n), .int .i64 left, .int .i64 d] (.int .i64 (je (size? n d.toNat) left)):=by
 intro n hwf
 induction hwf with | mk n hk hg ht hs _ ih=> ?_
 intro left d hl0 hl1 hd0 hd1
 by_cases c1:left≤0
 case pos=>
  have e1:decide (left≤0)=true:=decide_eq_true c1
  have e:je (size? n d.toNat) left= -1:=by
   unfold je
   split
   ·rename_i s h;have:=qye n _ s h;rw [if_neg (by omega)]
   rfl
  rw [e]
  refine zo (T:=tt) (N:=42) (rs:= [.tmp 6]) (fun vs w=>by simp) Tryz.func69 rfl rfl rfl rfl (by kernel_rfl) (z7 rfl) (q5 _ rfl) ?_
  repeat' first
   | refine yo env rfl ?_
   | (refine qk ?_ ?_;(· simp only [e1]))
   | (refine ql ?_ ?_;(· simp only [e1]))
   | (refine qn ?_ ?_;(· simp only [e1]))
   | (refine qm ?_ ?_;(· simp only [e1]))
   | (refine qu ?_ ?_;(· simp only [e1]))
   | (refine qv ?_ ?_;(· simp only [e1]))
   | refine qo (fun h=> ?_) (fun h=> ?_)
   | refine za (fun h=> ?_) (fun h=> ?_)
   | refine qf (fun h=> ?_) (fun h=> ?_)
   | refine j5 env rfl rfl (q9 ?_)
   | refine z8 env rfl (q9 ?_)
  all_goals rfl
 have e1:decide (left≤0)=false:=decide_eq_false c1
 by_cases c2:d≤0
 case pos=>
  have e2:decide (d≤0)=true:=decide_eq_true c2
  have e:je (size? n d.toNat) left= -1:=by rw [show d.toNat=0 by omega,qwy];rfl
  rw [e]
  refine zo (T:=tt) (N:=42) (rs:= [.tmp 6]) (fun vs w=>by simp) Tryz.func69 rfl rfl rfl rfl (by kernel_rfl) (z7 rfl) (q5 _ rfl) ?_
  repeat' first
   | refine yo env rfl ?_
   | (refine qk ?_ ?_;(· simp only [e1]))
   | (refine ql ?_ ?_;(· simp only [e1]))
   | (refine qn ?_ ?_;(· simp only [e1]))
   | (refine qm ?_ ?_;(· simp only [e1]))
   | (refine qu ?_ ?_;(· simp only [e1]))
   | (refine qv ?_ ?_;(· simp only [e1]))
   | (refine qk ?_ ?_;(· simp only [e2]))
   | (refine ql ?_ ?_;(· simp only [e2]))
   | (refine qn ?_ ?_;(· simp only [e2]))
   | (refine qm ?_ ?_;(· simp only [e2]))
   | (refine qu ?_ ?_;(· simp only [e2]))
   | (refine qv ?_ ?_;(· simp only [e2]))
   | refine qo (fun h=> ?_) (fun h=> ?_)
   | refine za (fun h=> ?_) (fun h=> ?_)
   | refine qf (fun h=> ?_) (fun h=> ?_)
   | refine j5 env rfl rfl (q9 ?_)
   | refine z8 env rfl (q9 ?_)
  all_goals rfl
 have e2:decide (d≤0)=false:=decide_eq_false c2
 obtain ⟨d,rfl⟩:∃q:Nat,d=((q+1:Nat):Int):=⟨d.toNat - 1,by omega⟩
 rw [Int.toNat_natCast,qri n left d (by omega)]
 by_cases c3:most n.kind < (n.kids.length:Int)
 case pos=>
  have e3:decide (most n.kind < ((n.kids.map Node.cells).length:Int))=true:=by simpa using c3
  rw [if_pos c3]
  refine zo (T:=tt) (N:=42) (rs:= [.tmp 6]) (fun vs w=>by simp) Tryz.func69 rfl rfl rfl rfl (by kernel_rfl) (z7 rfl) (q5 _ rfl) ?_
  repeat' first
   | refine yo env rfl ?_
   | (refine qk ?_ ?_;(· simp only [e1]))
   | (refine ql ?_ ?_;(· simp only [e1]))
   | (refine qn ?_ ?_;(· simp only [e1]))
   | (refine qm ?_ ?_;(· simp only [e1]))
   | (refine qu ?_ ?_;(· simp only [e1]))
   | (refine qv ?_ ?_;(· simp only [e1]))
   | (refine qk ?_ ?_;(· simp only [e2]))
   | (refine ql ?_ ?_;(· simp only [e2]))
   | (refine qn ?_ ?_;(· simp only [e2]))
   | (refine qm ?_ ?_;(· simp only [e2]))
   | (refine qu ?_ ?_;(· simp only [e2]))
   | (refine qv ?_ ?_;(· simp only [e2]))
   | (refine qk ?_ ?_;(· simp only [e3]))
   | (refine ql ?_ ?_;(· simp only [e3]))
   | (refine qn ?_ ?_;(· simp only [e3]))
   | (refine qm ?_ ?_;(· simp only [e3]))
   | (refine qu ?_ ?_;(· simp only [e3]))
   | (refine qv ?_ ?_;(· simp only [e3]))
   | refine qp (qij _) ?_
   | refine qo (fun h=> ?_) (fun h=> ?_)
   | refine za (fun h=> ?_) (fun h=> ?_)
   | refine qf (fun h=> ?_) (fun h=> ?_)
   | refine j5 env rfl rfl (q9 ?_)
   | refine z8 env rfl (q9 ?_)
  all_goals rfl
 have e3:decide (most n.kind < ((n.kids.map Node.cells).length:Int))=false:=by simpa using c3
 rw [if_neg c3]
 have w1:IntKind.i64.wrap (left - 1)=left - 1:=ke (by omega) (by omega)
 have w2:IntKind.i64.wrap (((d+1:Nat):Int) - 1)=(d:Int):=by rw [ke (by omega) (by omega)];omega
 refine zo (T:=tt) (N:=42) (rs:= [.tmp 6]) (fun vs w=>by simp) Tryz.func69 rfl rfl rfl rfl (by kernel_rfl) (z7 rfl) (q5 _ rfl) ?_
 repeat' first
  | refine yo env rfl ?_
  | (refine qgn (α:=Nat × Int) (fun a=>a.1≤n.kids.length∧0≤a.2∧a.2≤left - 1∧je (sizeL? n.kids d) (left - 1)=je (sizeL? (n.kids.drop a.1) d) a.2) (fun a=>n.kids.length - a.1) (fun a=> [(29, .int .i64 a.1),(1, .int .i64 a.2)]) (fun _=> []) ((0,left - 1)) (fun _=>rfl) (fun _=>rfl) (⟨Nat.zero_le _,by show 0≤left - 1;omega,Int.le_refl _,rfl⟩) ?_ ?_ (fun ⟨i,r⟩ hJ=> ?_);(· (simp only [w1];simp [leFT,leV,leOs,leO,leC,rho,AV.ren,AV.ren1,AV.un,AV.un1,AV.closed]));(· (simp only [w1];simp [leFT,leV,leOs,leO,leC,rho,AV.ren,AV.ren1,AV.un,AV.un1,AV.closed]));rcases qrh n.kids d i (left - 1) r hk hJ with ⟨m,hm,hmem,hlt,hb,hw,⟨g1,he⟩ | ⟨g1,p1,p2,he⟩⟩ | ⟨hb,he⟩)
  | refine qgm rfl ?_
  | refine qds rfl rfl ?_
  | (refine qet ((i+1,je (size? m d) r)) ?_ ?_ ?_ ?_;(· exact ⟨by show i+1≤n.kids.length;omega,p1,p2,he⟩);(· (show n.kids.length - (i+1) < n.kids.length - i;omega));(· (simp only [hw];simp [leFT,leV,leOs,leO,leC,rho,AV.ren,AV.ren1,AV.un,AV.un1,AV.closed]));(· simp [leFT,leV,leOs,leO,leC,rho,AV.ren,AV.ren1,AV.un,AV.un1,AV.closed]))
  | refine We env rfl rfl rfl rfl rfl (qjo hm) ?_
  | refine qp (x:= .int .i64 (je (size? m d) r)) (by rw [w2];exact ih m hmem r d (by omega) (by omega) (by omega) (by omega)) ?_
  | (refine qk ?_ ?_;(· simp only [e1]))
  | (refine ql ?_ ?_;(· simp only [e1]))
  | (refine qn ?_ ?_;(· simp only [e1]))
  | (refine qm ?_ ?_;(· simp only [e1]))
  | (refine qu ?_ ?_;(· simp only [e1]))
  | (refine qv ?_ ?_;(· simp only [e1]))
  | (refine qk ?_ ?_;(· simp only [e2]))
  | (refine ql ?_ ?_;(· simp only [e2]))
  | (refine qn ?_ ?_;(· simp only [e2]))
  | (refine qm ?_ ?_;(· simp only [e2]))
  | (refine qu ?_ ?_;(· simp only [e2]))
  | (refine qv ?_ ?_;(· simp only [e2]))
  | (refine qk ?_ ?_;(· simp only [e3]))
  | (refine ql ?_ ?_;(· simp only [e3]))
  | (refine qn ?_ ?_;(· simp only [e3]))
  | (refine qm ?_ ?_;(· simp only [e3]))
  | (refine qu ?_ ?_;(· simp only [e3]))
  | (refine qv ?_ ?_;(· simp only [e3]))
  | (refine qk ?_ ?_;(· simp only [hb]))
  | (refine ql ?_ ?_;(· simp only [hb]))
  | (refine qn ?_ ?_;(· simp only [hb]))
  | (refine qm ?_ ?_;(· simp only [hb]))
  | (refine qu ?_ ?_;(· simp only [hb]))
  | (refine qv ?_ ?_;(· simp only [hb]))
  | (refine qk ?_ ?_;(· simp only [g1]))
  | (refine ql ?_ ?_;(· simp only [g1]))
  | (refine qn ?_ ?_;(· simp only [g1]))
  | (refine qm ?_ ?_;(· simp only [g1]))
  | (refine qu ?_ ?_;(· simp only [g1]))
  | (refine qv ?_ ?_;(· simp only [g1]))
  | refine qp (qij _) ?_
  | refine qo (fun h=> ?_) (fun h=> ?_)
  | refine za (fun h=> ?_) (fun h=> ?_)
  | refine qf (fun h=> ?_) (fun h=> ?_)
  | refine j5 env rfl rfl (q9 ?_)
  | refine z8 env rfl (q9 ?_)
 all_goals refine qel ?_
 all_goals rw [he]
end Go.Proofs.YtpnkemogepoioaaGreatDoorW.Ex.Gr
