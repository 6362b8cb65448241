/- The reference's words on nodes are the program's. No conditions beside those in each theorem. -/
import Derived.Test.YtpnkemogepoioaaGreatDoorGf
namespace Go.Proofs.YtpnkemogepoioaaGreatDoorW.Ex.Gr
open Go.Proofs.YtpnkemogepoioaaGreatDoorW.Plain
open Go Go.Proofs.YtpnkemogepoioaaGreatDoorW.Ex
set_option linter.all false
set_option maxRecDepth 100000
def ql7 (k:Int):Int:=if k=2∨k=13 then 3 else if k=15∨k=24 then 2 else if k=4∨k=7∨k=9∨k=10∨k=11∨k=12∨k=16∨k=21∨k=25∨k=26 then 1 else 0
def qfe (n:Node):Bool:=if n.kind=8 then !decide (n.text=⟨#[]⟩) else decide (n.kind=2∨n.kind=4∨n.kind=5∨n.kind=7∨n.kind=9∨n.kind=10∨n.kind=11∨n.kind=17∨n.kind=19∨n.kind=20∨n.kind=21∨n.kind=22)
def qxu (n:Node):Bool:=
 if n.kind=18 then decide (n.text=⟨#[116,114,117,101]⟩) || decide (n.text=⟨#[102,97,108,115,101]⟩) else if n.kind=23 then decide (n.text=⟨#[115,101,108,102]⟩)
 else if n.kind=24 then decide (0 < qbc n) else if n.kind=25 then decide (n.text=⟨#[45]⟩) || decide (n.text=⟨#[33]⟩) else decide (n.text=⟨#[]⟩)
theorem ql8 {k:Int} (h:known k=true):k=1∨k=2∨k=3∨k=4∨k=5∨k=6∨k=7∨k=8∨k=9∨k=10∨k=11∨k=12∨k=13∨k=14∨k=15∨k=16∨k=17∨k=18∨k=19∨k=20∨k=21∨k=22∨k=23∨k=24∨k=25∨k=26:=by have:=Wg h;omega
theorem q0r (n:Node) (h:known n.kind=true):qey n=(qfe n || qxu n):=by
 rcases ql8 h with h | h | h | h | h | h | h | h | h | h | h | h | h | h | h | h | h | h | h | h | h | h | h | h | h | h <;> simp only [qey,qfe,qxu,h,y7,shapes,Int.reduceToNat,List.getD_cons_succ,Ck,memB,qbc,Y8,B8,List.any_nil] <;> simp
 by_cases a1:n.text=⟨#[124]⟩ <;> by_cases a2:n.text=⟨#[38]⟩ <;> by_cases a3:n.text=⟨#[61,61]⟩ <;> by_cases a4:n.text=⟨#[60]⟩ <;> by_cases a5:n.text=⟨#[43]⟩ <;> by_cases a6:n.text=⟨#[45]⟩ <;> by_cases a7:n.text=⟨#[42]⟩ <;> by_cases a8:n.text=⟨#[47]⟩ <;> simp [a1,a2,a3,a4,a5,a6,a7,a8]
theorem q4u (n:Node) (h:known n.kind=true):qbz n= !((decide (n.kind=17) && !kx n.text.data.toList) || (!decide (n.kind=17) && qfe n && !Q8 n.text.data.toList)):=by
 rcases ql8 h with h | h | h | h | h | h | h | h | h | h | h | h | h | h | h | h | h | h | h | h | h | h | h | h | h | h <;> simp [qbz,qfe,h,y7,shapes]
theorem q3v:∀k:Nat,k < 27→1≤k→k≠14→((shapes.getD k ⟨[],(0,0),0, [],0⟩).first.length:Int)=ql7 k:=by decide
theorem zam:(y7 14).first.length=1∧(y7 14).rest=(0,0):=by decide
theorem q1j {α:Type} (p:Nat→α→Bool):∀(l:List α) (i:Nat),vl p i l=true→∀(j:Nat) (m:α),l[j]? =some m→p (i+j) m=true
 | [],i,_,j,m,h=>by simp at h
 | a ::l,i,ha,j,m,h=>by
   simp only [vl,An] at ha
   cases j with
   | zero=>simp at h;subst h;exact ha.1
   | succ j=>
     have:=q1j p l (i+1) ha.2 j m (by simpa using h)
     rwa [BE,Nat.add_comm 1] at this
theorem qu4 (n:Node) (h:(y7 n.kind).rest=(0,0)) (hl:(y7 n.kind).first.length < n.kids.length):qdk n.kind n.kids=false:=by
 cases hf:qdk n.kind n.kids with
 | false=>rfl
 | true=>
   have h1:=q1j _ n.kids 0 hf (y7 n.kind).first.length n.kids[(y7 n.kind).first.length] (Aj hl)
   have hp:qid n.kind ((y7 n.kind).first.length:Int)=(0,0):=by
    unfold qid
    rw [if_neg (by omega),h]
   simp only [AO,fits,An] at h1
   rw [hp] at h1
   have h2:=Wg h1.1.2
   have h3:=h1.2
   rw [if_pos rfl] at h3
   simp only [decide_eq_true_eq] at h3
   omega
theorem q81 (n:Node) (h:known n.kind=true):qj2 n=(!decide ((n.kids.length:Int) < ql7 n.kind) && qdk n.kind n.kids):=by
 have kb:=Wg h
 unfold qj2
 by_cases h14:n.kind=14
 ·have e:ql7 n.kind=0:=by rw [h14];rfl
  have ht:=zam
  rw [←h14] at ht
  rw [e]
  by_cases h0:n.kids.length=0
  ·rw [if_pos ⟨h14,h0⟩,h0]
   have:n.kids= []:=AK.1 h0
   rw [this];rfl
  rw [if_neg (fun h=>h0 h.2),ht.1]
  by_cases h1:1 < n.kids.length
  ·rw [if_pos (.inr ⟨h1,ht.2⟩),qu4 n ht.2 (by rw [ht.1];exact h1)];simp
  rw [if_neg (by omega),decide_eq_false (by omega)];simp
 have ht:((y7 n.kind).first.length:Int)=ql7 n.kind:=by
  have:=q3v n.kind.toNat (by omega) (by omega) (by omega)
  rw [show ((n.kind.toNat:Nat):Int)=n.kind by omega] at this
  exact this
 rw [if_neg (fun h=>h14 h.1),←ht]
 by_cases h1:n.kids.length < (y7 n.kind).first.length
 ·rw [if_pos (.inl h1),decide_eq_true (by omega)];simp
 rw [decide_eq_false (by omega)]
 by_cases h2:n.kids.length > (y7 n.kind).first.length∧(y7 n.kind).rest=(0,0)
 ·rw [if_pos (.inr h2),qu4 n h2.2 h2.1];simp
 rw [if_neg (fun h=>h.elim h1 h2)];simp
theorem q83 (n:Node):qj3 n=(!(decide (0 < (n.gaps.length:Int)) && !decide ((n.gaps.length:Int)=own n)) && qga n):=by
 unfold qj3
 by_cases h:n.gaps= []
 ·simp [h,qga,vl]
 have:0 < n.gaps.length:=B6.2 h
 simp only [h,decide_false,Bn]
 rw [decide_eq_true (show 0 < (n.gaps.length:Int) by omega)]
 cases qga n <;> simp
set_option maxHeartbeats 4000000 in
theorem qss (k:Int):Fn Tryz.prog G 180 [.int .i64 k] (.int .i64 (ql7 k)):=by
 refine zg (T:=tt) (N:=21) (rs:= [.tmp 2]) (fun vs w=>by simp) Tryz.func180 rfl rfl rfl rfl (by kernel_rfl) (zm rfl) (qy _ rfl) ?_
 repeat' first
  | refine ji env rfl ?_
  | refine qq (fun h=> ?_) (fun h=> ?_)
  | refine qw (fun h=> ?_) (fun h=> ?_)
  | refine qd (fun h=> ?_) (fun h=> ?_)
  | refine zb env rfl rfl (qz ?_)
  | refine zn env rfl (qz ?_)
 all_goals refine Ka ?_
 all_goals (simp_all [ql7])
set_option maxHeartbeats 4000000 in
theorem qkc (n:Node):Fn Tryz.prog G 159 [.agg (zl n)] (.bool (qfe n)):=by
 refine zg (T:=tt) (N:=23) (rs:= [.tmp 2]) (fun vs w=>by simp) Tryz.func159 rfl rfl rfl rfl (by kernel_rfl) (zm rfl) (qy _ rfl) ?_
 repeat' first
  | refine ji env rfl ?_
  | refine qq (fun h=> ?_) (fun h=> ?_)
  | refine qw (fun h=> ?_) (fun h=> ?_)
  | refine qd (fun h=> ?_) (fun h=> ?_)
  | refine zb env rfl rfl (qz ?_)
  | refine zn env rfl (qz ?_)
 all_goals refine w8 ?_
 all_goals (simp_all [qfe])
set_option maxHeartbeats 4000000 in
theorem q9i (n:Node):Fn Tryz.prog G 182 [.agg (zl n)] (.bool (qxu n)):=by
 refine zg (T:=tt) (N:=38) (rs:= [.tmp 2]) (fun vs w=>by simp) Tryz.func182 rfl rfl rfl rfl (by kernel_rfl) (zm rfl) (qy _ rfl) ?_
 repeat' first
  | refine ji env rfl ?_
  | refine qk (qny _) ?_
  | refine qq (fun h=> ?_) (fun h=> ?_)
  | refine qw (fun h=> ?_) (fun h=> ?_)
  | refine qd (fun h=> ?_) (fun h=> ?_)
  | refine zb env rfl rfl (qz ?_)
  | refine zn env rfl (qz ?_)
 all_goals refine w8 ?_
 all_goals (simp_all [qxu])
end Go.Proofs.YtpnkemogepoioaaGreatDoorW.Ex.Gr
