/- Well-formed trees: plain facts. Conditions: those in each theorem. -/
import Derived.Test.YtpnkemogepoioaaGreatDoorGh
namespace Go.Proofs.YtpnkemogepoioaaGreatDoorW.Ex.Gr
open Go Go.Proofs.YtpnkemogepoioaaGreatDoorW.Ex
set_option linter.all false
set_option maxRecDepth 100000
mutual
theorem qr6:∀(n:Node) (d s:Nat),size? n d=some s→size? n (d+1)=some s
 | .mk k t g l,0,s,h=>by simp [size?] at h
 | .mk k t g l,d+1,s,h=>by
   rw [ql3] at h ⊢
   split at h
   ·cases h
   rename_i hm
   rw [if_neg hm]
   simp only [Am] at h ⊢
   obtain ⟨a,ha,rfl⟩:=h
   exact ⟨a,qot l d a ha,rfl⟩
theorem qot:∀(l:List Node) (d s:Nat),sizeL? l d=some s→sizeL? l (d+1)=some s
 | [],d,s,h=>h
 | n :: l,d,s,h=>by
   rw [qdl] at h ⊢
   cases ha:size? n d with
   | none=>rw [ha] at h;cases h
   | some a=>
     cases hb:sizeL? l d with
     | none=>rw [ha,hb] at h;cases h
     | some b=>
       rw [ha,hb] at h
       rw [qr6 n d a ha,qot l d b hb]
       exact h
end
theorem qr9:∀(l:List Node) (d s:Nat),sizeL? l d=some s→∀m∈l,∃a,size? m d=some a∧a≤s
 | [],d,s,h,m,hm=>by cases hm
 | n :: l,d,s,h,m,hm=>by
   rw [qdl] at h
   cases ha:size? n d with
   | none=>rw [ha] at h;cases h
   | some a=>
     cases hb:sizeL? l d with
     | none=>rw [ha,hb] at h;cases h
     | some b=>
       rw [ha,hb] at h
       simp only [Ab] at h
       rcases AE.1 hm with rfl | hm
       ·exact ⟨a,ha,by omega⟩
       obtain ⟨c,hc,hle⟩:=qr9 l d b hb m hm
       exact ⟨c,hc,by omega⟩
theorem qp1:∀(l:List Node),wi l=0→∀m∈l,firstErr m=0
 | [],h,m,hm=>by cases hm
 | n ::l,h,m,hm=>by
   rw [wi] at h
   split at h
   ·rename_i h0
    rcases AE.1 hm with rfl | hm
    ·exact h0
    exact qp1 l h m hm
   rename_i h0;exact absurd h h0
theorem qqa {n:Node} (h:checkErr n=0):∃k,size? n 60=some k∧k≤4000∧firstErr n=0:=by
 unfold checkErr at h
 split at h
 ·rename_i k hk
  split at h
  ·rename_i hle;exact ⟨k,hk,hle,h⟩
  cases h
 cases h
theorem q5i {n:Node} {k:Nat} (h1:size? n 60=some k) (h2:k≤4000) (h3:firstErr n=0):checkErr n=0:=by
 unfold checkErr
 rw [h1]
 simp only [if_pos h2,h3]
theorem qzw {n:Node} (h:vm n=0):known n.kind=true∧Yd n=true∧Kw n=true∧Wn n=true∧qat n=true∧qhw n=true:=by
 unfold vm at h
 split at h
 ·cases h
 rename_i h1
 split at h
 ·cases h
 rename_i h2
 split at h
 ·cases h
 rename_i h3
 have h1:qai n=true:=by simpa using h1
 simp only [qai,An] at h1
 exact ⟨h1.1.1.1,h1.1.1.2,h1.1.2,h1.2,by simpa using h2,by simpa using h3⟩
theorem qwv {n:Node} (h:firstErr n=0):vm n=0∧∀m∈n.kids,firstErr m=0:=by
 rw [Ya] at h
 split at h
 ·rename_i h0;exact ⟨h0,qp1 _ h⟩
 rename_i h0;exact absurd h h0
theorem q6v (k:Int):most k≤200:=by unfold most;split <;> (try split) <;> omega
theorem parts (n:Node) (h:checkErr n=0):n.kids.length≤200∧(n.gaps= []∨(n.gaps.length:Int)=own n)∧∀(i:Nat) (m:Node),n.kids[i]? =some m→checkErr m=0∧fits n.kind i m.kind=true:=by
 obtain ⟨k,h1,h2,h3⟩:=qqa h
 obtain ⟨h4,h5⟩:=qwv h3
 obtain ⟨k0,k1,k2,k3,k4,k5⟩:=qzw h4
 rw [ql3] at h1
 have hm:=q6v n.kind
 split at h1
 ·cases h1
 rename_i hmost
 simp only [Am] at h1
 obtain ⟨a,ha,rfl⟩:=h1
 refine ⟨by omega,?_,fun i m hi=> ?_⟩
 ·unfold qhw at k5
  simp only [Bp,An,decide_eq_true_eq] at k5
  exact k5.imp id (fun h=>h.2)
 obtain ⟨b,hb,hle⟩:=qr9 _ _ _ ha m (Af hi)
 refine ⟨q5i (qr6 m 59 b hb) (by omega) (h5 m (Af hi)),?_⟩
 have hk:=q63 n k0
 rw [k1] at hk
 simp only [Bool.true_eq,An] at hk
 have:=qy0 _ n.kids 0 hk.2 i m hi
 simpa using this
structure Like (a b:Node):Prop where
 kind:b.kind=a.kind
 text:b.text=a.text
 size:∀d,size? b d=size? a d
 first:firstErr a=0→firstErr b=0
theorem Like.refl (a:Node):Like a a:=⟨rfl,rfl,fun _=>rfl,id⟩
inductive LikeL:List Node→List Node→Prop
 | nil:LikeL [] []
 | cons {a b:Node} {l l':List Node} (h:Like a b) (t:LikeL l l'):LikeL (a::l) (b::l')
theorem LikeL.refl:∀l:List Node,LikeL l l
 | []=> .nil
 | a::l=> .cons (.refl a) (LikeL.refl l)
theorem LikeL.app {a b c d:List Node} (h:LikeL a b) (g:LikeL c d):LikeL (a++c) (b++d):=by
 induction h with
 | nil=>exact g
 | cons h _ ih=>exact .cons h ih
theorem LikeL.len {l l':List Node} (h:LikeL l l'):l'.length=l.length:=by
 induction h with
 | nil=>rfl
 | cons _ _ ih=>rw [Ae,Ae,ih]
theorem LikeL.fits {p:Int} {l l':List Node} (h:LikeL l l'):∀i,Q7 (fun i m=>fits p i m.kind) i l'=Q7 (fun i m=>fits p i m.kind) i l:=by
 induction h with
 | nil=>intro i;rfl
 | cons h _ ih=>intro i;simp only [Q7];rw [h.kind,ih]
theorem LikeL.size {l l':List Node} (h:LikeL l l') (d:Nat):sizeL? l' d=sizeL? l d:=by
 induction h with
 | nil=>rfl
 | cons h _ ih=>rw [qdl,qdl,h.size,ih]
theorem LikeL.first {l l':List Node} (h:LikeL l l'):wi l=0→wi l'=0:=by
 induction h with
 | nil=>intro _;rfl
 | cons h _ ih=>
   intro e
   rw [wi] at e ⊢
   split at e
   ·rename_i c;rw [if_pos (h.first c)];exact ih e
   rename_i c;exact absurd e c
end Go.Proofs.YtpnkemogepoioaaGreatDoorW.Ex.Gr
