/- Well-formed trees: plain facts. Conditions: those in each theorem. -/
import Derived.Test.YtpnkemogepoioaaGreatDoorGg
namespace Go.Proofs.YtpnkemogepoioaaGreatDoorW.Ex.Gr
open Go Go.Proofs.YtpnkemogepoioaaGreatDoorW.Ex
set_option linter.all false
set_option maxRecDepth 100000
structure Like (a b:Node):Prop where
 kind:b.kind=a.kind
 text:b.text=a.text
 size:∀d,size? b d=size? a d
 first:firstErr a=0→firstErr b=0
theorem Like.refl (a:Node):Like a a:=⟨rfl,rfl,fun _=>rfl,id⟩
inductive LikeL:List Node→List Node→Prop
 | nil:LikeL [] []
 | cons {a b:Node} {l l':List Node} (h:Like a b) (t:LikeL l l'):LikeL (a::l) (b::l')
theorem LikeL.refl:∀l:List Node,LikeL l l
 | []=> .nil
 | a::l=> .cons (.refl a) (LikeL.refl l)
theorem LikeL.app {a b c d:List Node} (h:LikeL a b) (g:LikeL c d):LikeL (a++c) (b++d):=by
 induction h with
 | nil=>exact g
 | cons h _ ih=>exact .cons h ih
theorem LikeL.len {l l':List Node} (h:LikeL l l'):l'.length=l.length:=by
 induction h with
 | nil=>rfl
 | cons _ _ ih=>rw [Af,Af,ih]
theorem LikeL.fits {p:Int} {l l':List Node} (h:LikeL l l'):∀i,vl (fun i m=>fits p i m.kind) i l'=vl (fun i m=>fits p i m.kind) i l:=by
 induction h with
 | nil=>intro i;rfl
 | cons h _ ih=>intro i;simp only [vl];rw [h.kind,ih]
theorem LikeL.lev {l l':List Node} (h:LikeL l l'):∀i,qbc (l'.getD i q6g)=qbc (l.getD i q6g):=by
 induction h with
 | nil=>intro i;rfl
 | cons h _ ih=>
   intro i
   cases i with
   | zero=>show qbc _=qbc _;unfold qbc;simp only [Ck];rw [h.kind,h.text]
   | succ i=>simpa using ih i
theorem LikeL.size {l l':List Node} (h:LikeL l l') (d:Nat):sizeL? l' d=sizeL? l d:=by
 induction h with
 | nil=>rfl
 | cons h _ ih=>rw [qia,qia,h.size,ih]
theorem LikeL.first {l l':List Node} (h:LikeL l l'):we l=0→we l'=0:=by
 induction h with
 | nil=>intro _;rfl
 | cons h _ ih=>
   intro e
   rw [we] at e ⊢
   split at e
   ·rename_i c;rw [if_pos (h.first c)];exact ih e
   rename_i c;exact absurd e c
end Go.Proofs.YtpnkemogepoioaaGreatDoorW.Ex.Gr
