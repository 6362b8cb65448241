/- Paths in trees in plain words: sizes, the path of an index, the index of a path, the tree at a path. No conditions beside those in each theorem. -/
import Derived.Test.YtpnkemogepoioaaGreatDoorGa
namespace Go.Proofs.YtpnkemogepoioaaGreatDoorW.Ex.Gr
set_option linter.all false
open Go Go.Proofs.YtpnkemogepoioaaGreatDoorW.Ex
mutual
def y7:Node→Nat
 | .mk _ _ _ l=>yd l+1
def yd:List Node→Nat
 | []=>0
 | n::l=>y7 n+yd l
end
theorem qrz (n:Node):y7 n=yd n.kids+1:=by cases n;rw [y7];rfl
theorem qoj (n:Node):0 < y7 n:=by rw [qrz];omega
theorem qgv:∀(a b:List Node),yd (a++b)=yd a+yd b
 | [],b=>by simp [yd]
 | n::a,b=>by rw [List.cons_append,yd,yd,qgv a b];omega
theorem qbq:∀(l:List Node),l.length≤yd l
 | []=>Nat.le_refl _
 | n::l=>by
   have:=qbq l
   have:=qoj n
   rw [yd,List.length_cons];omega
end Go.Proofs.YtpnkemogepoioaaGreatDoorW.Ex.Gr
