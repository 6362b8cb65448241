/- Paths in trees in plain words: sizes, the path of an index, the index of a path, the tree at a path. No conditions beside those in each theorem. -/
import Derived.Test.YtpnkemogepoioaaGreatDoorGa
namespace Go.Proofs.YtpnkemogepoioaaGreatDoorW.Ex.Gr
set_option linter.all false
open Go Go.Proofs.YtpnkemogepoioaaGreatDoorW.Ex
mutual
def yg:Node→Nat
 | .mk _ _ _ l=>yi l+1
def yi:List Node→Nat
 | []=>0
 | n::l=>yg n+yi l
end
theorem qqh (n:Node):yg n=yi n.kids+1:=by cases n;rw [yg];rfl
theorem qm5 (n:Node):0 < yg n:=by rw [qqh];omega
theorem qfj:∀(a b:List Node),yi (a++b)=yi a+yi b
 | [],b=>by simp [yi]
 | n::a,b=>by rw [List.cons_append,yi,yi,qfj a b];omega
theorem qaq:∀(l:List Node),l.length≤yi l
 | []=>Nat.le_refl _
 | n::l=>by
   have:=qaq l
   have:=qm5 n
   rw [yi,List.length_cons];omega
end Go.Proofs.YtpnkemogepoioaaGreatDoorW.Ex.Gr
