/- Paths in trees in plain words: sizes, the path of an index, the index of a path, the tree at a path. No conditions beside those in each theorem. -/
import Derived.Test.YtpnkemogepoioaaGreatDoorGa
namespace Go.Proofs.YtpnkemogepoioaaGreatDoorW.Ex.Gr
set_option linter.all false
open Go Go.Proofs.YtpnkemogepoioaaGreatDoorW.Ex
mutual
def u3:Node→Nat
 | .mk _ _ _ l=>ud l+1
def ud:List Node→Nat
 | []=>0
 | n::l=>u3 n+ud l
end
theorem qvy (n:Node):u3 n=ud n.kids+1:=by cases n;rw [u3];rfl
theorem qr8 (n:Node):0 < u3 n:=by rw [qvy];omega
theorem qen:∀(a b:List Node),ud (a++b)=ud a+ud b
 | [],b=>by simp [ud]
 | n::a,b=>by rw [AJ,ud,ud,qen a b];omega
theorem qjm:∀(l:List Node),l.length≤ud l
 | []=>Aj _
 | n::l=>by
   have:=qjm l
   have:=qr8 n
   rw [ud,Ae];omega
end Go.Proofs.YtpnkemogepoioaaGreatDoorW.Ex.Gr
