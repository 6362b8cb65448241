/- Paths in trees in plain words: sizes, the path of an index, the index of a path, the tree at a path. No conditions beside those in each theorem. -/
import Derived.Test.YtpnkemogepoioaaGreatDoorGa
namespace Go.Proofs.YtpnkemogepoioaaGreatDoorW.Ex.Gr
set_option linter.all false
open Go Go.Proofs.YtpnkemogepoioaaGreatDoorW.Ex
mutual
def Zf:Node→Nat
 | .mk _ _ _ l=>vr l+1
def vr:List Node→Nat
 | []=>0
 | n::l=>Zf n+vr l
end
theorem q5t (n:Node):Zf n=vr n.kids+1:=by cases n;rw [Zf];rfl
theorem q34 (n:Node):0 < Zf n:=by rw [q5t];omega
theorem qle:∀(a b:List Node),vr (a++b)=vr a+vr b
 | [],b=>by simp [vr]
 | n::a,b=>by rw [Bq,vr,vr,qle a b];omega
theorem qly:∀(l:List Node),l.length≤vr l
 | []=>Ak _
 | n::l=>by
   have:=qly l
   have:=q34 n
   rw [vr,Af];omega
end Go.Proofs.YtpnkemogepoioaaGreatDoorW.Ex.Gr
