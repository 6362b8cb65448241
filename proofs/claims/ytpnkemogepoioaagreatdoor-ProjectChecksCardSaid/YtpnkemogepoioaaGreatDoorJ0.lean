/- Small trees. Conditions: those in each theorem. -/
import Derived.Test.YtpnkemogepoioaaGreatDoorXCc
import Derived.Test.YtpnkemogepoioaaGreatDoorKq
import Derived.Test.YtpnkemogepoioaaGreatDoorKc
namespace Go.Proofs.YtpnkemogepoioaaGreatDoorW.Ex.Gr
open Go Go.Proofs.YtpnkemogepoioaaGreatDoorW.Ex Go.Proofs.YtpnkemogepoioaaGreatDoorW.Plain Tk
set_option linter.all false
set_option maxRecDepth 100000
mutual
def bdN:Node→Prop
 | .mk _ t g l=>t.size≤4000∧g.length≤4000∧(∀x∈g,x.size≤4000)∧bdL l
def bdL:List Node→Prop
 | []=>True
 | n::l=>bdN n∧bdL l
end
theorem q20 (n:Node):bdN n=(n.text.size≤4000∧n.gaps.length≤4000∧(∀x∈n.gaps,x.size≤4000)∧bdL n.kids):=by cases n;rw [bdN];rfl
theorem q21:∀{l:List Node} {m:Node},bdL l→m∈l→bdN m
 | a::l,m,h,hm=>by
   rw [bdL] at h
   rcases AQ.1 hm with rfl | hm
   ·exact h.1
   exact q21 h.2 hm
end Go.Proofs.YtpnkemogepoioaaGreatDoorW.Ex.Gr
