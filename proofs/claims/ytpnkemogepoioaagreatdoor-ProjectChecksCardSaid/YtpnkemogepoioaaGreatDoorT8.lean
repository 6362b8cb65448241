/- strings.Builder's methods as contracts on the objects that they are handed (the builder, its row of bytes); strings.Repeat. The library's contracts, laid at this program. Conditions: those in each theorem. -/
import Derived.Test.YtpnkemogepoioaaGreatDoorExR
import Derived.Test.YtpnkemogepoioaaGreatDoorExF
import Derived.Test.YtpnkemogepoioaaGreatDoorSa
import Derived.Shelf.Strings.Repeat
import Derived.WalkKit
import Derived.BigCall
import Derived.KernelRfl
namespace Go.Proofs.YtpnkemogepoioaaGreatDoorW.Ex.Gr
open Go Go.Shelf Go.Proofs.YtpnkemogepoioaaGreatDoorW.Ex Go.RowKit
set_option linter.all false
set_option maxRecDepth 100000
def c8 (x:UInt8):List AV:= [.int .u8 x.toNat]
theorem qpn:CellsOk c8 1:=⟨fun _=>rfl,by decide,fun a z hz=>by
 simp only [c8,AQ,BH,or_false] at hz
 subst hz
 exact ⟨rfl,rfl⟩⟩
variable {G:Nat→List AV}
end Go.Proofs.YtpnkemogepoioaaGreatDoorW.Ex.Gr
