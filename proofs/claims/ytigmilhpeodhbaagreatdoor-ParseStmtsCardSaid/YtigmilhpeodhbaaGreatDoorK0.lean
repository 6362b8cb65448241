/- Lines and groups of kinds, as print uses them. Conditions: those in each theorem. -/
import Derived.Test.YtigmilhpeodhbaaGreatDoorXRc
import Derived.Test.YtigmilhpeodhbaaGreatDoorYa
namespace Go.Proofs.YtigmilhpeodhbaaGreatDoorW.Ex.Gr
open Go Go.Proofs.YtigmilhpeodhbaaGreatDoorW.Ex
set_option linter.all false
set_option maxRecDepth 100000
end Go.Proofs.YtigmilhpeodhbaaGreatDoorW.Ex.Gr
