/- Paths in trees in plain words: sizes, the path of an index, the index of a path, the tree at a path. No conditions beside those in each theorem. -/
import Derived.Test.YtigmilhpeodhbaaGreatDoorGa
namespace Go.Proofs.YtigmilhpeodhbaaGreatDoorW.Ex.Gr
set_option linter.all false
open Go Go.Proofs.YtigmilhpeodhbaaGreatDoorW.Ex
end Go.Proofs.YtigmilhpeodhbaaGreatDoorW.Ex.Gr
