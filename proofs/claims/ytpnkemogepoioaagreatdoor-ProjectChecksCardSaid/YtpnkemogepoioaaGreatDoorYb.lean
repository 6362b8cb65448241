/- Well-formed nodes and their steps: how many own tokens, kids, levels. Conditions: those in each theorem. -/
import Derived.Test.YtpnkemogepoioaaGreatDoorYa
import Derived.Test.YtpnkemogepoioaaGreatDoorGq
namespace Go.Proofs.YtpnkemogepoioaaGreatDoorW.Ex.Gr
open Go Go.Proofs.YtpnkemogepoioaaGreatDoorW.Ex
set_option linter.all false
set_option maxRecDepth 100000
def nkOk (k:Int) (nk:Nat):Prop:=
 if k=2 then nk=3 else if k=4∨k=9∨k=10∨k=11∨k=12∨k=16∨k=25∨k=26 then nk=1
 else if k=5∨k=8∨k=17∨k=18∨k=19∨k=22∨k=23 then nk=0
 else if k=7∨k=21 then 1≤nk else if k=14 then nk≤1 else if k=15∨k=24 then nk=2 else if k=13 then nk=3 else True
structure WN (n:Node):Prop where
 kn:known n.kind=true
 nk:nkOk n.kind n.kids.length
 le:n.kids.length≤200
 gaps:∀d l v,n.gaps= []∨n.gaps.length=(wordsS (stepsOf d n.kind n.text n.kids.length l v)).length
 base:n.kind=7→∀m,n.kids[0]? =some m→m.kind=8
 kids:∀m∈n.kids,checkErr m=0
end Go.Proofs.YtpnkemogepoioaaGreatDoorW.Ex.Gr
