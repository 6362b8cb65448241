/- Printing a tree in plain words: the steps of a node, its tokens with their gaps, its canonical layout; and what a walk along the steps returns. Conditions: those in each theorem. -/
import Derived.Test.YtpnkemogepoioaaGreatDoorPa
import Derived.Test.YtpnkemogepoioaaGreatDoorExP
namespace Go.Proofs.YtpnkemogepoioaaGreatDoorW.Ex.Gr
open Go Go.Proofs.YtpnkemogepoioaaGreatDoorW.Ex
set_option linter.all false
set_option maxRecDepth 100000
abbrev BA:=ByteArray
theorem bs {α β:Type} (a:α) (f:α→Option β):(some a >>=f)=f a:=rfl
theorem ql9 {α:Type} {A B:α}:(if (true=true) then A else B)=A:=rfl
theorem qma {α:Type} {A B:α}:(if (false=true) then A else B)=B:=rfl
theorem b1 {α:Type} (a:Option α):(a >>=fun x=>some x)=a:=by cases a <;> rfl
theorem yw {α:Type} {by_:Nat} {l m:List α} (h:l.length+m.length≤1000000000) (hb:by_≤100000):app by_ l m=some (l++m):=by
 have:(l.length+m.length)*by_≤1000000000*100000:=Nat.mul_le_mul h hb
 unfold app
 rw [if_pos ⟨by omega,by omega⟩]
inductive Step where
 | own (c w:BA)
 | kid (l:BA) (v:Int)
def q94 (v:Int):BA:=⟨(10::List.replicate v.toNat 9).toArray⟩
@[reducible] def e0:BA:=⟨#[]⟩
@[reducible] def sp:BA:=⟨#[32]⟩
def qyg (v:Int):Bool→Nat→List Step
 | _,0=> [.own e0 ⟨#[41]⟩]
 | true,r+1=> .kid e0 v::qyg v false r
 | false,r+1=> .own e0 ⟨#[44]⟩:: .kid sp v::qyg v false r
def allS (l:BA) (v:Int):Nat→List Step
 | 0=> []
 | r+1=> .kid l v::allS l v r
def q96 (v:Int):BA→Nat→List Step
 | _,0=> []
 | l,r+1=> .kid l v::q96 v ⟨#[10,10]⟩ r
def zby (l:BA) (nk:Nat):BA:=if 0 < nk then ⟨#[10]⟩ else l
def zb0 (v:Int) (f nk:Nat):BA:=if f < nk then q94 v else e0
def q97 (v:Int) (f nk r:Nat):List Step:=allS (q94 (v+1)) (v+1) r++ [.own (zb0 v f nk) ⟨#[125]⟩]
def q6h (w t:BA) (l:BA) (v:Int):List Step:= [.own l w, .own sp t, .own sp ⟨#[61]⟩, .kid sp v, .own e0 ⟨#[59]⟩]
def stepsOf (d:Int) (k:Int) (t:BA) (nk:Nat) (l:BA) (v:Int):List Step:=
 if k=1 then q96 v l nk++ [.own (zby l nk) e0]
 else if k=2 then [.own l ⟨#[102,110]⟩, .own sp t, .kid e0 v, .kid sp v, .kid sp v]
 else if k=3 then .own l ⟨#[40]⟩::qyg v true nk
 else if k=4 then [.own l t, .kid sp v]
 else if k=5 then [.own l t]
 else if k=6 then .own l ⟨#[123]⟩::q97 v 0 nk nk
 else if k=7 then .own l ⟨#[99,108,97,115,115]⟩:: .own sp t:: .kid sp (v+d):: .own sp ⟨#[123]⟩::q97 v 1 nk (nk - 1)
 else if k=8 then (if t=e0 then [] else [.own l ⟨#[58]⟩, .own sp t])
 else if k=9 then q6h ⟨#[99,111,110,115,116]⟩ t l v
 else if k=10 then q6h ⟨#[108,101,116]⟩ t l v
 else if k=11 then [.own l t, .own sp ⟨#[61]⟩, .kid sp v, .own e0 ⟨#[59]⟩]
 else if k=12 then [.own l ⟨#[114,101,116,117,114,110]⟩, .kid sp v, .own e0 ⟨#[59]⟩]
 else if k=13 then .own l ⟨#[105,102]⟩::allS sp v nk
 else if k=14 then (if nk=0 then [] else [.own l ⟨#[101,108,115,101]⟩, .kid sp v])
 else if k=15 then .own l ⟨#[119,104,105,108,101]⟩::allS sp v nk
 else if k=16 then [.kid l v, .own e0 ⟨#[59]⟩]
 else if k=20 then .own l t:: .own e0 ⟨#[40]⟩::qyg v true nk
 else if k=21 then .kid l v:: .own e0 ⟨#[46]⟩:: .own e0 t:: .own e0 ⟨#[40]⟩::qyg v true (nk - 1)
 else if k=22 then [.own l ⟨#[110,101,119]⟩, .own sp t, .own e0 ⟨#[40]⟩, .own e0 ⟨#[41]⟩]
 else if k=24 then [.kid l v, .own sp t, .kid sp v]
 else if k=25 then [.own l t, .kid e0 v]
 else if k=26 then [.own l ⟨#[40]⟩, .kid e0 v, .own e0 ⟨#[41]⟩]
 else [.own l t]
def wordsS:List Step→List BA
 | []=> []
 | .own _ w::r=>w::wordsS r
 | .kid _ _::r=>wordsS r
section
variable {σ:Type}
def run (own:σ→List BA→BA→BA→Option (σ × List BA)) (kid:σ→List Node→BA→Int→Option (σ × List Node)):List Step→σ→List BA→List Node→Option (σ × List BA × List Node)
 | [],s,g,k=>some (s,g,k)
 | .own c w::r,s,g,k=>own s g c w >>=fun x=>run own kid r x.1 x.2 k
 | .kid l v::r,s,g,k=>kid s k l v >>=fun x=>run own kid r x.1 g x.2
end
end Go.Proofs.YtpnkemogepoioaaGreatDoorW.Ex.Gr
