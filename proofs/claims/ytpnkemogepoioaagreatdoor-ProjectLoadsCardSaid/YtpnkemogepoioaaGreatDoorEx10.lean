/- A symbolic executor for the machine's code, part 10: variables that do not change any more, told as memory that is only read. General over the program; no conditions beside those in each theorem. -/
import Derived.Test.YtpnkemogepoioaaGreatDoorExV
namespace Go.Proofs.YtpnkemogepoioaaGreatDoorW.Ex
set_option linter.all false
open Go
variable {D:List Deferred}
variable {G:Nat→List AV} {P:Program} {N p:Nat}
def qnb (ids:List Nat):Nat→Objs→Objs→Prop
 | _,_, []=>True
 | j,(s,o)::l,(s',o')::l'=>(s'=s∧(o'= .dead∨(o'=o∧j∉ids)))∧qnb ids (j+1) l l'
 | _, [],_::_=>False
theorem Z9 {ids:List Nat}:∀(l l':Objs) (j:Nat),qnb ids j l l'→∀(i s:Nat) (o:Obj),l'[i]? =some (s,o)→∃o1,l[i]? =some (s,o1)∧(o= .dead∨(o=o1∧j+i∉ids))
 | _, [],_,_,i,s,o,h=>by simp at h
 | [],_::_,_,h,_,_,_,_=>h.elim
 | (s1,o1)::l,(s2,o2)::l',j,h,0,s,o,hi=>by
   simp only [Aq,Ab,Al] at hi
   obtain ⟨rfl,rfl⟩:=hi
   exact ⟨o1,by rw [h.1.1];rfl,h.1.2⟩
 | (s1,o1)::l,(s2,o2)::l',j,h,i+1,s,o,hi=>by
   obtain ⟨o3,h1,h2⟩:=Z9 l l' (j+1) h.2 i s o (by simpa using hi)
   exact ⟨o3,by simpa using h1,by rwa [show j+(i+1)=j+1+i by omega]⟩
end Go.Proofs.YtpnkemogepoioaaGreatDoorW.Ex
