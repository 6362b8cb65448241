/- What comes in: what the form's reader tells of a tree is a tree of the grammar's words; and what the listed table holds. Conditions: none beside those in each theorem. -/
import Derived.Test.YtpnkemogepoioaaGreatDoorGa
import Derived.Test.YtpnkemogepoioaaGreatDoorRows
import Derived.LaidMore
import Derived.Stop.Joined
import Derived.MakeChecks
namespace Go.Proofs.YtpnkemogepoioaaGreatDoorW.Ex.Gr
open Go Go.RowKit Go.Proofs.YtpnkemogepoioaaGreatDoorW.Ex Go.Proofs.YtpnkemogepoioaaGreatDoor
set_option linter.all false
set_option maxRecDepth 100000
theorem cells_len (n:Node):n.cells.length=4:=by rw [cells_eq];rfl
theorem q6b (p:Int × Int):(qut p).length=2:=rfl
theorem rdNode (n:Nat):Rd Tryz.prog n 45 Node.cells Wf (fun _ _=>True):=by
 refine q52 (fun n ih=> ?_) n
 have h:=qkx (P:=Tryz.prog) Tryz.underlying45 (by kernel_rfl) (qeu (sz:=1) rfl (by kernel_rfl) (qrk Tryz.underlying3 n) (qeu (sz:=1) rfl (by kernel_rfl) (qg3 Tryz.underlying9 n)
  (qeu (sz:=1) rfl (by kernel_rfl) (qjw (sz:=1) Tryz.underlying42 (by kernel_rfl) (by decide) (fun _=>rfl) (qg3 Tryz.underlying9 n)) (qwm (sz:=1) rfl (by kernel_rfl) (qjw (sz:=4) Tryz.underlying43 (by kernel_rfl) (by decide) cells_len ih)))))
 refine qqh h (fun x=>Node.mk x.1 x.2.1 x.2.2.1 x.2.2.2) (fun x=> ?_) (fun x hx=> ?_) (fun _ _ _ _=>trivial)
 ·rw [cells_eq];rfl
 obtain ⟨_,h2,h3,h4⟩:=hx
 unfold maxLen at*
 exact .mk _ h4.1 h3.1 h2 h3.2 h4.2
def dI {H:Type}:DataW H→Int
 | .lit (.int _ n)=>n
 | _=>0
def dS {H:Type}:DataW H→ByteArray
 | .lit (.string l)=>⟨l.toArray⟩
 | _=>⟨#[]⟩
def dL {H:Type}:DataW H→List (DataW H)
 | .slice ds _=>ds
 | _=> []
def dA {H:Type}:DataW H→List (DataW H)
 | .agg ds=>ds
 | _=> []
def q2v {H:Type} (d:DataW H):Int × Int:=(dI ((dA d).getD 0 .nil),dI ((dA d).getD 1 .nil))
def qwr {H:Type} (d:DataW H):Shape:=⟨(dL ((dA d).getD 0 .nil)).map q2v,q2v ((dA d).getD 1 .nil),dI ((dA d).getD 2 .nil),(dL ((dA d).getD 3 .nil)).map dS,dI ((dA d).getD 4 .nil)⟩
theorem q7d {α:Type} {E:{H:Type}→DataW H→α→Prop} (dec:{H:Type}→DataW H→α) (hE:∀(H:Type) (d:DataW H) a,E d a→a=dec d) {H:Type} {ds:List (DataW H)} {l:List α} (h:EL E ds l):l=ds.map dec:=by
 apply List.ext_getElem?
 intro i
 rw [Ar]
 cases hd:ds[i]? with
 | none=>
   have:=h.1
   rw [List.getElem?_eq_none_iff] at hd
   rw [Option.map_none,List.getElem?_eq_none_iff];omega
 | some d=>
   have hi:=(Ai.1 hd).1
   have hl:l[i]? =some (l[i]'(by rw [←h.1];exact hi)):=Aj _
   rw [hl,AP,hE _ _ _ (h.2 i d _ hd hl)]
theorem q7b {α:Type} {E:{H:Type}→DataW H→α→Prop} (dec:{H:Type}→DataW H→α) (hE:∀(H:Type) (d:DataW H) a,E d a→a=dec d) {H:Type} {d:DataW H} {l:List α} (h:ES E d l):l=(dL d).map dec:=by
 rcases h with ⟨rfl,rfl⟩ | ⟨ds,rest,rfl,h⟩
 ·rfl
 exact q7d dec hE h
theorem q1f (s:ByteArray):s=⟨s.data.toList.toArray⟩:=by rcases s with ⟨⟨l⟩⟩;rfl
theorem q55 (n:Nat):Rd Tryz.prog (n+1) 164 qut (fun _=>True) (fun d a=>a=q2v d):=by
 have h:=qkx (P:=Tryz.prog) Tryz.underlying164 (by kernel_rfl) (qeu (sz:=1) rfl (by kernel_rfl) (qrk Tryz.underlying3 n) (qwm (sz:=1) rfl (by kernel_rfl) (qrk Tryz.underlying3 n)))
 refine qqh h (fun x=>(x.1,x.2)) (fun x=>rfl) (fun _ _=>trivial) (fun H d a he=> ?_)
 obtain ⟨ds,rfl,d0,ds1,rfl,h0,d1,rfl,h1⟩:=he
 rw [h0,h1];rfl
theorem q8q (n:Nat):Rd Tryz.prog n 166 Shape.cells (fun _=>True) (fun d a=>a=qwr d):=by
 have h2:Rd Tryz.prog (n+2) 166 Shape.cells (fun _=>True) (fun d a=>a=qwr d):=by
  have h:=qkx (P:=Tryz.prog) Tryz.underlying166 (by kernel_rfl) (qeu (sz:=1) rfl (by kernel_rfl) (qjw (sz:=2) Tryz.underlying162 (by kernel_rfl) (by decide) q6b (q55 n))
   (qeu (sz:=2) rfl (by kernel_rfl) (q55 n) (qeu (sz:=1) rfl (by kernel_rfl) (qrk Tryz.underlying3 (n+1)) (qeu (sz:=1) rfl (by kernel_rfl) (qjw (sz:=1) Tryz.underlying42 (by kernel_rfl) (by decide) (fun _=>rfl) (qg3 Tryz.underlying9 (n+1))) (qwm (sz:=1) rfl (by kernel_rfl) (qrk Tryz.underlying3 (n+1)))))))
  refine qqh h (fun x=>(⟨x.1,x.2.1,x.2.2.1,x.2.2.2.1,x.2.2.2.2⟩:Shape)) (fun x=>rfl) (fun _ _=>trivial) (fun H d a he=> ?_)
  obtain ⟨ds,rfl,d0,ds1,rfl,h0,d1,ds2,rfl,h1,d2,ds3,rfl,h2,d3,ds4,rfl,h3,d4,rfl,h4⟩:=he
  have e0:=q7b q2v (fun _ _ _ h=>h) h0
  have e3:=q7b dS (fun H d a h=>by rw [h];exact q1f a) h3
  rw [e0,h1,h2,e3,h4];rfl
 exact q9v h2 (by omega)
theorem q65:Tryz.prog.globalNamed "treemerge/grammar.shapes" =some 0:=by kernel_rfl
theorem za4:(Tryz.prog.globals[0]?).map (·.type)=some 167:=by kernel_rfl
theorem qyc:shapes=(dA (Rows.laid_treemerge_grammar_shapes:DataW Unit)).map qwr:=by rfl
theorem rc_agg {w:World} {xs:List AV} {vs:Array Value} {β:Nat→Nat} {n:Nat} (h:RC w xs vs.toList):RV w (· < w.heap.size) β n (.agg xs) (.agg vs):=by
 refine .agg xs vs (by simpa using h.1) (fun x hx=> ?_) (fun i x hi=> ?_)
 ·obtain ⟨i,hi⟩:=AF hx
  exact (h.2 i x hi).1
 obtain ⟨_,v,hv,hR⟩:=h.2 i x hi
 rw [Bj] at hv
 rw [Ag,hv]
 exact hR β n
end Go.Proofs.YtpnkemogepoioaaGreatDoorW.Ex.Gr
