/- What comes in: what the form's reader tells of a tree is a tree of the grammar's words; and what the listed table holds. Conditions: none beside those in each theorem. -/
import Derived.Test.YtpnkemogepoioaaGreatDoorGa
import Derived.Test.YtpnkemogepoioaaGreatDoorRows
import Derived.LaidMore
import Derived.Stop.Joined
import Derived.MakeChecks
namespace Go.Proofs.YtpnkemogepoioaaGreatDoorW.Ex.Gr
open Go Go.RowKit Go.Proofs.YtpnkemogepoioaaGreatDoorW.Ex Go.Proofs.YtpnkemogepoioaaGreatDoor
set_option linter.all false
set_option maxRecDepth 100000
theorem cells_len (n:Node):n.cells.length=4:=by rw [cells_eq];rfl
theorem qxo (p:Int × Int):(qnd p).length=2:=rfl
theorem rdNode (n:Nat):Rd Tryz.prog n 45 Node.cells Wf (fun _ _=>True):=by
 refine qxe (fun n ih=> ?_) n
 have h:=qez (P:=Tryz.prog) Tryz.underlying45 (by kernel_rfl) (Kd (sz:=1) rfl (by kernel_rfl) (qkr Tryz.underlying3 n) (Kd (sz:=1) rfl (by kernel_rfl) (qb3 Tryz.underlying9 n)
  (Kd (sz:=1) rfl (by kernel_rfl) (qd4 (sz:=1) Tryz.underlying42 (by kernel_rfl) (by decide) (fun _=>rfl) (qb3 Tryz.underlying9 n)) (qo3 (sz:=1) rfl (by kernel_rfl) (qd4 (sz:=4) Tryz.underlying43 (by kernel_rfl) (by decide) cells_len ih)))))
 refine qjx h (fun x=>Node.mk x.1 x.2.1 x.2.2.1 x.2.2.2) (fun x=> ?_) (fun x hx=> ?_) (fun _ _ _ _=>trivial)
 ·rw [cells_eq];rfl
 obtain ⟨_,h2,h3,h4⟩:=hx
 unfold maxLen at*
 exact .mk _ h4.1 h3.1 h2 h3.2 h4.2
def dI {H:Type}:DataW H→Int
 | .lit (.int _ n)=>n
 | _=>0
def dS {H:Type}:DataW H→ByteArray
 | .lit (.string l)=>⟨l.toArray⟩
 | _=>⟨#[]⟩
def dL {H:Type}:DataW H→List (DataW H)
 | .slice ds _=>ds
 | _=> []
def dA {H:Type}:DataW H→List (DataW H)
 | .agg ds=>ds
 | _=> []
def quj {H:Type} (d:DataW H):Int × Int:=(dI ((dA d).getD 0 .nil),dI ((dA d).getD 1 .nil))
def qo8 {H:Type} (d:DataW H):Shape:=⟨(dL ((dA d).getD 0 .nil)).map quj,quj ((dA d).getD 1 .nil),dI ((dA d).getD 2 .nil),(dL ((dA d).getD 3 .nil)).map dS,dI ((dA d).getD 4 .nil)⟩
theorem qym {α:Type} {E:{H:Type}→DataW H→α→Prop} (dec:{H:Type}→DataW H→α) (hE:∀(H:Type) (d:DataW H) a,E d a→a=dec d) {H:Type} {ds:List (DataW H)} {l:List α} (h:EL E ds l):l=ds.map dec:=by
 apply List.ext_getElem?
 intro i
 rw [List.getElem?_map]
 cases hd:ds[i]? with
 | none=>
   have:=h.1
   rw [List.getElem?_eq_none_iff] at hd
   rw [Option.map_none,List.getElem?_eq_none_iff];omega
 | some d=>
   have hi:=(List.getElem?_eq_some_iff.1 hd).1
   have hl:l[i]? =some (l[i]'(by rw [←h.1];exact hi)):=List.getElem?_eq_getElem _
   rw [hl,Option.map_some,hE _ _ _ (h.2 i d _ hd hl)]
theorem qyk {α:Type} {E:{H:Type}→DataW H→α→Prop} (dec:{H:Type}→DataW H→α) (hE:∀(H:Type) (d:DataW H) a,E d a→a=dec d) {H:Type} {d:DataW H} {l:List α} (h:ES E d l):l=(dL d).map dec:=by
 rcases h with ⟨rfl,rfl⟩ | ⟨ds,rest,rfl,h⟩
 ·rfl
 exact qym dec hE h
theorem qs3 (s:ByteArray):s=⟨s.data.toList.toArray⟩:=by rcases s with ⟨⟨l⟩⟩;rfl
theorem qxh (n:Nat):Rd Tryz.prog (n+1) 164 qnd (fun _=>True) (fun d a=>a=quj d):=by
 have h:=qez (P:=Tryz.prog) Tryz.underlying164 (by kernel_rfl) (Kd (sz:=1) rfl (by kernel_rfl) (qkr Tryz.underlying3 n) (qo3 (sz:=1) rfl (by kernel_rfl) (qkr Tryz.underlying3 n)))
 refine qjx h (fun x=>(x.1,x.2)) (fun x=>rfl) (fun _ _=>trivial) (fun H d a he=> ?_)
 obtain ⟨ds,rfl,d0,ds1,rfl,h0,d1,rfl,h1⟩:=he
 rw [h0,h1];rfl
theorem qzv (n:Nat):Rd Tryz.prog n 166 Shape.cells (fun _=>True) (fun d a=>a=qo8 d):=by
 have h2:Rd Tryz.prog (n+2) 166 Shape.cells (fun _=>True) (fun d a=>a=qo8 d):=by
  have h:=qez (P:=Tryz.prog) Tryz.underlying166 (by kernel_rfl) (Kd (sz:=1) rfl (by kernel_rfl) (qd4 (sz:=2) Tryz.underlying162 (by kernel_rfl) (by decide) qxo (qxh n))
   (Kd (sz:=2) rfl (by kernel_rfl) (qxh n) (Kd (sz:=1) rfl (by kernel_rfl) (qkr Tryz.underlying3 (n+1)) (Kd (sz:=1) rfl (by kernel_rfl) (qd4 (sz:=1) Tryz.underlying42 (by kernel_rfl) (by decide) (fun _=>rfl) (qb3 Tryz.underlying9 (n+1))) (qo3 (sz:=1) rfl (by kernel_rfl) (qkr Tryz.underlying3 (n+1)))))))
  refine qjx h (fun x=>(⟨x.1,x.2.1,x.2.2.1,x.2.2.2.1,x.2.2.2.2⟩:Shape)) (fun x=>rfl) (fun _ _=>trivial) (fun H d a he=> ?_)
  obtain ⟨ds,rfl,d0,ds1,rfl,h0,d1,ds2,rfl,h1,d2,ds3,rfl,h2,d3,ds4,rfl,h3,d4,rfl,h4⟩:=he
  have e0:=qyk quj (fun _ _ _ h=>h) h0
  have e3:=qyk dS (fun H d a h=>by rw [h];exact qs3 a) h3
  rw [e0,h1,h2,e3,h4];rfl
 exact q0v h2 (by omega)
theorem qye:Tryz.prog.globalNamed "treemerge/grammar.shapes" =some 0:=by kernel_rfl
theorem q1y:(Tryz.prog.globals[0]?).map (·.type)=some 167:=by kernel_rfl
theorem qqi:shapes=(dA (Rows.laid_treemerge_grammar_shapes:DataW Unit)).map qo8:=by rfl
theorem rc_agg {w:World} {xs:List AV} {vs:Array Value} {β:Nat→Nat} {n:Nat} (h:RC w xs vs.toList):RV w (· < w.heap.size) β n (.agg xs) (.agg vs):=by
 refine .agg xs vs (by simpa using h.1) (fun x hx=> ?_) (fun i x hi=> ?_)
 ·obtain ⟨i,hi⟩:=List.getElem?_of_mem hx
  exact (h.2 i x hi).1
 obtain ⟨_,v,hv,hR⟩:=h.2 i x hi
 rw [Array.getElem?_toList] at hv
 rw [Array.getD_eq_getD_getElem?,hv]
 exact hR β n
end Go.Proofs.YtpnkemogepoioaaGreatDoorW.Ex.Gr
