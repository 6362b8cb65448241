/- What comes in: what the form's reader tells of a tree is a tree of the grammar's words; and what the listed table holds. Conditions: none beside those in each theorem. -/
import Derived.Test.YtpnkemogepoioaaGreatDoorGa
import Derived.Test.YtpnkemogepoioaaGreatDoorRows
import Derived.LaidMore
import Derived.Stop.Joined
import Derived.MakeChecks
namespace Go.Proofs.YtpnkemogepoioaaGreatDoorW.Ex.Gr
open Go Go.RowKit Go.Proofs.YtpnkemogepoioaaGreatDoorW.Ex Go.Proofs.YtpnkemogepoioaaGreatDoor
set_option linter.all false
set_option maxRecDepth 100000
theorem cells_len (n:Node):n.cells.length=4:=by rw [cells_eq];rfl
theorem q36 (p:Int × Int):(qsg p).length=2:=rfl
theorem rdNode (n:Nat):Rd Tryz.prog n 45 Node.cells Wf (fun _ _=>True):=by
 refine q3w (fun n ih=> ?_) n
 have h:=qil (P:=Tryz.prog) Tryz.underlying45 (by kernel_rfl) (qc4 (sz:=1) rfl (by kernel_rfl) (qo1 Tryz.underlying3 n) (qc4 (sz:=1) rfl (by kernel_rfl) (qe5 Tryz.underlying9 n)
  (qc4 (sz:=1) rfl (by kernel_rfl) (qhn (sz:=1) Tryz.underlying42 (by kernel_rfl) (by decide) (fun _=>rfl) (qe5 Tryz.underlying9 n)) (que (sz:=1) rfl (by kernel_rfl) (qhn (sz:=4) Tryz.underlying43 (by kernel_rfl) (by decide) cells_len ih)))))
 refine qnz h (fun x=>Node.mk x.1 x.2.1 x.2.2.1 x.2.2.2) (fun x=> ?_) (fun x hx=> ?_) (fun _ _ _ _=>trivial)
 ·rw [cells_eq];rfl
 obtain ⟨_,h2,h3,h4⟩:=hx
 unfold maxLen at*
 exact .mk _ h4.1 h3.1 h2 h3.2 h4.2
def dI {H:Type}:DataW H→Int
 | .lit (.int _ n)=>n
 | _=>0
def dS {H:Type}:DataW H→ByteArray
 | .lit (.string l)=>⟨l.toArray⟩
 | _=>⟨#[]⟩
def dL {H:Type}:DataW H→List (DataW H)
 | .slice ds _=>ds
 | _=> []
def dA {H:Type}:DataW H→List (DataW H)
 | .agg ds=>ds
 | _=> []
def q0n {H:Type} (d:DataW H):Int × Int:=(dI ((dA d).getD 0 .nil),dI ((dA d).getD 1 .nil))
def quk {H:Type} (d:DataW H):Shape:=⟨(dL ((dA d).getD 0 .nil)).map q0n,q0n ((dA d).getD 1 .nil),dI ((dA d).getD 2 .nil),(dL ((dA d).getD 3 .nil)).map dS,dI ((dA d).getD 4 .nil)⟩
theorem q5c {α:Type} {E:{H:Type}→DataW H→α→Prop} (dec:{H:Type}→DataW H→α) (hE:∀(H:Type) (d:DataW H) a,E d a→a=dec d) {H:Type} {ds:List (DataW H)} {l:List α} (h:EL E ds l):l=ds.map dec:=by
 apply List.ext_getElem?
 intro i
 rw [Av]
 cases hd:ds[i]? with
 | none=>
   have:=h.1
   rw [List.getElem?_eq_none_iff] at hd
   rw [Option.map_none,List.getElem?_eq_none_iff];omega
 | some d=>
   have hi:=(Ah.1 hd).1
   have hl:l[i]? =some (l[i]'(by rw [←h.1];exact hi)):=Ak _
   rw [hl,Ba,hE _ _ _ (h.2 i d _ hd hl)]
theorem q5a {α:Type} {E:{H:Type}→DataW H→α→Prop} (dec:{H:Type}→DataW H→α) (hE:∀(H:Type) (d:DataW H) a,E d a→a=dec d) {H:Type} {d:DataW H} {l:List α} (h:ES E d l):l=(dL d).map dec:=by
 rcases h with ⟨rfl,rfl⟩ | ⟨ds,rest,rfl,h⟩
 ·rfl
 exact q5c dec hE h
theorem qyv (s:ByteArray):s=⟨s.data.toList.toArray⟩:=by rcases s with ⟨⟨l⟩⟩;rfl
theorem q3z (n:Nat):Rd Tryz.prog (n+1) 164 qsg (fun _=>True) (fun d a=>a=q0n d):=by
 have h:=qil (P:=Tryz.prog) Tryz.underlying164 (by kernel_rfl) (qc4 (sz:=1) rfl (by kernel_rfl) (qo1 Tryz.underlying3 n) (que (sz:=1) rfl (by kernel_rfl) (qo1 Tryz.underlying3 n)))
 refine qnz h (fun x=>(x.1,x.2)) (fun x=>rfl) (fun _ _=>trivial) (fun H d a he=> ?_)
 obtain ⟨ds,rfl,d0,ds1,rfl,h0,d1,rfl,h1⟩:=he
 rw [h0,h1];rfl
theorem q6p (n:Nat):Rd Tryz.prog n 166 Shape.cells (fun _=>True) (fun d a=>a=quk d):=by
 have h2:Rd Tryz.prog (n+2) 166 Shape.cells (fun _=>True) (fun d a=>a=quk d):=by
  have h:=qil (P:=Tryz.prog) Tryz.underlying166 (by kernel_rfl) (qc4 (sz:=1) rfl (by kernel_rfl) (qhn (sz:=2) Tryz.underlying162 (by kernel_rfl) (by decide) q36 (q3z n))
   (qc4 (sz:=2) rfl (by kernel_rfl) (q3z n) (qc4 (sz:=1) rfl (by kernel_rfl) (qo1 Tryz.underlying3 (n+1)) (qc4 (sz:=1) rfl (by kernel_rfl) (qhn (sz:=1) Tryz.underlying42 (by kernel_rfl) (by decide) (fun _=>rfl) (qe5 Tryz.underlying9 (n+1))) (que (sz:=1) rfl (by kernel_rfl) (qo1 Tryz.underlying3 (n+1)))))))
  refine qnz h (fun x=>(⟨x.1,x.2.1,x.2.2.1,x.2.2.2.1,x.2.2.2.2⟩:Shape)) (fun x=>rfl) (fun _ _=>trivial) (fun H d a he=> ?_)
  obtain ⟨ds,rfl,d0,ds1,rfl,h0,d1,ds2,rfl,h1,d2,ds3,rfl,h2,d3,ds4,rfl,h3,d4,rfl,h4⟩:=he
  have e0:=q5a q0n (fun _ _ _ h=>h) h0
  have e3:=q5a dS (fun H d a h=>by rw [h];exact qyv a) h3
  rw [e0,h1,h2,e3,h4];rfl
 exact q72 h2 (by omega)
theorem q40:Tryz.prog.globalNamed "treemerge/grammar.shapes" =some 0:=by kernel_rfl
theorem q9e:(Tryz.prog.globals[0]?).map (·.type)=some 167:=by kernel_rfl
theorem qvz:shapes=(dA (Rows.laid_treemerge_grammar_shapes:DataW Unit)).map quk:=by rfl
theorem rc_agg {w:World} {xs:List AV} {vs:Array Value} {β:Nat→Nat} {n:Nat} (h:RC w xs vs.toList):RV w (· < w.heap.size) β n (.agg xs) (.agg vs):=by
 refine .agg xs vs (by simpa using h.1) (fun x hx=> ?_) (fun i x hi=> ?_)
 ·obtain ⟨i,hi⟩:=AB hx
  exact (h.2 i x hi).1
 obtain ⟨_,v,hv,hR⟩:=h.2 i x hi
 rw [Bk] at hv
 rw [Ag,hv]
 exact hR β n
end Go.Proofs.YtpnkemogepoioaaGreatDoorW.Ex.Gr
