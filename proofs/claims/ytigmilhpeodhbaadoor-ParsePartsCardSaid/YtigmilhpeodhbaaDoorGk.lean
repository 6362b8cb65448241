/- What comes in: what the form's reader tells of a tree is a tree of the grammar's words; and what the listed table holds. Conditions: none beside those in each theorem. -/
import Derived.Test.YtigmilhpeodhbaaDoorGa
import Derived.Test.YtigmilhpeodhbaaDoorRows
import Derived.LaidMore
import Derived.Stop.Joined
import Derived.MakeChecks
namespace Go.Proofs.YtigmilhpeodhbaaDoorW.Ex.Gr
open Go Go.RowKit Go.Proofs.YtigmilhpeodhbaaDoorW.Ex Go.Proofs.YtigmilhpeodhbaaDoor
set_option linter.all false
set_option maxRecDepth 100000
theorem cells_len (n : Node) : n.cells.length = 4 := by rw [cells_eq]; rfl
theorem qwf (p : Int × Int) : (qlo p).length = 2 := rfl
def dI {H : Type} : DataW H → Int
 | .lit (.int _ n) => n
 | _ => 0
def dS {H : Type} : DataW H → ByteArray
 | .lit (.string l) => ⟨l.toArray⟩
 | _ => ⟨#[]⟩
def dL {H : Type} : DataW H → List (DataW H)
 | .slice ds _ => ds
 | _ => []
def dA {H : Type} : DataW H → List (DataW H)
 | .agg ds => ds
 | _ => []
def qtf {H : Type} (d : DataW H) : Int × Int := (dI ((dA d).getD 0 .nil), dI ((dA d).getD 1 .nil))
def qnk {H : Type} (d : DataW H) : Shape := ⟨(dL ((dA d).getD 0 .nil)).map qtf, qtf ((dA d).getD 1 .nil), dI ((dA d).getD 2 .nil), (dL ((dA d).getD 3 .nil)).map dS, dI ((dA d).getD 4 .nil)⟩
theorem qxk {α : Type} {E : {H : Type} → DataW H → α → Prop} (dec : {H : Type} → DataW H → α) (hE : ∀ (H : Type) (d : DataW H) a, E d a → a = dec d) {H : Type} {ds : List (DataW H)} {l : List α} (h : EL E ds l) : l = ds.map dec := by
 apply List.ext_getElem?
 intro i
 rw [List.getElem?_map]
 cases hd : ds[i]? with
 | none =>
   have := h.1
   rw [List.getElem?_eq_none_iff] at hd
   rw [Option.map_none, List.getElem?_eq_none_iff]; omega
 | some d =>
   have hi := (List.getElem?_eq_some_iff.1 hd).1
   have hl : l[i]? = some (l[i]'(by rw [← h.1]; exact hi)) := List.getElem?_eq_getElem _
   rw [hl, Option.map_some, hE _ _ _ (h.2 i d _ hd hl)]
theorem qxi {α : Type} {E : {H : Type} → DataW H → α → Prop} (dec : {H : Type} → DataW H → α) (hE : ∀ (H : Type) (d : DataW H) a, E d a → a = dec d) {H : Type} {d : DataW H} {l : List α} (h : ES E d l) : l = (dL d).map dec := by
 rcases h with ⟨rfl, rfl⟩ | ⟨ds, rest, rfl, h⟩
 ·rfl
 exact qxk dec hE h
theorem qrg (s : ByteArray) : s = ⟨s.data.toList.toArray⟩ := by rcases s with ⟨⟨l⟩⟩; rfl
theorem qwa (n : Nat) : Rd Tryd.prog (n + 1) 77 qlo (fun _ => True) (fun d a => a = qtf d) := by
 have h := qlk (P := Tryd.prog) Tryd.underlying77 (by kernel_rfl) (qfg (sz := 1) rfl (by kernel_rfl) (qmt Tryd.underlying3 n) (qxe (sz := 1) rfl (by kernel_rfl) (qmt Tryd.underlying3 n)))
 refine qsj h (fun x => (x.1, x.2)) (fun x => rfl) (fun _ _ => trivial) (fun H d a he => ?_)
 obtain ⟨ds, rfl, d0, ds1, rfl, h0, d1, rfl, h1⟩ := he
 rw [h0, h1]; rfl
theorem qyu (n : Nat) : Rd Tryd.prog n 79 Shape.cells (fun _ => True) (fun d a => a = qnk d) := by
 have h2 : Rd Tryd.prog (n + 2) 79 Shape.cells (fun _ => True) (fun d a => a = qnk d) := by
  have h := qlk (P := Tryd.prog) Tryd.underlying79 (by kernel_rfl) (qfg (sz := 1) rfl (by kernel_rfl) (qoy (sz := 2) Tryd.underlying75 (by kernel_rfl) (by decide) qwf (qwa n))
   (qfg (sz := 2) rfl (by kernel_rfl) (qwa n) (qfg (sz := 1) rfl (by kernel_rfl) (qmt Tryd.underlying3 (n + 1)) (qfg (sz := 1) rfl (by kernel_rfl) (qoy (sz := 1) Tryd.underlying23 (by kernel_rfl) (by decide) (fun _ => rfl) (quq Tryd.underlying9 (n + 1))) (qxe (sz := 1) rfl (by kernel_rfl) (qmt Tryd.underlying3 (n + 1)))))))
  refine qsj h (fun x => (⟨x.1, x.2.1, x.2.2.1, x.2.2.2.1, x.2.2.2.2⟩ : Shape)) (fun x => rfl) (fun _ _ => trivial) (fun H d a he => ?_)
  obtain ⟨ds, rfl, d0, ds1, rfl, h0, d1, ds2, rfl, h1, d2, ds3, rfl, h2, d3, ds4, rfl, h3, d4, rfl, h4⟩ := he
  have e0 := qxi qtf (fun _ _ _ h => h) h0
  have e3 := qxi dS (fun H d a h => by rw [h]; exact qrg a) h3
  rw [e0, h1, h2, e3, h4]; rfl
 exact q1w h2 (by omega)
theorem qxd : Tryd.prog.globalNamed "treemerge/grammar.shapes" = some 0 := by kernel_rfl
theorem q0z : (Tryd.prog.globals[0]?).map (·.type) = some 80 := by kernel_rfl
theorem qom : shapes = (dA (Rows.laid_treemerge_grammar_shapes : DataW Unit)).map qnk := by rfl
end Go.Proofs.YtigmilhpeodhbaaDoorW.Ex.Gr
