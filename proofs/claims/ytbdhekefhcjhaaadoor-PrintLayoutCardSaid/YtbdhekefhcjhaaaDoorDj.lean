/- The contracts of the statements about printing, and what the listed table holds. No conditions beside those in each theorem. -/
import Derived.Test.YtbdhekefhcjhaaaDoorDi
import Derived.Test.YtbdhekefhcjhaaaDoorGk
namespace Go.Proofs.YtbdhekefhcjhaaaDoorW.Ex.Gr
open Go Go.RowKit Go.Proofs.YtbdhekefhcjhaaaDoorW.Ex Go.Proofs.YtbdhekefhcjhaaaDoor
set_option linter.all false
set_option maxRecDepth 100000
theorem glaid8 {W : World} (hL : laidMetH Tryd.prog [("treemerge/grammar.shapes", Rows.laid_treemerge_grammar_shapes)] W) : ∀ g β n, GV W (· < W.heap.size) β n g (G g) := by
 intro g β n
 unfold G
 split
 ·rename_i hg
  subst hg
  rw [MakeChecks.laidMetH_plain _ _ _ (by kernel_rfl)] at hL
  obtain ⟨ps, ⟨g0, t0, cs0, f0, p0, q0, hg0, ht0, hv0, hd0, _, _⟩, _, _⟩ := hL
  obtain rfl := Option.some.inj (globS.symm.trans hg0)
  obtain rfl := Option.some.inj (gtypeS.symm.trans ht0)
  obtain ⟨l, hl, ⟨ds, hds, hE⟩, hR⟩ := row_of_var (P := Tryd.prog) Tryd.underlying84 (by kernel_rfl) shape_len rdShape globS hv0 hd0
  obtain ⟨_, _, _, _, hlen, _⟩ := DataW.trod_array Tryd.underlying84 hd0
  have e1 := el_dec dShape (fun _ _ _ h => h) hE
  have e3 : ds = dA (Rows.laid_treemerge_grammar_shapes : DataW Unit) := by
   have : (DataW.agg ds : DataW Unit) = Rows.laid_treemerge_grammar_shapes := hds.symm
   rw [← this]; rfl
  rw [e3, ← shapes_laid] at e1
  refine ⟨by rw [← e1]; exact hR β n, fun _ => ?_⟩
  have h162 : (shapes.map Shape.cells).flatten.length = Tryd.prog.cellsOf 84 := by kernel_rfl
  unfold World.var? at hv0
  rw [globS, Option.bind_some] at hv0
  cases hb : W.heap[0]? with
  | none => rw [hb] at hv0; cases hv0
  | some o =>
    rw [hb] at hv0
    cases o with
    | cells c t fr =>
      simp only [Option.some.injEq] at hv0
      subst hv0
      refine ⟨t, ?_⟩
      unfold World.shape?
      rw [hb]
      show some (t, c.size) = _
      rw [h162, ← hlen, Array.length_toList]
    | _ => cases hv0
 ·exact ⟨.rptr [] g 0 (fun _ => Go.undef) (by simp) (by simp) (by simp) (by simp), fun h => absurd rfl h⟩
theorem L8_PrintLayout (n : Node) (_ : Wf n) : M_F_L8_PrintLayout n true := H_F_L8_PrintLayout n true (L8_Layout n)
theorem L8_PrintNumbers (n : Node) (_ : Wf n) : M_F_L8_PrintNumbers n true := H_F_L8_PrintNumbers n true (L8_Numbers n)
end Go.Proofs.YtbdhekefhcjhaaaDoorW.Ex.Gr
