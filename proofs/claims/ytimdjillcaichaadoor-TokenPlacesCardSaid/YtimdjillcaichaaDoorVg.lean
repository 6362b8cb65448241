/- What comes in for the token layer, and the contracts of its statements. Conditions: none beside those in each theorem. -/
import Derived.Test.YtimdjillcaichaaDoorVf
import Derived.Test.YtimdjillcaichaaDoorRows
import Derived.LaidMore
import Derived.Stop.Joined
import Derived.Stop.LaidErr
import Derived.MakeChecks
import Derived.LaidLaws
import Derived.Lib.LaidTab
namespace Go.Proofs.YtimdjillcaichaaDoorW.Ex.Gr
open Go Go.RowKit Go.Proofs.YtimdjillcaichaaDoorW.Ex Go.Proofs.YtimdjillcaichaaDoor
set_option linter.all false
set_option maxRecDepth 100000
theorem gv_of {P : Program} {W : World} {nm : String} {g : Nat} {vs : Array Value} {cs : List AV} (hg : P.globalNamed nm = some g) (hv : W.var? P nm = some vs) (hl : vs.size = cs.length)
    (h : ∀ (i : Nat) (x : AV), cs[i]? = some x → x.one = true ∧ ∃ v, vs[i]? = some v ∧ ∀ β, RV W (· < W.heap.size) β 0 x v) (β : Nat → Nat) (n : Nat) : GV W (· < W.heap.size) β n g cs := by
  unfold World.var? at hv
  rw [hg, Option.bind_some] at hv
  cases hb : W.heap[g]? with
  | none => rw [hb] at hv; cases hv
  | some o =>
    rw [hb] at hv
    cases o with
    | cells c t fr =>
      simp only [Option.some.injEq] at hv
      subst hv
      have hlt : g < W.heap.size := (Array.getElem?_eq_some_iff.1 hb).1
      refine ⟨.rptr cs g 0 (fun i => c.getD i Go.undef) (fun _ => hlt) (fun i x hi => (h i x hi).1) (fun i x hi => ?_) (fun i x hi => ?_), fun _ => ⟨t, ?_⟩⟩
      · obtain ⟨_, v, hv, _⟩ := h i x hi
        unfold World.cell?
        rw [hb, Nat.zero_add]
        show c[i]? = some (c.getD i Go.undef)
        rw [Array.getD_eq_getD_getElem?, hv]; rfl
      · obtain ⟨_, v, hv, hr⟩ := h i x hi
        rw [Array.getD_eq_getD_getElem?, hv]
        exact hr β
      · unfold World.shape?
        rw [hb]
        show some (t, c.size) = _
        rw [hl]
    | _ => cases hv
theorem gv_nil {W : World} (β : Nat → Nat) (n g : Nat) : GV W (· < W.heap.size) β n g [] := ⟨.rptr [] g 0 (fun _ => Go.undef) (by simp) (by simp) (by simp) (by simp), fun h => absurd rfl h⟩
theorem starE : "*" ++ "errors.errorString" = "*errors.errorString" := by decide
theorem errRow (u : TypeId) (h : Tryd.prog.typeName? 3 u = some "*errors.errorString") : u = 137 :=
  typeName_ptr_named (nm := "errors.errorString") (by rw [starE]; kernel_rfl) (by kernel_rfl) (by decide) u (by rw [starE]; exact h)
theorem gv_err {W : World} {nm : String} {g ti : Nat} {text : List UInt8} {r : List (String × DataW Unit)} {ms : Array (String × TypeId)} (h : laidMet Tryd.prog ((nm, .iface "*errors.errorString" (.ptr (.agg [.lit (.string text)]))) :: r) W)
    (hg : Tryd.prog.globalNamed nm = some g) (ht : (Tryd.prog.globals[g]?).map (·.type) = some ti) (hi : Tryd.prog.underlying ti = some (.interface ms)) (β : Nat → Nat) (n : Nat) : GV W (· < W.heap.size) β n g [.iface 137 .undef] := by
  obtain ⟨a0, s0, hv0, -, -, -⟩ := laid_sentinel h hg ht hi errRow Tryd.underlying137 Tryd.underlying139 rfl rfl Tryd.underlying9 (by kernel_rfl) (by kernel_rfl)
  refine gv_of hg hv0 rfl (fun i x hx => ?_) β n
  match i, hx with
  | 0, hx => cases hx; exact ⟨rfl, _, rfl, fun _ => .iface _ _ _ (.undef _)⟩
theorem pow_laid : (Rows.laid_internal_strconv_uint64pow10 : DataW Unit) = Lib.tabData .u64 Lib.pow10Tab := by kernel_rfl
theorem glaidT {W : World} (hL : laidMetH Tryd.prog [("math/bits.deBruijn32tab", Rows.laid_math_bits_deBruijn32tab), ("math/bits.deBruijn64tab", Rows.laid_math_bits_deBruijn64tab), ("internal/strconv.uint64pow10", Rows.laid_internal_strconv_uint64pow10), ("strconv.ErrRange", Rows.laid_strconv_ErrRange), ("strconv.ErrSyntax", Rows.laid_strconv_ErrSyntax)] W) : ∀ g β n, GV W (· < W.heap.size) β n g (Gt g) := by
  rw [MakeChecks.laidMetH_plain _ _ _ (by kernel_rfl)] at hL
  have h3 := hL.tail.tail
  intro g β n
  unfold Gt
  by_cases g1 : g = 2
  · rw [if_pos g1]
    subst g1
    exact gv_err (ti := 90) h3.tail.tail (by kernel_rfl) (by kernel_rfl) Tryd.underlying90 β n
  · rw [if_neg g1]
    by_cases g2 : g = 3
    · rw [if_pos g2]
      subst g2
      exact gv_err (ti := 90) h3.tail (by kernel_rfl) (by kernel_rfl) Tryd.underlying90 β n
    · rw [if_neg g2]
      by_cases g3 : g = 4
      · rw [if_pos g3]
        subst g3
        rw [pow_laid] at h3
        have hg : Tryd.prog.globalNamed "internal/strconv.uint64pow10" = some 4 := by kernel_rfl
        have ht := Lib.tabIs_of_head (t := 141) (e := 123) (n := 20) hg (by kernel_rfl) Tryd.underlying141 Tryd.underlying123 (by kernel_rfl) (by kernel_rfl) h3
        refine gv_of hg ht (by simp) (fun i x hx => ?_) β n
        rw [List.getElem?_map] at hx
        obtain ⟨z, hz, rfl⟩ := Option.map_eq_some_iff.1 hx
        refine ⟨rfl, .int .u64 z, ?_, fun _ => .int _ _⟩
        rw [List.getElem?_toArray, List.getElem?_map, hz]; rfl
      · rw [if_neg g3]
        exact gv_nil β n g
theorem rdTok (n : Nat) : Rd Tryd.prog (n + 1) 56 Token.cells (fun _ => True) (fun _ _ => True) := by
  have h := rd_struct (P := Tryd.prog) Tryd.underlying56 (by kernel_rfl) (fr_cons (sz := 1) rfl (by kernel_rfl) (rd_int Tryd.underlying3 n) (fr_cons (sz := 1) rfl (by kernel_rfl) (rd_string Tryd.underlying9 n)
    (fr_cons (sz := 1) rfl (by kernel_rfl) (rd_string Tryd.underlying9 n) (fr_one (sz := 1) rfl (by kernel_rfl) (rd_int Tryd.underlying3 n)))))
  exact rd_conv h (fun x => Token.mk x.1 x.2.1 x.2.2.1 x.2.2.2) (fun x => rfl) (fun _ _ => trivial) (fun _ _ _ _ => trivial)
theorem rdToks (n : Nat) : Rd Tryd.prog n 48 (fun l : List Token => [.sl 4 false (l.map Token.cells)]) (fun _ => True) (fun _ _ => True) :=
  rd_le (rd_imp (rd_slice (sz := 4) Tryd.underlying48 (by kernel_rfl) (by decide) (fun _ => rfl) (rdTok n)) (fun _ _ => trivial) (fun _ _ _ _ => trivial)) (Nat.le_succ n)
theorem rc_sl {w : World} {x : AV} {v : Value} (h : RC w [x] [v]) : ∀ β n, RV w (· < w.heap.size) β n x v := fun β n => by
  obtain ⟨_, v', hv, hR⟩ := h.2 0 x rfl
  simp only [List.getElem?_cons_zero, Option.some.injEq] at hv
  subst hv
  exact hR β n
theorem L5_TokenReads (s : ByteArray) (_ : s.size ≤ 140737488351232) : M_F_L5_TokenReads s true := H_F_L5_TokenReads s true (Tk.P_TokenReads s)
theorem L5_TokenLossless (s : ByteArray) (_ : s.size ≤ 140737488351232) : M_F_L5_TokenLossless s true := H_F_L5_TokenLossless s true (Tk.P_TokenLossless s)
theorem L5_TokenBlanks (s : ByteArray) (_ : s.size ≤ 140737488351232) : M_F_L5_TokenBlanks s true := H_F_L5_TokenBlanks s true (Tk.P_TokenBlanks s)
theorem L5_TokenPlaces (s : ByteArray) (_ : s.size ≤ 140737488351232) : M_F_L5_TokenPlaces s true := H_F_L5_TokenPlaces s true (Tk.P_TokenPlaces s)
theorem L5_TokenKinds (a : ByteArray) (_ : a.size ≤ 140737488351232) (b : ByteArray) (_ : b.size ≤ 140737488351232) : M_F_L5_TokenKinds a b true := H_F_L5_TokenKinds a b true (Tk.P_TokenKinds a b)
theorem L5_TokenGaps (a : ByteArray) (_ : a.size ≤ 140737488351232) (b : ByteArray) (_ : b.size ≤ 140737488351232) : M_F_L5_TokenGaps a b true := H_F_L5_TokenGaps a b true (Tk.P_TokenGaps a b)
theorem L5_TokenJoins (l : List Token) : M_F_L5_TokenJoins l true := H_F_L5_TokenJoins l true (Tk.P_TokenJoins l)
end Go.Proofs.YtimdjillcaichaaDoorW.Ex.Gr
