/- The program's functions, printed as functions on numbers, strings, lists and trees, with the proofs that they are what the code computes. Conditions: those in each theorem. -/
import Derived.Test.YtimdjillcaichaaDoorGh
import Derived.Test.YtimdjillcaichaaDoorPa
import Derived.Test.YtimdjillcaichaaDoorExO
import Derived.Test.YtimdjillcaichaaDoorExF
namespace Go.Proofs.YtimdjillcaichaaDoorW.Ex.Gr
open Go Go.Proofs.YtimdjillcaichaaDoorW.Ex
set_option linter.all false
set_option maxRecDepth 100000
structure Row where
  Parent : Int
  Kind : Int
  Text : ByteArray
  Gaps : (List ByteArray)
  Kids : (List Int)
def Row.cells (x : Row) : List AV := [(.int .i64 x.Parent), (.int .i64 x.Kind), (.str x.Text), (.sl 1 false (x.Gaps.map sc)), (.sl 1 false (x.Kids.map ic))]
theorem Row_ok : CellsOk Row.cells 5 := ⟨fun _ => rfl, by decide, fun a z hz => by
  simp only [Row.cells, List.mem_cons, List.not_mem_nil, or_false] at hz
  rcases hz with rfl | rfl | rfl | rfl | rfl <;> exact ⟨rfl, rfl⟩⟩
theorem Node.cells_eq (n : Node) : n.cells = cellsN n := Go.Proofs.YtimdjillcaichaaDoorW.Ex.Gr.cells_eq n
theorem Node.cells_len (n : Node) : n.cells.length = 4 := by rw [Node.cells_eq]; rfl
theorem Node_ok : CellsOk Node.cells 4 := ⟨Node.cells_len, by decide, fun n z hz => by
  rw [Node.cells_eq] at hz
  simp only [List.mem_cons, List.not_mem_nil, or_false] at hz
  rcases hz with rfl | rfl | rfl | rfl <;> exact ⟨rfl, rfl⟩⟩

mutual
def wfB : Node → Bool
  | .mk _ t g l => decide (l.length ≤ 9223372036854775807) && decide (g.length ≤ 9223372036854775807) && decide (t.size ≤ 9223372036854775807) && g.all (fun s => decide (s.size ≤ 9223372036854775807)) && wfBL l
def wfBL : List Node → Bool
  | [] => true
  | n :: l => wfB n && wfBL l
end
mutual
theorem wfB_ok : ∀ n : Node, wfB n = true → Wf n
  | .mk k t g l, h => by
    simp only [wfB, Bool.and_eq_true, decide_eq_true_eq, List.all_eq_true] at h
    exact .mk _ h.1.1.1.1 h.1.1.1.2 h.1.1.2 h.1.2 (wfBL_ok l h.2)
theorem wfBL_ok : ∀ l : List Node, wfBL l = true → ∀ m ∈ l, Wf m
  | [], _, m, hm => by cases hm
  | n :: l, h, m, hm => by
    simp only [wfBL, Bool.and_eq_true] at h
    rcases List.mem_cons.1 hm with e | hm
    · rw [e]; exact wfB_ok n h.1
    · exact wfBL_ok l h.2 m hm
end
theorem wfBL_of (l : List Node) (h : ∀ m ∈ l, wfB m = true) : wfBL l = true := by
  induction l with
  | nil => rfl
  | cons n l ih => rw [wfBL, h n (List.mem_cons_self ..), ih (fun m hm => h m (List.mem_cons_of_mem _ hm))]; rfl
theorem wfB_of {n : Node} (h : Wf n) : wfB n = true := by
  induction h with | mk n hk hg ht hs _ ih => ?_
  cases n with
  | mk k t g l =>
    rw [wfB, wfBL_of l ih]
    simp only [Bool.and_true, Bool.and_eq_true, decide_eq_true_eq, List.all_eq_true]
    exact ⟨⟨⟨hk, hg⟩, ht⟩, hs⟩

def F_grammar_Fits (a b c : Int) : Option Bool := some (fits a b c)
theorem H_F_grammar_Fits (a b c : Int) (r : Bool) (h : F_grammar_Fits a b c = some r) : Fn Tryd.prog G 58 [.int .i64 a, .int .i64 b, .int .i64 c] (.bool r) := by
  cases h; exact grammar_Fits a b c
def F_R7_Fits (a b c : Int) : Option Bool := some (fits a b c)
theorem H_F_R7_Fits (a b c : Int) (r : Bool) (h : F_R7_Fits a b c = some r) : Fn Tryd.prog G 84 [.int .i64 a, .int .i64 b, .int .i64 c] (.bool r) := by
  cases h; exact R7_Fits a b c
def F_grammar_Own (n : Node) : Option Int := if n.kids.length ≤ 9223372036854775807 then some (own n) else none
theorem H_F_grammar_Own (n : Node) (r : Int) (h : F_grammar_Own n = some r) : Fn Tryd.prog G 83 [.agg (cellsN n)] (.int .i64 r) := by
  unfold F_grammar_Own at h
  split at h
  · rename_i hc; cases h; exact grammar_Own n hc
  · cases h
def F_R7_Own (n : Node) : Option Int := if n.kids.length ≤ 9223372036854775807 then some (own n) else none
theorem H_F_R7_Own (n : Node) (r : Int) (h : F_R7_Own n = some r) : Fn Tryd.prog G 85 [.agg (cellsN n)] (.int .i64 r) := by
  unfold F_R7_Own at h
  split at h
  · rename_i hc; cases h; exact R7_Own n hc
  · cases h
def F_grammar_Check (n : Node) : Option Int := if wfB n = true then some (checkErr n) else none
theorem H_F_grammar_Check (n : Node) (r : Int) (h : F_grammar_Check n = some r) : Fn Tryd.prog G 80 [.agg (cellsN n)] (.int .i64 r) := by
  unfold F_grammar_Check at h
  split at h
  · rename_i hc; cases h; exact grammar_Check n (wfB_ok n hc)
  · cases h
def F_R7_Check (n : Node) : Option Int := if wfB n = true then some (checkErr n) else none
theorem H_F_R7_Check (n : Node) (r : Int) (h : F_R7_Check n = some r) : Fn Tryd.prog G 32 [.agg (cellsN n)] (.int .i64 r) := by
  unfold F_R7_Check at h
  split at h
  · rename_i hc; cases h; exact R7_Check n (wfB_ok n hc)
  · cases h
end Go.Proofs.YtimdjillcaichaaDoorW.Ex.Gr
