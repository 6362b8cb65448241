/- Small trees; the tokens of a small tree are small; what the functions of print and of the reference return. Conditions: those in each theorem. -/
import Derived.Test.YtigmilhpeodhbaaGreatDoorKT
import Derived.Test.YtigmilhpeodhbaaGreatDoorKe
import Derived.Test.YtigmilhpeodhbaaGreatDoorKq
import Derived.Test.YtigmilhpeodhbaaGreatDoorYb
namespace Go.Proofs.YtigmilhpeodhbaaGreatDoorW.Ex.Gr
open Go Go.Proofs.YtigmilhpeodhbaaGreatDoorW.Ex Tk
set_option linter.all false
set_option maxRecDepth 100000
def okT (x : Tok) : Prop := x.1.size ≤ 4000 ∧ x.2.size ≤ 4000
/-- The source behind a source, and the last word. -/
def srcL : List Tok → List UInt8 → BA → List UInt8 × BA
 | [], s, last => (s, last)
 | (g, w) :: T, s, last => srcL T (outL s (L last) (L g) (L w)) w
theorem q2c (s last g w : List UInt8) : (outL s last g w).length ≤ s.length + g.length + w.length + 1 := by
 unfold outL
 rw [List.length_append, List.length_append, List.length_append]
 split <;> simp <;> omega
theorem qw3 : ∀ (T : List Tok) (s : List UInt8) (last : BA), (∀ x ∈ T, okT x) → last.size ≤ 4000 → s.length + 8001 * T.length ≤ 1000000000 → Zv qm5 (last, s) T = some ((srcL T s last).2, (srcL T s last).1)
 | [], s, last, _, _, _ => rfl
 | (g, w) :: T, s, last, h, hl, hb => by
   rw [List.length_cons] at hb
   have a := h _ (List.mem_cons_self ..)
   have a1 : g.size ≤ 4000 := a.1
   have a2 : w.size ≤ 4000 := a.2
   have ho := q2c s (L last) (L g) (L w)
   rw [J4, J4] at ho
   rw [Zv, qm5, q4r g w last s (by omega) (by omega), bs, srcL]
   exact qw3 T _ w (fun x hx => h x (List.mem_cons_of_mem _ hx)) a2 (by omega)
theorem qzg {σ : Type} (emit : σ → BA → BA → Option σ) (node : σ → Node → BA → Int → Option (Node × σ))
 (hnode : ∀ (n : Node) (s : σ) (l : BA) (v : Int), known n.kind = true → 0 ≤ v → v ≤ 100000 → node s n l v = run (ownG emit n) (kidG node n) (stepsOf 0 n.kind n.text n.kids.length l v) s [] [] >>= fun x => some (Node.mk n.kind n.text x.2.1 x.2.2, x.1))
 (n : Node) (hc : checkErr n = 0) (hs : Yt n ≤ 90000) (s : σ) (l : BA) : node s n l 0 = Zv emit s (toks 0 n l 0) >>= fun s => some (layN 0 n l 0, s) := by
 refine qwf emit node (fun n => checkErr n = 0) (fun n h m hm => (wn h).kids m hm) (fun n h l v => ?_) (fun n h l l' v v' hst => qyk 0 (.inl rfl) (wn h).kn hst) (fun n s l v h h0 h1 => hnode n s l v (wn h).kn h0 h1) (Yt n) n (Nat.le_refl _) hc s l 0 (Int.le_refl _) (by omega)
 have w := wn h
 have e := q5q 0 n.text l v w.kn w.nk
 have o := q37 0 l v w.kn w.nk
 have p := qim (stepsOf 0 n.kind n.text n.kids.length l v)
 have hle := w.le
 exact ⟨by omega, by omega, by omega⟩
theorem qw7 {n : Node} (h : wfB n = true) : yp n = some (checkErr n) ∧ qn5 n = some (checkErr n) := by
 unfold yp qn5
 rw [if_pos h]; exact ⟨rfl, rfl⟩
theorem q2e {a b : Int} : ((!decide (a = b)) = true) = ¬ a = b := by simp
end Go.Proofs.YtigmilhpeodhbaaGreatDoorW.Ex.Gr
