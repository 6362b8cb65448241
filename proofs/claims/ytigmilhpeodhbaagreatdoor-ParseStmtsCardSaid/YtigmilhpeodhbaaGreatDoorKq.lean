/- Lists along a loop; a tree is equal to itself. Conditions: those in each theorem. -/
import Derived.Test.YtigmilhpeodhbaaGreatDoorKp
namespace Go.Proofs.YtigmilhpeodhbaaGreatDoorW.Ex.Gr
open Go Go.Proofs.YtigmilhpeodhbaaGreatDoorW.Ex Go.Proofs.YtigmilhpeodhbaaGreatDoorW.Plain Tk
set_option linter.all false
set_option maxRecDepth 100000
theorem q4o {α : Type} (pre : List α) (m : α) (l : List α) : ix (pre ++ m :: l) (pre.length : Int) = some m := by
 rw [qv5, List.getElem?_append_right (Nat.le_refl _), Nat.sub_self]; rfl
theorem q1e {α : Type} {L pre l : List α} {m : α} (h : L = pre ++ m :: l) : ix L (pre.length : Int) = some m := by rw [h, q4o]
theorem qxn {α β : Type} {C : α → β} {L pre l : List α} {m : α} (h : L = pre ++ m :: l) : decide ((pre.length : Int) < ((L.map C).length : Int)) = true := by
 rw [List.length_map, h, List.length_append, List.length_cons]; exact decide_eq_true (by omega)
theorem qxo {α β : Type} {C : α → β} {L pre : List α} (h : L = pre ++ []) : decide ((pre.length : Int) < ((L.map C).length : Int)) = false := by
 rw [List.length_map, h, List.length_append, List.length_nil]; exact decide_eq_false (by omega)
theorem qss {α : Type} {pre : List α} (h : pre.length < 9223372036854775807) (m : α) : IntKind.i64.wrap ((pre.length : Int) + 1) = ((pre ++ [m]).length : Int) := by
 rw [List.length_append, List.length_singleton]; exact j6 (by omega) (by omega)
theorem qto {α : Type} {L pre l : List α} {m : α} (h : L = pre ++ m :: l) : L = (pre ++ [m]) ++ l := by rw [h, List.append_assoc]; rfl
theorem q08 {α : Type} {L pre l : List α} {m : α} (h : L = pre ++ m :: l) : pre.length < L.length := by rw [h, List.length_append, List.length_cons]; omega
theorem qm6 (L : List BA) (hn : L.length ≤ 9223372036854775807) : ∀ (l pre : List BA), L = pre ++ l → vo L L (pre.length : Int) = some true
 | [], pre, h => by rw [vo.eq_def, qxo h, q1g]
 | m :: l, pre, h => by
   have hl := q08 h
   rw [vo.eq_def]
   simp only [qb]
   rw [qxn h, q1f, q1e h, bs, bs, decide_eq_true rfl, nff, qss (by omega) m]
   exact qm6 L hn l (pre ++ [m]) (qto h)
theorem qra (l : List BA) (h : l.length ≤ 9223372036854775807) : qag l l = some true := by
 rw [qag.eq_def, decide_eq_true rfl, nff]
 exact qm6 l h l [] rfl
theorem qt3 (n : Node) (hn : n.kids.length ≤ 9223372036854775807) (ih : ∀ m ∈ n.kids, uv m m = some true) : ∀ (l pre : List Node), n.kids = pre ++ l → Qf (pre.length : Int) n n = some true
 | [], pre, h => by rw [Qf.eq_def, qxo h, q1g]
 | m :: l, pre, h => by
   have hl := q08 h
   rw [Qf.eq_def]
   simp only [qb]
   rw [qxn h, q1f, q1e h, bs, bs, ih m (by rw [h]; simp), bs, nff, qss (by omega) m]
   exact qt3 n hn ih l (pre ++ [m]) (qto h)
theorem qwc {n : Node} (hg : n.gaps.length ≤ 9223372036854775807) (hn : n.kids.length ≤ 9223372036854775807) (ih : ∀ m ∈ n.kids, uv m m = some true) : uv n n = some true := by
 rw [uv.eq_def, decide_eq_true rfl, nff, decide_eq_true rfl, nff, qra _ hg, bs, nff, decide_eq_true rfl, nff]
 exact qt3 n hn ih n.kids [] rfl
end Go.Proofs.YtigmilhpeodhbaaGreatDoorW.Ex.Gr
