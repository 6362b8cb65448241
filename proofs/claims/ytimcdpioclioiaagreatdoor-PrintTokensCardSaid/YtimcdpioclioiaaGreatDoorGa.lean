/- The grammar of trees in plain words: kinds, shapes, levels, own tokens, and what a tree is as cells of memory. No conditions beside those in each theorem. -/
import Derived.Test.YtimcdpioclioiaaGreatDoorSb
import Derived.Lib.ItoaNum
namespace Go.Proofs.YtimcdpioclioiaaGreatDoorW.Ex.Gr
set_option linter.all false
open Go Go.Proofs.YtimcdpioclioiaaGreatDoorW.Ex Go.Proofs.YtimcdpioclioiaaGreatDoorW.Plain
/-- A tree. -/
inductive Node where
 | mk (kind : Int) (text : ByteArray) (gaps : List ByteArray) (kids : List Node)
def Node.kind : Node → Int | .mk k _ _ _ => k
def Node.text : Node → ByteArray | .mk _ t _ _ => t
def Node.gaps : Node → List ByteArray | .mk _ _ g _ => g
def Node.kids : Node → List Node | .mk _ _ _ l => l
def sc (s : ByteArray) : List AV := [.str s]
mutual
def Node.cells : Node → List AV
 | .mk k t g l => [.int .i64 k, .str t, .sl 1 false (g.map sc), .sl 4 false (cellsL l)]
def cellsL : List Node → List (List AV)
 | [] => []
 | n :: l => n.cells :: cellsL l
end
theorem cellsL_map : ∀ l : List Node, cellsL l = l.map Node.cells
 | [] => rfl
 | n :: l => by rw [cellsL, cellsL_map l, List.map_cons]
theorem cells_eq (n : Node) : n.cells = [.int .i64 n.kind, .str n.text, .sl 1 false (n.gaps.map sc), .sl 4 false (n.kids.map Node.cells)] := by
 cases n with
 | mk k t g l => rw [Node.cells, cellsL_map]; rfl
@[reducible] def zo (n : Node) : List AV := [.int .i64 n.kind, .str n.text, .sl 1 false (n.gaps.map sc), .sl 4 false (n.kids.map Node.cells)]
theorem u4 {n m : Node} {i : Nat} (h : n.kids[i]? = some m) : (n.kids.map Node.cells)[i]? = some (zo m) := by
 rw [List.getElem?_map, h, Option.map_some, cells_eq]
theorem gap_at {n : Node} {g : ByteArray} {i : Nat} (h : n.gaps[i]? = some g) : (n.gaps.map sc)[i]? = some [.str g] := by
 rw [List.getElem?_map, h]; rfl
/-- The shape of a kind. -/
structure Shape where
 first : List (Int × Int)
 rest : Int × Int
 text : Int
 words : List ByteArray
 own : Int
def partC (p : Int × Int) : List AV := [.int .i64 p.1, .int .i64 p.2]
def Shape.cells (s : Shape) : List AV := [.sl 2 false (s.first.map partC), .int .i64 s.rest.1, .int .i64 s.rest.2, .int .i64 s.text, .sl 1 false (s.words.map sc), .int .i64 s.own]
theorem shape_len (s : Shape) : s.cells.length = 6 := rfl
def shapes : List Shape := [
 ⟨[], (0, 0), 0, [], 0⟩,
 ⟨[], (0, 1), 0, [], 1⟩,
 ⟨[(3, 0), (5, 0), (6, 0)], (0, 0), 1, [], 2⟩,
 ⟨[], (4, 0), 0, [], 2⟩,
 ⟨[(5, 0)], (0, 0), 1, [], 1⟩,
 ⟨[], (0, 0), 1, [], 1⟩,
 ⟨[], (0, 2), 0, [], 2⟩,
 ⟨[(8, 0)], (2, 0), 1, [], 4⟩,
 ⟨[], (0, 0), 2, [], 2⟩,
 ⟨[(0, 3)], (0, 0), 1, [], 4⟩,
 ⟨[(0, 3)], (0, 0), 1, [], 4⟩,
 ⟨[(0, 3)], (0, 0), 1, [], 3⟩,
 ⟨[(0, 3)], (0, 0), 0, [], 2⟩,
 ⟨[(0, 3), (6, 0), (14, 0)], (0, 0), 0, [], 1⟩,
 ⟨[(6, 0)], (0, 0), 0, [], 1⟩,
 ⟨[(0, 3), (6, 0)], (0, 0), 0, [], 1⟩,
 ⟨[(0, 3)], (0, 0), 0, [], 1⟩,
 ⟨[], (0, 0), 3, [], 1⟩,
 ⟨[], (0, 0), 4, [⟨#[116, 114, 117, 101]⟩, ⟨#[102, 97, 108, 115, 101]⟩], 1⟩,
 ⟨[], (0, 0), 1, [], 1⟩,
 ⟨[], (0, 3), 1, [], 3⟩,
 ⟨[(0, 3)], (0, 3), 1, [], 4⟩,
 ⟨[], (0, 0), 1, [], 4⟩,
 ⟨[], (0, 0), 4, [⟨#[115, 101, 108, 102]⟩], 1⟩,
 ⟨[(0, 3), (0, 3)], (0, 0), 4, [⟨#[124]⟩, ⟨#[38]⟩, ⟨#[61, 61]⟩, ⟨#[60]⟩, ⟨#[43]⟩, ⟨#[45]⟩, ⟨#[42]⟩, ⟨#[47]⟩], 1⟩,
 ⟨[(0, 3)], (0, 0), 4, [⟨#[45]⟩, ⟨#[33]⟩], 1⟩,
 ⟨[(0, 3)], (0, 0), 0, [], 2⟩]
def zw (k : Int) : Shape := shapes.getD k.toNat ⟨[], (0, 0), 0, [], 0⟩
def G : Nat → List AV := fun g => if g = 0 then (shapes.map Shape.cells).flatten else if g = 2 then [.iface 127 .undef] else if g = 3 then [.iface 127 .undef] else if g = 4 then Lib.pow10Tab.map (fun z => .int .u64 z) else []
theorem flat_at {α : Type} {C : α → List AV} {sz : Nat} (hC : ∀ a, (C a).length = sz) : ∀ (l : List α) (i : Nat) (a : α), l[i]? = some a → ((l.map C).flatten.drop (i * sz)).take sz = C a
 | [], i, a, h => by simp at h
 | b :: l, 0, a, h => by
   simp only [List.getElem?_cons_zero, Option.some.injEq] at h
   subst h
   simp only [List.map_cons, List.flatten_cons, Nat.zero_mul, List.drop_zero]
   exact List.take_left' (hC b)
 | b :: l, i + 1, a, h => by
   simp only [List.map_cons, List.flatten_cons]
   rw [show (i + 1) * sz = (C b).length + i * sz by rw [hC, Nat.add_mul]; omega, List.drop_append, List.drop_of_length_le (by omega), List.nil_append, Nat.add_sub_cancel_left]
   exact flat_at hC l i a h
theorem g0_take (k : Int) (h2 : k.toNat < 27) : ((G 0).drop (k.toNat * 6)).take 6 = (zw k).cells := by
 have h3 : shapes[k.toNat]? = some (zw k) := by
  unfold zw
  rw [List.getD_eq_getElem?_getD, List.getElem?_eq_getElem (show k.toNat < shapes.length from h2)]
  rfl
 rw [show G 0 = (shapes.map Shape.cells).flatten from rfl, flat_at shape_len shapes k.toNat (zw k) h3]
def known (k : Int) : Bool := decide (1 ≤ k) && decide (k < 27)
def jm (k : Int) : Int := if k = 2 ∨ k = 7 ∨ k = 9 then 1 else if k = 10 ∨ k = 11 ∨ k = 12 ∨ k = 13 ∨ k = 15 ∨ k = 16 then 2 else if 17 ≤ k ∧ k ≤ 26 then 3 else 0
def free (k : Int) : Bool := decide (k = 1) || decide (k = 7)
def most (k : Int) : Int := if k = 3 ∨ k = 20 then 16 else if k = 21 then 17 else 200
def opLevel (t : ByteArray) : Int := if t = ⟨#[124]⟩ then 1 else if t = ⟨#[38]⟩ then 2 else if t = ⟨#[61, 61]⟩ ∨ t = ⟨#[60]⟩ then 3 else if t = ⟨#[43]⟩ ∨ t = ⟨#[45]⟩ then 4 else if t = ⟨#[42]⟩ ∨ t = ⟨#[47]⟩ then 5 else 0
def level (n : Node) : Int := if n.kind = 25 then 6 else if n.kind = 24 then opLevel n.text else if jm n.kind = 3 then 7 else 0
def ownN (k : Int) : Int := if k = 7 ∨ k = 9 ∨ k = 10 ∨ k = 22 ∨ k = 21 then 4 else if k = 11 ∨ k = 20 then 3 else if k = 2 ∨ k = 3 ∨ k = 6 ∨ k = 8 ∨ k = 12 ∨ k = 26 then 2 else if 1 ≤ k ∧ k ≤ 26 then 1 else 0
def own (n : Node) : Int :=
 if known n.kind = false then 0
 else if n.kind = 8 then (if n.text = ⟨#[]⟩ then 0 else 2)
 else if n.kind = 14 then (if n.kids.length = 0 then 0 else 1)
 else if n.kind = 3 then IntKind.i64.wrap (2 + max 0 ((n.kids.length : Int) - 1))
 else if n.kind = 20 then IntKind.i64.wrap (3 + max 0 ((n.kids.length : Int) - 1))
 else if n.kind = 21 then IntKind.i64.wrap (4 + max 0 ((n.kids.length : Int) - 2))
 else ownN n.kind
def vy (k pos : Int) : Int × Int := if pos < (zw k).first.length then (zw k).first.getD pos.toNat (0, 0) else (zw k).rest
def fits (parent pos kid : Int) : Bool :=
 known parent && decide (0 ≤ pos) && known kid && (if (vy parent pos).2 = 0 then decide ((vy parent pos).1 = kid) else decide ((vy parent pos).2 = jm kid))
def j4 {α : Type} (p : Nat → α → Bool) : Nat → List α → Bool
 | _, [] => true
 | i, m :: l => p i m && j4 p (i + 1) l
def ut (parent : Int) (l : List Node) : Bool := j4 (fun i m => fits parent i m.kind) 0 l
def u3 (n : Node) : Bool :=
 if n.kind = 14 ∧ n.kids.length = 0 then true
 else if n.kids.length < (zw n.kind).first.length ∨ (n.kids.length > (zw n.kind).first.length ∧ (zw n.kind).rest = (0, 0)) then false
 else ut n.kind n.kids
def nodeD : Node := .mk 0 ⟨#[]⟩ [] []
def kid (n : Node) (i : Nat) : Node := n.kids.getD i nodeD
def kc (n : Node) : Bool :=
 if n.kind = 24 then !(decide (level (kid n 0) < level n) || (decide (level (kid n 0) = level n) && decide (level n = 3))) && decide (level n < level (kid n 1))
 else if n.kind = 25 then decide (6 ≤ level (kid n 0)) else if n.kind = 21 then decide (level (kid n 0) = 7) else true
def memB (v : ByteArray) (l : List ByteArray) : Bool := l.any fun w => decide (v = w)
def y5 (n : Node) : Bool := if (zw n.kind).text = 0 then decide (n.text = ⟨#[]⟩) else if (zw n.kind).text = 4 then memB n.text (zw n.kind).words else true
def yy (n : Node) : Bool :=
 if (zw n.kind).text = 2 then decide (n.text = ⟨#[]⟩) || kl n.text.data.toList else if (zw n.kind).text = 1 then kl n.text.data.toList else if (zw n.kind).text = 3 then jg n.text.data.toList else true
def vl (n : Node) : Bool := j4 (fun _ g => ye g) 0 n.gaps
def ur (n : Node) : Bool := decide (n.gaps = []) || (vl n && decide ((n.gaps.length : Int) = own n))
def yc (n : Node) : Bool := known n.kind && u3 n && y5 n && kc n
def jc (n : Node) : Int := if yc n = false then 7 else if yy n = false then 4 else if ur n = false then 7 else 0
mutual
/-- The error of the first node in preorder that has one. -/
def firstErr : Node → Int
 | .mk k t g l => if jc (.mk k t g l) = 0 then ja l else jc (.mk k t g l)
def ja : List Node → Int
 | [] => 0
 | n :: l => if firstErr n = 0 then ja l else firstErr n
end
theorem yk (n : Node) : firstErr n = if jc n = 0 then ja n.kids else jc n := by
 cases n with
 | mk k t g l => rw [firstErr]; rfl
mutual
/-- The number of nodes of a tree, if it has at most d levels and no node has more kids than it may. -/
def size? : Node → Nat → Option Nat
 | .mk k _ _ l, d => match d with
   | 0 => none
   | d + 1 => if most k < (l.length : Int) then none else (sizeL? l d).map (· + 1)
def sizeL? : List Node → Nat → Option Nat
 | [], _ => some 0
 | n :: l, d => match size? n d, sizeL? l d with
   | some a, some b => some (a + b)
   | _, _ => none
end
/-- The error of a tree. -/
def checkErr (n : Node) : Int := match size? n 60 with
 | some k => if k ≤ 4000 then firstErr n else 3
 | none => 3
/-- As trees come in: nothing is longer than memory is. -/
inductive Wf : Node → Prop
 | mk (n : Node) (hk : n.kids.length ≤ 9223372036854775807) (hg : n.gaps.length ≤ 9223372036854775807) (ht : n.text.size ≤ 9223372036854775807) (hs : ∀ g ∈ n.gaps, g.size ≤ 9223372036854775807) (h : ∀ m ∈ n.kids, Wf m) : Wf n
end Go.Proofs.YtimcdpioclioiaaGreatDoorW.Ex.Gr
