/- The grammar's functions on numbers: kinds and groups. No conditions beside those in each theorem. The grammar's functions on a node: Level, Own and Fits. No conditions beside those in each theorem. Which kind may be a kid at which position of another kind. No conditions beside those in each theorem. -/
import Derived.Test.YtigmilhpeodhbaaDoorGa
namespace Go.Proofs.YtigmilhpeodhbaaDoorW.Ex.Gr
open Go Go.Proofs.YtigmilhpeodhbaaDoorW.Ex
set_option linter.all false
set_option maxRecDepth 100000
theorem qp6 {α : Type} (p : Nat → α → Bool) (l : List α) (C : α → List AV) (i : Nat) (hl : l.length ≤ 9223372036854775807) (hJ : i ≤ l.length ∧ vd p 0 l = vd p i (l.drop i)) :
 (∃ m, l[i]? = some m ∧ i < l.length ∧ decide ((i : Int) < ((l.map C).length : Int)) = true ∧ IntKind.i64.wrap ((i : Int) + 1) = (i : Int) + 1 ∧ vd p 0 l = (p i m && vd p (i + 1) (l.drop (i + 1)))) ∨
 (decide ((i : Int) < ((l.map C).length : Int)) = false ∧ vd p 0 l = true) := by
 rcases Nat.lt_or_ge i l.length with h | h
 ·refine .inl ⟨l[i], List.getElem?_eq_getElem h, h, by simpa using h, wt (by omega) (by omega), ?_⟩
  rw [hJ.2, List.drop_eq_getElem_cons h]
  rfl
 refine .inr ⟨by simpa using h, ?_⟩
 rw [hJ.2, List.drop_of_length_le h]
 rfl
set_option maxHeartbeats 4000000 in
theorem y0 (k : Int) : Fn Tryd.prog G 53 [.int .i64 k] (.bool (known k)) := by
 refine jj (T := tt) (N := 9) (rs := [.tmp 2]) (fun vs w => by simp) Tryd.func53 rfl rfl rfl rfl (by kernel_rfl) (jb rfl) (q8 _ rfl) ?_
 repeat' first
  | refine yo env rfl ?_
  | refine qq (fun h => ?_) (fun h => ?_)
  | refine qu (fun h => ?_) (fun h => ?_)
  | refine qi (fun h => ?_) (fun h => ?_)
  | refine yc env rfl rfl (za ?_)
  | refine jc env rfl (za ?_)
 all_goals (first | refine qbj ?_ | refine Zr ?_)
 all_goals (simp_all [known])
 all_goals (try omega)
set_option maxHeartbeats 4000000 in
theorem Zi (k : Int) : Fn Tryd.prog G 74 [.int .i64 k] (.int .i64 (zy k)) := by
 refine jj (T := tt) (N := 21) (rs := [.tmp 2]) (fun vs w => by simp) Tryd.func74 rfl rfl rfl rfl (by kernel_rfl) (jb rfl) (q8 _ rfl) ?_
 repeat' first
  | refine yo env rfl ?_
  | refine qq (fun h => ?_) (fun h => ?_)
  | refine qu (fun h => ?_) (fun h => ?_)
  | refine qi (fun h => ?_) (fun h => ?_)
  | refine yc env rfl rfl (za ?_)
  | refine jc env rfl (za ?_)
 all_goals (first | refine qbj ?_ | refine Zr ?_)
 all_goals (simp_all [zy])
 all_goals (try omega)
set_option maxHeartbeats 4000000 in
theorem qfb (k : Int) : Fn Tryd.prog G 52 [.int .i64 k] (.int .i64 (most k)) := by
 refine jj (T := tt) (N := 9) (rs := [.tmp 2]) (fun vs w => by simp) Tryd.func52 rfl rfl rfl rfl (by kernel_rfl) (jb rfl) (q8 _ rfl) ?_
 repeat' first
  | refine yo env rfl ?_
  | refine qq (fun h => ?_) (fun h => ?_)
  | refine qu (fun h => ?_) (fun h => ?_)
  | refine qi (fun h => ?_) (fun h => ?_)
  | refine yc env rfl rfl (za ?_)
  | refine jc env rfl (za ?_)
 all_goals (first | refine qbj ?_ | refine Zr ?_)
 all_goals (simp_all [most])
 all_goals (try omega)
end Go.Proofs.YtigmilhpeodhbaaDoorW.Ex.Gr

namespace Go.Proofs.YtigmilhpeodhbaaDoorW.Ex.Gr
open Go Go.Proofs.YtigmilhpeodhbaaDoorW.Ex
set_option linter.all false
set_option maxRecDepth 100000
theorem q0q (a : Int) : (if a < 0 then 0 else a) = max 0 a := by split <;> omega
theorem q00 (k : Int) : (zy k = 3) = (17 ≤ k ∧ k ≤ 26) := by
 apply propext
 unfold zy
 split
 ·omega
 split
 ·omega
 split
 ·omega
 omega
theorem qyv : ∀ m : Nat, m < 27 → (shapes.getD m ⟨[], (0, 0), 0, [], 0⟩).own = ownN m := by decide
theorem quj (k : Int) (h0 : 1 ≤ k) (h1 : k < 27) : (zq k).own = ownN k := by
 have := qyv k.toNat (by omega)
 rw [show ((k.toNat : Nat) : Int) = k by omega] at this
 exact this
theorem qyw (n : Node) (h : known n.kind = false) : own n = 0 := by simp [own, h]
theorem Yd {k : Int} (h : known k = true) : 1 ≤ k ∧ k < 27 := by simpa [known] using h
set_option maxHeartbeats 4000000 in
theorem Wz (n : Node) : Fn Tryd.prog G 66 [.agg (zu n)] (.int .i64 (level n)) := by
 refine jj (T := tt) (N := 28) (rs := [.tmp 2]) (fun vs w => by simp) Tryd.func66 rfl rfl rfl rfl (by kernel_rfl) (jb rfl) (q8 _ rfl) ?_
 repeat' first
  | refine yo env rfl ?_
  | refine qr (Zi _) ?_
  | refine qq (fun h => ?_) (fun h => ?_)
  | refine qu (fun h => ?_) (fun h => ?_)
  | refine qi (fun h => ?_) (fun h => ?_)
  | refine yc env rfl rfl (za ?_)
  | refine jc env rfl (za ?_)
 all_goals refine qbj ?_
 all_goals (simp_all [level, jh, q00])
 all_goals (try omega)
set_option maxHeartbeats 4000000 in
theorem qpg (n : Node) (hk : n.kids.length ≤ 9223372036854775807) : Fn Tryd.prog G 69 [.agg (zu n)] (.int .i64 (own n)) := by
 cases hkn : known n.kind
 ·rw [qyw n hkn]
  refine jj (T := tt) (N := 45) (rs := [.tmp 2]) (fun vs w => by simp) Tryd.func69 rfl rfl rfl rfl (by kernel_rfl) (jb rfl) (q8 _ rfl) ?_
  repeat' first
   | refine yo env rfl ?_
   | (refine qk ?_ ?_; (· simp only [hkn, Bool.not_false]))
   | (refine ql ?_ ?_; (· simp only [hkn, Bool.not_false]))
   | (refine qn ?_ ?_; (· simp only [hkn, Bool.not_false]))
   | (refine qm ?_ ?_; (· simp only [hkn, Bool.not_false]))
   | (refine qx ?_ ?_; (· simp only [hkn, Bool.not_false]))
   | (refine qy ?_ ?_; (· simp only [hkn, Bool.not_false]))
   | refine qr (y0 _) ?_
   | refine qq (fun h => ?_) (fun h => ?_)
   | refine qu (fun h => ?_) (fun h => ?_)
   | refine qi (fun h => ?_) (fun h => ?_)
   | refine yc env rfl rfl (za ?_)
   | refine jc env rfl (za ?_)
  all_goals rfl
 have w1 : IntKind.i64.wrap ((n.kids.length : Int) - 1) = (n.kids.length : Int) - 1 := wt (by omega) (by omega)
 have w2 : IntKind.i64.wrap ((n.kids.length : Int) - 2) = (n.kids.length : Int) - 2 := wt (by omega) (by omega)
 have w3 : IntKind.i64.wrap ((n.kids.length : Int) - 1 - 1) = (n.kids.length : Int) - 1 - 1 := wt (by omega) (by omega)
 have kb := Yd hkn
 have h0 : 0 ≤ n.kind := by omega
 have h2 : n.kind.toNat < 27 := by omega
 have hg := qff n.kind h2
 have ho := quj n.kind kb.1 kb.2
 refine jj (T := tt) (N := 45) (rs := [.tmp 2]) (fun vs w => by simp) Tryd.func69 rfl rfl rfl rfl (by kernel_rfl) (jb rfl) (q8 _ rfl) ?_
 repeat' first
  | refine yo env rfl ?_
  | (refine qk ?_ ?_; (· simp only [hkn, Bool.not_true]))
  | (refine ql ?_ ?_; (· simp only [hkn, Bool.not_true]))
  | (refine qn ?_ ?_; (· simp only [hkn, Bool.not_true]))
  | (refine qm ?_ ?_; (· simp only [hkn, Bool.not_true]))
  | (refine qx ?_ ?_; (· simp only [hkn, Bool.not_true]))
  | (refine qy ?_ ?_; (· simp only [hkn, Bool.not_true]))
  | refine qgr env rfl rfl rfl rfl h0 h2 hg ?_
  | refine qr (y0 _) ?_
  | refine qq (fun h => ?_) (fun h => ?_)
  | refine qu (fun h => ?_) (fun h => ?_)
  | refine qi (fun h => ?_) (fun h => ?_)
  | refine yc env rfl rfl (za ?_)
  | refine jc env rfl (za ?_)
 all_goals refine qbj ?_
 all_goals (try simp only [List.length_map, w1, w3])
 all_goals clear w1 w2 w3 hg h2 h0
 all_goals (simp_all [own, ownN, q0q])
 all_goals (first | done | (refine congrArg IntKind.i64.wrap (congrArg (_ + ·) ?_); split <;> omega))
end Go.Proofs.YtigmilhpeodhbaaDoorW.Ex.Gr

namespace Go.Proofs.YtigmilhpeodhbaaDoorW.Ex.Gr
open Go Go.Proofs.YtigmilhpeodhbaaDoorW.Ex
set_option linter.all false
set_option maxRecDepth 100000
theorem qjt {parent pos kid : Int} (h : known parent = false ∨ pos < 0 ∨ known kid = false) : fits parent pos kid = false := by
 rcases h with h | h | h
 ·simp [fits, h]
 ·simp [fits, show ¬ 0 ≤ pos by omega]
 simp [fits, h]
theorem qxg {s : Shape} {pos : Int} (h0 : 0 ≤ pos) (h : pos < s.first.length) : (s.first.map qlo)[pos.toNat]? = some [.int .i64 (s.first.getD pos.toNat (0, 0)).1, .int .i64 (s.first.getD pos.toNat (0, 0)).2] := by
 have : pos.toNat < s.first.length := by omega
 rw [List.getElem?_map, List.getD_eq_getElem?_getD, List.getElem?_eq_getElem this]
 rfl
set_option maxHeartbeats 4000000 in
theorem qnc (parent pos kid : Int) : Fn Tryd.prog G 64 [.int .i64 parent, .int .i64 pos, .int .i64 kid] (.bool (fits parent pos kid)) := by
 cases hp : known parent
 case false =>
  rw [qjt (.inl hp)]
  refine jj (T := tt) (N := 48) (rs := [.tmp 6]) (fun vs w => by simp) Tryd.func64 rfl rfl rfl rfl (by kernel_rfl) (jb rfl) (q8 _ rfl) ?_
  repeat' first
   | refine yo env rfl ?_
   | (refine qk ?_ ?_; (· simp only [hp, Bool.not_true, Bool.not_false]))
   | (refine ql ?_ ?_; (· simp only [hp, Bool.not_true, Bool.not_false]))
   | (refine qn ?_ ?_; (· simp only [hp, Bool.not_true, Bool.not_false]))
   | (refine qm ?_ ?_; (· simp only [hp, Bool.not_true, Bool.not_false]))
   | (refine qx ?_ ?_; (· simp only [hp, Bool.not_true, Bool.not_false]))
   | (refine qy ?_ ?_; (· simp only [hp, Bool.not_true, Bool.not_false]))
   | refine qr (y0 _) ?_
   | refine qr (Zi _) ?_
   | refine qq (fun h => ?_) (fun h => ?_)
   | refine qu (fun h => ?_) (fun h => ?_)
   | refine qi (fun h => ?_) (fun h => ?_)
   | refine yc env rfl rfl (za ?_)
   | refine jc env rfl (za ?_)
  all_goals rfl
 cases hp0 : decide (pos < 0)
 case true =>
  rw [qjt (.inr (.inl (of_decide_eq_true hp0)))]
  refine jj (T := tt) (N := 48) (rs := [.tmp 6]) (fun vs w => by simp) Tryd.func64 rfl rfl rfl rfl (by kernel_rfl) (jb rfl) (q8 _ rfl) ?_
  repeat' first
   | refine yo env rfl ?_
   | (refine qk ?_ ?_; (· simp only [hp, hp0, Bool.not_true, Bool.not_false]))
   | (refine ql ?_ ?_; (· simp only [hp, hp0, Bool.not_true, Bool.not_false]))
   | (refine qn ?_ ?_; (· simp only [hp, hp0, Bool.not_true, Bool.not_false]))
   | (refine qm ?_ ?_; (· simp only [hp, hp0, Bool.not_true, Bool.not_false]))
   | (refine qx ?_ ?_; (· simp only [hp, hp0, Bool.not_true, Bool.not_false]))
   | (refine qy ?_ ?_; (· simp only [hp, hp0, Bool.not_true, Bool.not_false]))
   | refine qr (y0 _) ?_
   | refine qr (Zi _) ?_
   | refine qq (fun h => ?_) (fun h => ?_)
   | refine qu (fun h => ?_) (fun h => ?_)
   | refine qi (fun h => ?_) (fun h => ?_)
   | refine yc env rfl rfl (za ?_)
   | refine jc env rfl (za ?_)
  all_goals rfl
 cases hk : known kid
 case false =>
  rw [qjt (.inr (.inr hk))]
  refine jj (T := tt) (N := 48) (rs := [.tmp 6]) (fun vs w => by simp) Tryd.func64 rfl rfl rfl rfl (by kernel_rfl) (jb rfl) (q8 _ rfl) ?_
  repeat' first
   | refine yo env rfl ?_
   | (refine qk ?_ ?_; (· simp only [hp, hp0, hk, Bool.not_true, Bool.not_false]))
   | (refine ql ?_ ?_; (· simp only [hp, hp0, hk, Bool.not_true, Bool.not_false]))
   | (refine qn ?_ ?_; (· simp only [hp, hp0, hk, Bool.not_true, Bool.not_false]))
   | (refine qm ?_ ?_; (· simp only [hp, hp0, hk, Bool.not_true, Bool.not_false]))
   | (refine qx ?_ ?_; (· simp only [hp, hp0, hk, Bool.not_true, Bool.not_false]))
   | (refine qy ?_ ?_; (· simp only [hp, hp0, hk, Bool.not_true, Bool.not_false]))
   | refine qr (y0 _) ?_
   | refine qr (Zi _) ?_
   | refine qq (fun h => ?_) (fun h => ?_)
   | refine qu (fun h => ?_) (fun h => ?_)
   | refine qi (fun h => ?_) (fun h => ?_)
   | refine yc env rfl rfl (za ?_)
   | refine jc env rfl (za ?_)
  all_goals rfl
 have kb := Yd hp
 have h0 : 0 ≤ parent := by omega
 have h2 : parent.toNat < 27 := by omega
 have hg := qff parent h2
 have hq : 0 ≤ pos := by simpa using hp0
 have hfit : fits parent pos kid = (if (Qy parent pos).2 = 0 then decide ((Qy parent pos).1 = kid) else decide ((Qy parent pos).2 = zy kid)) := by simp [fits, hp, hk, hq]
 rw [hfit]
 have hpart : ∀ pos : Int, Qy parent pos = if pos < (zq parent).first.length then (zq parent).first.getD pos.toNat (0, 0) else (zq parent).rest := fun _ => rfl
 rw [hpart]
 clear hpart hfit kb
 generalize zq parent = s at *
 by_cases hl : pos < s.first.length
 case neg =>
  have hl' : decide (pos < ((s.first.map qlo).length : Int)) = false := by simpa using hl
  simp only [if_neg hl]
  refine jj (T := tt) (N := 48) (rs := [.tmp 6]) (fun vs w => by simp) Tryd.func64 rfl rfl rfl rfl (by kernel_rfl) (jb rfl) (q8 _ rfl) ?_
  repeat' first
   | refine yo env rfl ?_
   | (refine qk ?_ ?_; (· simp only [hp, hp0, hk, hl', Bool.not_true, Bool.not_false]))
   | (refine ql ?_ ?_; (· simp only [hp, hp0, hk, hl', Bool.not_true, Bool.not_false]))
   | (refine qn ?_ ?_; (· simp only [hp, hp0, hk, hl', Bool.not_true, Bool.not_false]))
   | (refine qm ?_ ?_; (· simp only [hp, hp0, hk, hl', Bool.not_true, Bool.not_false]))
   | (refine qx ?_ ?_; (· simp only [hp, hp0, hk, hl', Bool.not_true, Bool.not_false]))
   | (refine qy ?_ ?_; (· simp only [hp, hp0, hk, hl', Bool.not_true, Bool.not_false]))
   | refine qgr env rfl rfl rfl rfl h0 h2 hg ?_
   | refine qr (y0 _) ?_
   | refine qr (Zi _) ?_
   | refine qq (fun h => ?_) (fun h => ?_)
   | refine qu (fun h => ?_) (fun h => ?_)
   | refine qi (fun h => ?_) (fun h => ?_)
   | refine yc env rfl rfl (za ?_)
   | refine jc env rfl (za ?_)
  all_goals refine Zr ?_
  all_goals simp_all
 have hl' : decide (pos < ((s.first.map qlo).length : Int)) = true := by simpa using hl
 have hx := qxg hq hl
 simp only [if_pos hl]
 generalize s.first.getD pos.toNat (0, 0) = p at *
 refine jj (T := tt) (N := 48) (rs := [.tmp 6]) (fun vs w => by simp) Tryd.func64 rfl rfl rfl rfl (by kernel_rfl) (jb rfl) (q8 _ rfl) ?_
 repeat' first
  | refine yo env rfl ?_
  | (refine qk ?_ ?_; (· simp only [hp, hp0, hk, hl', Bool.not_true, Bool.not_false]))
  | (refine ql ?_ ?_; (· simp only [hp, hp0, hk, hl', Bool.not_true, Bool.not_false]))
  | (refine qn ?_ ?_; (· simp only [hp, hp0, hk, hl', Bool.not_true, Bool.not_false]))
  | (refine qm ?_ ?_; (· simp only [hp, hp0, hk, hl', Bool.not_true, Bool.not_false]))
  | (refine qx ?_ ?_; (· simp only [hp, hp0, hk, hl', Bool.not_true, Bool.not_false]))
  | (refine qy ?_ ?_; (· simp only [hp, hp0, hk, hl', Bool.not_true, Bool.not_false]))
  | refine qgr env rfl rfl rfl rfl h0 h2 hg ?_
  | refine qdq env rfl rfl rfl rfl (Int.toNat_of_nonneg hq).symm hx ?_
  | refine qr (y0 _) ?_
  | refine qr (Zi _) ?_
  | refine qq (fun h => ?_) (fun h => ?_)
  | refine qu (fun h => ?_) (fun h => ?_)
  | refine qi (fun h => ?_) (fun h => ?_)
  | refine yc env rfl rfl (za ?_)
  | refine jc env rfl (za ?_)
 all_goals refine Zr ?_
 all_goals simp_all
set_option maxHeartbeats 4000000
theorem g1 (k : Int) : (zy k = 1) = (k = 2 ∨ k = 7 ∨ k = 9) := by
 apply propext; unfold zy; (repeat' split) <;> omega
theorem g2 (k : Int) : (zy k = 2) = (k = 10 ∨ k = 11 ∨ k = 12 ∨ k = 13 ∨ k = 15 ∨ k = 16) := by
 apply propext; unfold zy; (repeat' split) <;> omega
end Go.Proofs.YtigmilhpeodhbaaDoorW.Ex.Gr
