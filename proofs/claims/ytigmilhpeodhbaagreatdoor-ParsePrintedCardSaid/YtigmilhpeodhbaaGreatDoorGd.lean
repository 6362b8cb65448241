/- The grammar's functions on numbers: kinds and groups. No conditions beside those in each theorem. The grammar's functions on a node: Level, Own and Fits. No conditions beside those in each theorem. Which kind may be a kid at which position of another kind. No conditions beside those in each theorem. -/
import Derived.Test.YtigmilhpeodhbaaGreatDoorGa
namespace Go.Proofs.YtigmilhpeodhbaaGreatDoorW.Ex.Gr
open Go Go.Proofs.YtigmilhpeodhbaaGreatDoorW.Ex
set_option linter.all false
set_option maxRecDepth 100000
theorem qv5 {α : Type} (p : Nat → α → Bool) (l : List α) (C : α → List AV) (i : Nat) (hl : l.length ≤ 9223372036854775807) (hJ : i ≤ l.length ∧ Qb p 0 l = Qb p i (l.drop i)) :
 (∃ m, l[i]? = some m ∧ i < l.length ∧ decide ((i : Int) < ((l.map C).length : Int)) = true ∧ IntKind.i64.wrap ((i : Int) + 1) = (i : Int) + 1 ∧ Qb p 0 l = (p i m && Qb p (i + 1) (l.drop (i + 1)))) ∨
 (decide ((i : Int) < ((l.map C).length : Int)) = false ∧ Qb p 0 l = true) := by
 rcases Nat.lt_or_ge i l.length with h | h
 ·refine .inl ⟨l[i], List.getElem?_eq_getElem h, h, by simpa using h, wh (by omega) (by omega), ?_⟩
  rw [hJ.2, List.drop_eq_getElem_cons h]
  rfl
 refine .inr ⟨by simpa using h, ?_⟩
 rw [hJ.2, List.drop_of_length_le h]
 rfl
set_option maxHeartbeats 4000000 in
theorem wb (k : Int) : Fn Tryz.prog G 82 [.int .i64 k] (.bool (known k)) := by
 refine jk (T := tt) (N := 9) (rs := [.tmp 2]) (fun vs w => by simp) Tryz.func82 rfl rfl rfl rfl (by kernel_rfl) (jp rfl) (zh _ rfl) ?_
 repeat' first
  | refine kt env rfl ?_
  | refine qv (fun h => ?_) (fun h => ?_)
  | refine qy (fun h => ?_) (fun h => ?_)
  | refine qf (fun h => ?_) (fun h => ?_)
  | refine yx env rfl rfl (zk ?_)
  | refine jq env rfl (zk ?_)
 all_goals (first | refine qeo ?_ | refine Ya ?_)
 all_goals (simp_all [known])
 all_goals (try omega)
set_option maxHeartbeats 4000000 in
theorem J2 (k : Int) : Fn Tryz.prog G 20 [.int .i64 k] (.int .i64 (zv k)) := by
 refine jk (T := tt) (N := 21) (rs := [.tmp 2]) (fun vs w => by simp) Tryz.func20 rfl rfl rfl rfl (by kernel_rfl) (jp rfl) (zh _ rfl) ?_
 repeat' first
  | refine kt env rfl ?_
  | refine qv (fun h => ?_) (fun h => ?_)
  | refine qy (fun h => ?_) (fun h => ?_)
  | refine qf (fun h => ?_) (fun h => ?_)
  | refine yx env rfl rfl (zk ?_)
  | refine jq env rfl (zk ?_)
 all_goals (first | refine qeo ?_ | refine Ya ?_)
 all_goals (simp_all [zv])
 all_goals (try omega)
set_option maxHeartbeats 4000000 in
theorem qi8 (k : Int) : Fn Tryz.prog G 81 [.int .i64 k] (.int .i64 (most k)) := by
 refine jk (T := tt) (N := 9) (rs := [.tmp 2]) (fun vs w => by simp) Tryz.func81 rfl rfl rfl rfl (by kernel_rfl) (jp rfl) (zh _ rfl) ?_
 repeat' first
  | refine kt env rfl ?_
  | refine qv (fun h => ?_) (fun h => ?_)
  | refine qy (fun h => ?_) (fun h => ?_)
  | refine qf (fun h => ?_) (fun h => ?_)
  | refine yx env rfl rfl (zk ?_)
  | refine jq env rfl (zk ?_)
 all_goals (first | refine qeo ?_ | refine Ya ?_)
 all_goals (simp_all [most])
 all_goals (try omega)
end Go.Proofs.YtigmilhpeodhbaaGreatDoorW.Ex.Gr

namespace Go.Proofs.YtigmilhpeodhbaaGreatDoorW.Ex.Gr
open Go Go.Proofs.YtigmilhpeodhbaaGreatDoorW.Ex
set_option linter.all false
set_option maxRecDepth 100000
theorem q7k (a : Int) : (if a < 0 then 0 else a) = max 0 a := by split <;> omega
theorem q7v (k : Int) : (zv k = 3) = (17 ≤ k ∧ k ≤ 26) := by
 apply propext
 unfold zv
 split
 ·omega
 split
 ·omega
 split
 ·omega
 omega
theorem q5h : ∀ m : Nat, m < 27 → (shapes.getD m ⟨[], (0, 0), 0, [], 0⟩).own = ownN m := by decide
theorem q0s (k : Int) (h0 : 1 ≤ k) (h1 : k < 27) : (z7 k).own = ownN k := by
 have := q5h k.toNat (by omega)
 rw [show ((k.toNat : Nat) : Int) = k by omega] at this
 exact this
theorem q5i (n : Node) (h : known n.kind = false) : own n = 0 := by simp [own, h]
theorem K6 {k : Int} (h : known k = true) : 1 ≤ k ∧ k < 27 := by simpa [known] using h
set_option maxHeartbeats 4000000 in
theorem qcp (n : Node) : Fn Tryz.prog G 116 [.agg (zp n)] (.int .i64 (level n)) := by
 refine jk (T := tt) (N := 28) (rs := [.tmp 2]) (fun vs w => by simp) Tryz.func116 rfl rfl rfl rfl (by kernel_rfl) (jp rfl) (zh _ rfl) ?_
 repeat' first
  | refine kt env rfl ?_
  | refine qn (J2 _) ?_
  | refine qv (fun h => ?_) (fun h => ?_)
  | refine qy (fun h => ?_) (fun h => ?_)
  | refine qf (fun h => ?_) (fun h => ?_)
  | refine yx env rfl rfl (zk ?_)
  | refine jq env rfl (zk ?_)
 all_goals refine qeo ?_
 all_goals (simp_all [level, jx, q7v])
 all_goals (try omega)
set_option maxHeartbeats 4000000 in
theorem qve (n : Node) (hk : n.kids.length ≤ 9223372036854775807) : Fn Tryz.prog G 79 [.agg (zp n)] (.int .i64 (own n)) := by
 cases hkn : known n.kind
 ·rw [q5i n hkn]
  refine jk (T := tt) (N := 45) (rs := [.tmp 2]) (fun vs w => by simp) Tryz.func79 rfl rfl rfl rfl (by kernel_rfl) (jp rfl) (zh _ rfl) ?_
  repeat' first
   | refine kt env rfl ?_
   | (refine qp ?_ ?_; (· simp only [hkn, Bool.not_false]))
   | (refine qq ?_ ?_; (· simp only [hkn, Bool.not_false]))
   | (refine qt ?_ ?_; (· simp only [hkn, Bool.not_false]))
   | (refine qr ?_ ?_; (· simp only [hkn, Bool.not_false]))
   | (refine za ?_ ?_; (· simp only [hkn, Bool.not_false]))
   | (refine zb ?_ ?_; (· simp only [hkn, Bool.not_false]))
   | refine qn (wb _) ?_
   | refine qv (fun h => ?_) (fun h => ?_)
   | refine qy (fun h => ?_) (fun h => ?_)
   | refine qf (fun h => ?_) (fun h => ?_)
   | refine yx env rfl rfl (zk ?_)
   | refine jq env rfl (zk ?_)
  all_goals rfl
 have w1 : IntKind.i64.wrap ((n.kids.length : Int) - 1) = (n.kids.length : Int) - 1 := wh (by omega) (by omega)
 have w2 : IntKind.i64.wrap ((n.kids.length : Int) - 2) = (n.kids.length : Int) - 2 := wh (by omega) (by omega)
 have w3 : IntKind.i64.wrap ((n.kids.length : Int) - 1 - 1) = (n.kids.length : Int) - 1 - 1 := wh (by omega) (by omega)
 have kb := K6 hkn
 have h0 : 0 ≤ n.kind := by omega
 have h2 : n.kind.toNat < 27 := by omega
 have hg := qja n.kind h2
 have ho := q0s n.kind kb.1 kb.2
 refine jk (T := tt) (N := 45) (rs := [.tmp 2]) (fun vs w => by simp) Tryz.func79 rfl rfl rfl rfl (by kernel_rfl) (jp rfl) (zh _ rfl) ?_
 repeat' first
  | refine kt env rfl ?_
  | (refine qp ?_ ?_; (· simp only [hkn, Bool.not_true]))
  | (refine qq ?_ ?_; (· simp only [hkn, Bool.not_true]))
  | (refine qt ?_ ?_; (· simp only [hkn, Bool.not_true]))
  | (refine qr ?_ ?_; (· simp only [hkn, Bool.not_true]))
  | (refine za ?_ ?_; (· simp only [hkn, Bool.not_true]))
  | (refine zb ?_ ?_; (· simp only [hkn, Bool.not_true]))
  | refine qks env rfl rfl rfl rfl h0 h2 hg ?_
  | refine qn (wb _) ?_
  | refine qv (fun h => ?_) (fun h => ?_)
  | refine qy (fun h => ?_) (fun h => ?_)
  | refine qf (fun h => ?_) (fun h => ?_)
  | refine yx env rfl rfl (zk ?_)
  | refine jq env rfl (zk ?_)
 all_goals refine qeo ?_
 all_goals (try simp only [List.length_map, w1, w3])
 all_goals clear w1 w2 w3 hg h2 h0
 all_goals (simp_all [own, ownN, q7k])
 all_goals (first | done | (refine congrArg IntKind.i64.wrap (congrArg (_ + ·) ?_); split <;> omega))
end Go.Proofs.YtigmilhpeodhbaaGreatDoorW.Ex.Gr

namespace Go.Proofs.YtigmilhpeodhbaaGreatDoorW.Ex.Gr
open Go Go.Proofs.YtigmilhpeodhbaaGreatDoorW.Ex
set_option linter.all false
set_option maxRecDepth 100000
theorem qol {parent pos kid : Int} (h : known parent = false ∨ pos < 0 ∨ known kid = false) : fits parent pos kid = false := by
 rcases h with h | h | h
 ·simp [fits, h]
 ·simp [fits, show ¬ 0 ≤ pos by omega]
 simp [fits, h]
theorem q3q {s : Shape} {pos : Int} (h0 : 0 ≤ pos) (h : pos < s.first.length) : (s.first.map qqv)[pos.toNat]? = some [.int .i64 (s.first.getD pos.toNat (0, 0)).1, .int .i64 (s.first.getD pos.toNat (0, 0)).2] := by
 have : pos.toNat < s.first.length := by omega
 rw [List.getElem?_map, List.getD_eq_getElem?_getD, List.getElem?_eq_getElem this]
 rfl
set_option maxHeartbeats 4000000 in
theorem qst (parent pos kid : Int) : Fn Tryz.prog G 114 [.int .i64 parent, .int .i64 pos, .int .i64 kid] (.bool (fits parent pos kid)) := by
 cases hp : known parent
 case false =>
  rw [qol (.inl hp)]
  refine jk (T := tt) (N := 48) (rs := [.tmp 6]) (fun vs w => by simp) Tryz.func114 rfl rfl rfl rfl (by kernel_rfl) (jp rfl) (zh _ rfl) ?_
  repeat' first
   | refine kt env rfl ?_
   | (refine qp ?_ ?_; (· simp only [hp, Bool.not_true, Bool.not_false]))
   | (refine qq ?_ ?_; (· simp only [hp, Bool.not_true, Bool.not_false]))
   | (refine qt ?_ ?_; (· simp only [hp, Bool.not_true, Bool.not_false]))
   | (refine qr ?_ ?_; (· simp only [hp, Bool.not_true, Bool.not_false]))
   | (refine za ?_ ?_; (· simp only [hp, Bool.not_true, Bool.not_false]))
   | (refine zb ?_ ?_; (· simp only [hp, Bool.not_true, Bool.not_false]))
   | refine qn (wb _) ?_
   | refine qn (J2 _) ?_
   | refine qv (fun h => ?_) (fun h => ?_)
   | refine qy (fun h => ?_) (fun h => ?_)
   | refine qf (fun h => ?_) (fun h => ?_)
   | refine yx env rfl rfl (zk ?_)
   | refine jq env rfl (zk ?_)
  all_goals rfl
 cases hp0 : decide (pos < 0)
 case true =>
  rw [qol (.inr (.inl (of_decide_eq_true hp0)))]
  refine jk (T := tt) (N := 48) (rs := [.tmp 6]) (fun vs w => by simp) Tryz.func114 rfl rfl rfl rfl (by kernel_rfl) (jp rfl) (zh _ rfl) ?_
  repeat' first
   | refine kt env rfl ?_
   | (refine qp ?_ ?_; (· simp only [hp, hp0, Bool.not_true, Bool.not_false]))
   | (refine qq ?_ ?_; (· simp only [hp, hp0, Bool.not_true, Bool.not_false]))
   | (refine qt ?_ ?_; (· simp only [hp, hp0, Bool.not_true, Bool.not_false]))
   | (refine qr ?_ ?_; (· simp only [hp, hp0, Bool.not_true, Bool.not_false]))
   | (refine za ?_ ?_; (· simp only [hp, hp0, Bool.not_true, Bool.not_false]))
   | (refine zb ?_ ?_; (· simp only [hp, hp0, Bool.not_true, Bool.not_false]))
   | refine qn (wb _) ?_
   | refine qn (J2 _) ?_
   | refine qv (fun h => ?_) (fun h => ?_)
   | refine qy (fun h => ?_) (fun h => ?_)
   | refine qf (fun h => ?_) (fun h => ?_)
   | refine yx env rfl rfl (zk ?_)
   | refine jq env rfl (zk ?_)
  all_goals rfl
 cases hk : known kid
 case false =>
  rw [qol (.inr (.inr hk))]
  refine jk (T := tt) (N := 48) (rs := [.tmp 6]) (fun vs w => by simp) Tryz.func114 rfl rfl rfl rfl (by kernel_rfl) (jp rfl) (zh _ rfl) ?_
  repeat' first
   | refine kt env rfl ?_
   | (refine qp ?_ ?_; (· simp only [hp, hp0, hk, Bool.not_true, Bool.not_false]))
   | (refine qq ?_ ?_; (· simp only [hp, hp0, hk, Bool.not_true, Bool.not_false]))
   | (refine qt ?_ ?_; (· simp only [hp, hp0, hk, Bool.not_true, Bool.not_false]))
   | (refine qr ?_ ?_; (· simp only [hp, hp0, hk, Bool.not_true, Bool.not_false]))
   | (refine za ?_ ?_; (· simp only [hp, hp0, hk, Bool.not_true, Bool.not_false]))
   | (refine zb ?_ ?_; (· simp only [hp, hp0, hk, Bool.not_true, Bool.not_false]))
   | refine qn (wb _) ?_
   | refine qn (J2 _) ?_
   | refine qv (fun h => ?_) (fun h => ?_)
   | refine qy (fun h => ?_) (fun h => ?_)
   | refine qf (fun h => ?_) (fun h => ?_)
   | refine yx env rfl rfl (zk ?_)
   | refine jq env rfl (zk ?_)
  all_goals rfl
 have kb := K6 hp
 have h0 : 0 ≤ parent := by omega
 have h2 : parent.toNat < 27 := by omega
 have hg := qja parent h2
 have hq : 0 ≤ pos := by simpa using hp0
 have hfit : fits parent pos kid = (if (Zy parent pos).2 = 0 then decide ((Zy parent pos).1 = kid) else decide ((Zy parent pos).2 = zv kid)) := by simp [fits, hp, hk, hq]
 rw [hfit]
 have hpart : ∀ pos : Int, Zy parent pos = if pos < (z7 parent).first.length then (z7 parent).first.getD pos.toNat (0, 0) else (z7 parent).rest := fun _ => rfl
 rw [hpart]
 clear hpart hfit kb
 generalize z7 parent = s at *
 by_cases hl : pos < s.first.length
 case neg =>
  have hl' : decide (pos < ((s.first.map qqv).length : Int)) = false := by simpa using hl
  simp only [if_neg hl]
  refine jk (T := tt) (N := 48) (rs := [.tmp 6]) (fun vs w => by simp) Tryz.func114 rfl rfl rfl rfl (by kernel_rfl) (jp rfl) (zh _ rfl) ?_
  repeat' first
   | refine kt env rfl ?_
   | (refine qp ?_ ?_; (· simp only [hp, hp0, hk, hl', Bool.not_true, Bool.not_false]))
   | (refine qq ?_ ?_; (· simp only [hp, hp0, hk, hl', Bool.not_true, Bool.not_false]))
   | (refine qt ?_ ?_; (· simp only [hp, hp0, hk, hl', Bool.not_true, Bool.not_false]))
   | (refine qr ?_ ?_; (· simp only [hp, hp0, hk, hl', Bool.not_true, Bool.not_false]))
   | (refine za ?_ ?_; (· simp only [hp, hp0, hk, hl', Bool.not_true, Bool.not_false]))
   | (refine zb ?_ ?_; (· simp only [hp, hp0, hk, hl', Bool.not_true, Bool.not_false]))
   | refine qks env rfl rfl rfl rfl h0 h2 hg ?_
   | refine qn (wb _) ?_
   | refine qn (J2 _) ?_
   | refine qv (fun h => ?_) (fun h => ?_)
   | refine qy (fun h => ?_) (fun h => ?_)
   | refine qf (fun h => ?_) (fun h => ?_)
   | refine yx env rfl rfl (zk ?_)
   | refine jq env rfl (zk ?_)
  all_goals refine Ya ?_
  all_goals simp_all
 have hl' : decide (pos < ((s.first.map qqv).length : Int)) = true := by simpa using hl
 have hx := q3q hq hl
 simp only [if_pos hl]
 generalize s.first.getD pos.toNat (0, 0) = p at *
 refine jk (T := tt) (N := 48) (rs := [.tmp 6]) (fun vs w => by simp) Tryz.func114 rfl rfl rfl rfl (by kernel_rfl) (jp rfl) (zh _ rfl) ?_
 repeat' first
  | refine kt env rfl ?_
  | (refine qp ?_ ?_; (· simp only [hp, hp0, hk, hl', Bool.not_true, Bool.not_false]))
  | (refine qq ?_ ?_; (· simp only [hp, hp0, hk, hl', Bool.not_true, Bool.not_false]))
  | (refine qt ?_ ?_; (· simp only [hp, hp0, hk, hl', Bool.not_true, Bool.not_false]))
  | (refine qr ?_ ?_; (· simp only [hp, hp0, hk, hl', Bool.not_true, Bool.not_false]))
  | (refine za ?_ ?_; (· simp only [hp, hp0, hk, hl', Bool.not_true, Bool.not_false]))
  | (refine zb ?_ ?_; (· simp only [hp, hp0, hk, hl', Bool.not_true, Bool.not_false]))
  | refine qks env rfl rfl rfl rfl h0 h2 hg ?_
  | refine qhe env rfl rfl rfl rfl (Int.toNat_of_nonneg hq).symm hx ?_
  | refine qn (wb _) ?_
  | refine qn (J2 _) ?_
  | refine qv (fun h => ?_) (fun h => ?_)
  | refine qy (fun h => ?_) (fun h => ?_)
  | refine qf (fun h => ?_) (fun h => ?_)
  | refine yx env rfl rfl (zk ?_)
  | refine jq env rfl (zk ?_)
 all_goals refine Ya ?_
 all_goals simp_all
set_option maxHeartbeats 4000000
theorem g1 (k : Int) : (zv k = 1) = (k = 2 ∨ k = 7 ∨ k = 9) := by
 apply propext; unfold zv; (repeat' split) <;> omega
theorem g2 (k : Int) : (zv k = 2) = (k = 10 ∨ k = 11 ∨ k = 12 ∨ k = 13 ∨ k = 15 ∨ k = 16) := by
 apply propext; unfold zv; (repeat' split) <;> omega
end Go.Proofs.YtigmilhpeodhbaaGreatDoorW.Ex.Gr
