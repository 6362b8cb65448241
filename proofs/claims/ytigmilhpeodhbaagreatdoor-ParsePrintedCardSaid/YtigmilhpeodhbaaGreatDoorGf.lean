/- A node's kids. No conditions beside those in each theorem. Whole trees: the program's first, within and Check. Conditions: those of the trees that come in (Wf). -/
import Derived.Test.YtigmilhpeodhbaaGreatDoorGd
namespace Go.Proofs.YtigmilhpeodhbaaGreatDoorW.Ex.Gr
open Go Go.Proofs.YtigmilhpeodhbaaGreatDoorW.Ex
set_option linter.all false
set_option maxRecDepth 100000
set_option maxHeartbeats 4000000 in
theorem Ym (n : Node) (hkn : known n.kind = true) (hk : n.kids.length ≤ 9223372036854775807) : Fn Tryz.prog G 83 [.agg (zp n)] (.bool (Ja n)) := by
 have kb := K6 hkn
 have h0 : 0 ≤ n.kind := by omega
 have h2 : n.kind.toNat < 27 := by omega
 have hg := qja n.kind h2
 refine jk (T := tt) (N := 57) (rs := [.tmp 2]) (fun vs w => by simp) Tryz.func83 rfl rfl rfl rfl (by kernel_rfl) (jp rfl) (zh _ rfl) ?_
 repeat' first
  | refine kt env rfl ?_
  | refine qks env rfl rfl rfl rfl h0 h2 hg ?_
  | (refine qg0 (α := Nat) (fun i => i ≤ (n.kids).length ∧ Qb (fun i m => fits n.kind i m.kind) 0 (n.kids) = Qb (fun i m => fits n.kind i m.kind) i ((n.kids).drop i)) (fun i => (n.kids).length - i) (fun i => [(44, .int .i64 i)]) (fun _ => []) (0) (fun _ => rfl) (fun _ => rfl) (⟨Nat.zero_le _, rfl⟩) ?_ ?_ (fun i hJ => ?_); (· simp [leFT, leV, leOs, leO, leC, rho, AV.ren, AV.ren1, AV.un, AV.un1, AV.closed]); (· simp [leFT, leV, leOs, leO, leC, rho, AV.ren, AV.ren1, AV.un, AV.un1, AV.closed]); rcases qv5 (fun i m => fits n.kind i m.kind) (n.kids) (Node.cells) i hk hJ with ⟨m, hm, hlt, hb, hw, he⟩ | ⟨hb, he⟩)
  | refine qgz rfl ?_
  | refine qdo rfl rfl ?_
  | (refine qew (i + 1) ?_ ?_ ?_ ?_; (· exact ⟨by omega, by simp_all⟩); (· omega); (· simp [leFT, leV, leOs, leO, leC, rho, AV.ren, AV.ren1, AV.un, AV.un1, AV.closed, hw]); (· simp [leFT, leV, leOs, leO, leC, rho, AV.ren, AV.ren1, AV.un, AV.un1, AV.closed]))
  | (refine qp ?_ ?_; (· simp only [hb]))
  | (refine qq ?_ ?_; (· simp only [hb]))
  | (refine qt ?_ ?_; (· simp only [hb]))
  | (refine qr ?_ ?_; (· simp only [hb]))
  | (refine za ?_ ?_; (· simp only [hb]))
  | (refine zb ?_ ?_; (· simp only [hb]))
  | refine qhe env rfl rfl rfl rfl rfl (qkg hm) ?_
  | refine qn (qst _ _ _) ?_
  | refine qv (fun h => ?_) (fun h => ?_)
  | refine qy (fun h => ?_) (fun h => ?_)
  | refine qf (fun h => ?_) (fun h => ?_)
  | refine yx env rfl rfl (zk ?_)
  | refine jq env rfl (zk ?_)
 all_goals refine Ya ?_
 all_goals simp_all [Ja, qdc, Prod.ext_iff]
 all_goals omega
def Jn (v : ByteArray) : Nat → List ByteArray → Int
 | _, [] => -1
 | i, w :: l => if v = w then i else Jn v (i + 1) l
theorem qy7 (v : ByteArray) : ∀ (l : List ByteArray) (i : Nat), decide (0 ≤ Jn v i l) = memB v l
 | [], i => by simp [Jn, memB]
 | w :: l, i => by
   simp only [Jn]
   split
   ·rename_i h; subst h; simp [memB]
   rename_i h; rw [qy7 v l (i + 1)]; simp [memB, h]
theorem q3g (v : ByteArray) (l : List ByteArray) (i : Nat) (hl : l.length ≤ 9223372036854775807) (hJ : i ≤ l.length ∧ Jn v 0 l = Jn v i (l.drop i)) :
 (∃ m, (l.map sc)[i]? = some [.str m] ∧ i < l.length ∧ decide ((i : Int) < ((l.map sc).length : Int)) = true ∧ IntKind.i64.wrap ((i : Int) + 1) = ((i + 1 : Nat) : Int) ∧
   ((decide (v = m) = true ∧ Jn v 0 l = i) ∨ (decide (v = m) = false ∧ Jn v 0 l = Jn v (i + 1) (l.drop (i + 1))))) ∨
 (decide ((i : Int) < ((l.map sc).length : Int)) = false ∧ Jn v 0 l = -1) := by
 rcases Nat.lt_or_ge i l.length with h | h
 ·refine .inl ⟨l[i], by rw [List.getElem?_map, List.getElem?_eq_getElem h]; rfl, h, by simpa using h, wh (by omega) (by omega), ?_⟩
  have e : Jn v i (l.drop i) = if v = l[i] then (i : Int) else Jn v (i + 1) (l.drop (i + 1)) := by rw [List.drop_eq_getElem_cons h]; rfl
  rw [hJ.2, e]
  by_cases hv : v = l[i]
  ·exact .inl ⟨decide_eq_true hv, if_pos hv⟩
  exact .inr ⟨decide_eq_false hv, if_neg hv⟩
 refine .inr ⟨by simpa using h, ?_⟩
 rw [hJ.2, List.drop_of_length_le h]; rfl
set_option maxHeartbeats 4000000 in
theorem qrx (l : List ByteArray) (v : ByteArray) (hl : l.length ≤ 9223372036854775807) : Fn Tryz.prog G 141 [.sl 1 false (l.map sc), .str v] (.int .i64 (Jn v 0 l)) := by
 refine jk (T := tt) (N := 19) (rs := [.tmp 4]) (fun vs w => by simp) Tryz.func141 rfl rfl rfl rfl (by kernel_rfl) (jp rfl) (zh _ rfl) ?_
 repeat' first
  | refine kt env rfl ?_
  | (refine qg0 (α := Nat) (fun i => i ≤ l.length ∧ Jn v 0 l = Jn v i (l.drop i)) (fun i => l.length - i) (fun i => [(8, .int .i64 i)]) (fun _ => []) (0) (fun _ => rfl) (fun _ => rfl) (⟨Nat.zero_le _, rfl⟩) ?_ ?_ (fun i hJ => ?_); (· simp [leFT, leV, leOs, leO, leC, rho, AV.ren, AV.ren1, AV.un, AV.un1, AV.closed]); (· simp [leFT, leV, leOs, leO, leC, rho, AV.ren, AV.ren1, AV.un, AV.un1, AV.closed]); rcases q3g v l i hl hJ with ⟨m, hm, hlt, hb, hw, ⟨g1, he⟩ | ⟨g1, he⟩⟩ | ⟨hb, he⟩)
  | refine qgz rfl ?_
  | refine qdo rfl rfl ?_
  | (refine qew (i + 1) ?_ ?_ ?_ ?_; (· exact ⟨by omega, he⟩); (· omega); (· (simp only [hw]; simp [leFT, leV, leOs, leO, leC, rho, AV.ren, AV.ren1, AV.un, AV.un1, AV.closed])); (· simp [leFT, leV, leOs, leO, leC, rho, AV.ren, AV.ren1, AV.un, AV.un1, AV.closed]))
  | (refine qp ?_ ?_; (· simp only [hb]))
  | (refine qq ?_ ?_; (· simp only [hb]))
  | (refine qt ?_ ?_; (· simp only [hb]))
  | (refine qr ?_ ?_; (· simp only [hb]))
  | (refine za ?_ ?_; (· simp only [hb]))
  | (refine zb ?_ ?_; (· simp only [hb]))
  | (refine qp ?_ ?_; (· simp only [g1]))
  | (refine qq ?_ ?_; (· simp only [g1]))
  | (refine qt ?_ ?_; (· simp only [g1]))
  | (refine qr ?_ ?_; (· simp only [g1]))
  | (refine za ?_ ?_; (· simp only [g1]))
  | (refine zb ?_ ?_; (· simp only [g1]))
  | refine qhe env rfl rfl rfl rfl rfl hm ?_
  | refine qv (fun h => ?_) (fun h => ?_)
  | refine qy (fun h => ?_) (fun h => ?_)
  | refine qf (fun h => ?_) (fun h => ?_)
  | refine yx env rfl rfl (zk ?_)
  | refine jq env rfl (zk ?_)
 all_goals refine qeo ?_
 all_goals simp only [he]
set_option maxHeartbeats 4000000 in
theorem ql0 (l : List ByteArray) (v : ByteArray) (hl : l.length ≤ 9223372036854775807) : Fn Tryz.prog G 115 [.sl 1 false (l.map sc), .str v] (.bool (memB v l)) := by
 refine jk (T := tt) (N := 9) (rs := [.tmp 4]) (fun vs w => by simp) Tryz.func115 rfl rfl rfl rfl (by kernel_rfl) (jp rfl) (zh _ rfl) ?_
 repeat' first
  | refine kt env rfl ?_
  | refine qn (qrx _ _ hl) ?_
  | refine qv (fun h => ?_) (fun h => ?_)
  | refine qy (fun h => ?_) (fun h => ?_)
  | refine qf (fun h => ?_) (fun h => ?_)
  | refine yx env rfl rfl (zk ?_)
  | refine jq env rfl (zk ?_)
 all_goals refine Ya ?_
 all_goals exact qy7 v l 0
theorem q0a : ∀ k : Nat, k < 27 → (shapes.getD k ⟨[], (0, 0), 0, [], 0⟩).words.length ≤ 8 := by decide
set_option maxHeartbeats 4000000 in
theorem Jy (n : Node) (hkn : known n.kind = true) : Fn Tryz.prog G 84 [.agg (zp n)] (.bool (spelledOk n)) := by
 have kb := K6 hkn
 have h0 : 0 ≤ n.kind := by omega
 have h2 : n.kind.toNat < 27 := by omega
 have hg := qja n.kind h2
 have hw : (z7 n.kind).words.length ≤ 9223372036854775807 := Nat.le_trans (q0a n.kind.toNat h2) (by decide)
 refine jk (T := tt) (N := 22) (rs := [.tmp 2]) (fun vs w => by simp) Tryz.func84 rfl rfl rfl rfl (by kernel_rfl) (jp rfl) (zh _ rfl) ?_
 repeat' first
  | refine kt env rfl ?_
  | refine qks env rfl rfl rfl rfl h0 h2 hg ?_
  | refine qn (ql0 _ _ hw) ?_
  | refine qv (fun h => ?_) (fun h => ?_)
  | refine qy (fun h => ?_) (fun h => ?_)
  | refine qf (fun h => ?_) (fun h => ?_)
  | refine yx env rfl rfl (zk ?_)
  | refine jq env rfl (zk ?_)
 all_goals refine Ya ?_
 all_goals simp_all [spelledOk]
set_option maxHeartbeats 4000000 in
theorem qbq (n : Node) (hkn : known n.kind = true) : Fn Tryz.prog G 86 [.agg (zp n)] (.bool (calledOk n)) := by
 have kb := K6 hkn
 have h0 : 0 ≤ n.kind := by omega
 have h2 : n.kind.toNat < 27 := by omega
 have hg := qja n.kind h2
 refine jk (T := tt) (N := 23) (rs := [.tmp 2]) (fun vs w => by simp) Tryz.func86 rfl rfl rfl rfl (by kernel_rfl) (jp rfl) (zh _ rfl) ?_
 repeat' first
  | refine kt env rfl ?_
  | refine qks env rfl rfl rfl rfl h0 h2 hg ?_
  | refine qn (qn0 _) ?_
  | refine qn (ql2 _) ?_
  | refine qv (fun h => ?_) (fun h => ?_)
  | refine qy (fun h => ?_) (fun h => ?_)
  | refine qf (fun h => ?_) (fun h => ?_)
  | refine yx env rfl rfl (zk ?_)
  | refine jq env rfl (zk ?_)
 all_goals refine Ya ?_
 all_goals simp_all [calledOk]
theorem q03 : ∀ k : Nat, k < 27 → (k = 24 → (shapes.getD k ⟨[], (0, 0), 0, [], 0⟩).first.length = 2) ∧ (k = 25 ∨ k = 21 → (shapes.getD k ⟨[], (0, 0), 0, [], 0⟩).first.length = 1) := by decide
theorem qem (n : Node) (h : Ja n = true) (hkn : known n.kind = true) : (n.kind = 24 → ∃ a b, n.kids[0]? = some a ∧ n.kids[1]? = some b ∧ kid n 0 = a ∧ kid n 1 = b) ∧ (n.kind = 25 ∨ n.kind = 21 → ∃ a, n.kids[0]? = some a ∧ kid n 0 = a) := by
 have kb := K6 hkn
 have hf := q03 n.kind.toNat (by omega)
 have hk : n.kind ≠ 14 → (z7 n.kind).first.length ≤ n.kids.length := by
  intro hne
  unfold Ja at h
  rw [if_neg (by omega)] at h
  split at h
  ·cases h
  omega
 have hs : (z7 n.kind).first = (shapes.getD n.kind.toNat ⟨[], (0, 0), 0, [], 0⟩).first := rfl
 constructor
 ·intro hk24
  have h2 := hk (by omega)
  rw [hs, hf.1 (by omega)] at h2
  refine ⟨n.kids[0], n.kids[1], List.getElem?_eq_getElem (by omega), List.getElem?_eq_getElem (by omega), ?_, ?_⟩
  ·unfold kid; rw [List.getD_eq_getElem?_getD, List.getElem?_eq_getElem (by omega)]; rfl
  unfold kid; rw [List.getD_eq_getElem?_getD, List.getElem?_eq_getElem (by omega)]; rfl
 intro hk2
 have h2 := hk (by omega)
 rw [hs, hf.2 (by omega)] at h2
 refine ⟨n.kids[0], List.getElem?_eq_getElem (by omega), ?_⟩
 unfold kid; rw [List.getD_eq_getElem?_getD, List.getElem?_eq_getElem (by omega)]; rfl
set_option maxHeartbeats 4000000 in
theorem K7 (n : Node) (hk0 : (n.kind = 24 → ∃ a b, n.kids[0]? = some a ∧ n.kids[1]? = some b ∧ kid n 0 = a ∧ kid n 1 = b) ∧ (n.kind = 25 ∨ n.kind = 21 → ∃ a, n.kids[0]? = some a ∧ kid n 0 = a)) : Fn Tryz.prog G 85 [.agg (zp n)] (.bool (levelsOk n)) := by
 by_cases hb : n.kind = 24
 case pos =>
  obtain ⟨a, b, ha, hb2, ea, eb⟩ := hk0.1 hb
  have d1 : decide (n.kind = 24) = true := decide_eq_true hb
  refine jk (T := tt) (N := 51) (rs := [.tmp 2]) (fun vs w => by simp) Tryz.func85 rfl rfl rfl rfl (by kernel_rfl) (jp rfl) (zh _ rfl) ?_
  repeat' first
   | refine kt env rfl ?_
   | (refine qp ?_ ?_; (· simp only [d1]))
   | (refine qq ?_ ?_; (· simp only [d1]))
   | (refine qt ?_ ?_; (· simp only [d1]))
   | (refine qr ?_ ?_; (· simp only [d1]))
   | (refine za ?_ ?_; (· simp only [d1]))
   | (refine zb ?_ ?_; (· simp only [d1]))
   | refine qhe env rfl rfl rfl rfl (m := 0) rfl (qkg ha) ?_
   | refine qhe env rfl rfl rfl rfl (m := 1) rfl (qkg hb2) ?_
   | refine qn (qcp _) ?_
   | refine qv (fun h => ?_) (fun h => ?_)
   | refine qy (fun h => ?_) (fun h => ?_)
   | refine qf (fun h => ?_) (fun h => ?_)
   | refine yx env rfl rfl (zk ?_)
   | refine jq env rfl (zk ?_)
  all_goals refine Ya ?_
  all_goals (simp_all [levelsOk])
  all_goals (try omega)
 have d1 : decide (n.kind = 24) = false := decide_eq_false hb
 by_cases hu : n.kind = 25 ∨ n.kind = 21
 case pos =>
  obtain ⟨a, ha, ea⟩ := hk0.2 hu
  refine jk (T := tt) (N := 51) (rs := [.tmp 2]) (fun vs w => by simp) Tryz.func85 rfl rfl rfl rfl (by kernel_rfl) (jp rfl) (zh _ rfl) ?_
  repeat' first
   | refine kt env rfl ?_
   | (refine qp ?_ ?_; (· simp only [d1]))
   | (refine qq ?_ ?_; (· simp only [d1]))
   | (refine qt ?_ ?_; (· simp only [d1]))
   | (refine qr ?_ ?_; (· simp only [d1]))
   | (refine za ?_ ?_; (· simp only [d1]))
   | (refine zb ?_ ?_; (· simp only [d1]))
   | refine qhe env rfl rfl rfl rfl (m := 0) rfl (qkg ha) ?_
   | refine qn (qcp _) ?_
   | refine qv (fun h => ?_) (fun h => ?_)
   | refine qy (fun h => ?_) (fun h => ?_)
   | refine qf (fun h => ?_) (fun h => ?_)
   | refine yx env rfl rfl (zk ?_)
   | refine jq env rfl (zk ?_)
  all_goals refine Ya ?_
  all_goals (simp_all [levelsOk])
  all_goals (try omega)
 have d2 : decide (n.kind = 25) = false := decide_eq_false (fun e => hu (.inl e))
 have d3 : decide (n.kind = 21) = false := decide_eq_false (fun e => hu (.inr e))
 refine jk (T := tt) (N := 51) (rs := [.tmp 2]) (fun vs w => by simp) Tryz.func85 rfl rfl rfl rfl (by kernel_rfl) (jp rfl) (zh _ rfl) ?_
 repeat' first
  | refine kt env rfl ?_
  | (refine qp ?_ ?_; (· simp only [d1]))
  | (refine qq ?_ ?_; (· simp only [d1]))
  | (refine qt ?_ ?_; (· simp only [d1]))
  | (refine qr ?_ ?_; (· simp only [d1]))
  | (refine za ?_ ?_; (· simp only [d1]))
  | (refine zb ?_ ?_; (· simp only [d1]))
  | (refine qp ?_ ?_; (· simp only [d2]))
  | (refine qq ?_ ?_; (· simp only [d2]))
  | (refine qt ?_ ?_; (· simp only [d2]))
  | (refine qr ?_ ?_; (· simp only [d2]))
  | (refine za ?_ ?_; (· simp only [d2]))
  | (refine zb ?_ ?_; (· simp only [d2]))
  | (refine qp ?_ ?_; (· simp only [d3]))
  | (refine qq ?_ ?_; (· simp only [d3]))
  | (refine qt ?_ ?_; (· simp only [d3]))
  | (refine qr ?_ ?_; (· simp only [d3]))
  | (refine za ?_ ?_; (· simp only [d3]))
  | (refine zb ?_ ?_; (· simp only [d3]))
  | refine qn (qcp _) ?_
  | refine qv (fun h => ?_) (fun h => ?_)
  | refine qy (fun h => ?_) (fun h => ?_)
  | refine qf (fun h => ?_) (fun h => ?_)
  | refine yx env rfl rfl (zk ?_)
  | refine jq env rfl (zk ?_)
 all_goals refine Ya ?_
 all_goals (simp_all [levelsOk])
theorem q5x {l : List ByteArray} {i : Nat} {g : ByteArray} (h : l[i]? = some g) : g ∈ l := List.mem_of_getElem? h
set_option maxHeartbeats 4000000 in
theorem qi9 (n : Node) (hk : n.gaps.length ≤ 9223372036854775807) (hkk : n.kids.length ≤ 9223372036854775807) (hs : ∀ g ∈ n.gaps, g.size ≤ 9223372036854775807) : Fn Tryz.prog G 87 [.agg (zp n)] (.bool (qeq n)) := by
 refine jk (T := tt) (N := 26) (rs := [.tmp 2]) (fun vs w => by simp) Tryz.func87 rfl rfl rfl rfl (by kernel_rfl) (jp rfl) (zh _ rfl) ?_
 repeat' first
  | refine kt env rfl ?_
  | (refine qg0 (α := Nat) (fun i => i ≤ (n.gaps).length ∧ Qb (fun _ g => trivValid g) 0 (n.gaps) = Qb (fun _ g => trivValid g) i ((n.gaps).drop i)) (fun i => (n.gaps).length - i) (fun i => [(12, .int .i64 i)]) (fun _ => []) (0) (fun _ => rfl) (fun _ => rfl) (⟨Nat.zero_le _, rfl⟩) ?_ ?_ (fun i hJ => ?_); (· simp [leFT, leV, leOs, leO, leC, rho, AV.ren, AV.ren1, AV.un, AV.un1, AV.closed]); (· simp [leFT, leV, leOs, leO, leC, rho, AV.ren, AV.ren1, AV.un, AV.un1, AV.closed]); rcases qv5 (fun _ g => trivValid g) (n.gaps) (sc) i hk hJ with ⟨m, hm, hlt, hb, hw, he⟩ | ⟨hb, he⟩)
  | refine qgz rfl ?_
  | refine qdo rfl rfl ?_
  | (refine qew (i + 1) ?_ ?_ ?_ ?_; (· exact ⟨by omega, by simp_all⟩); (· omega); (· simp [leFT, leV, leOs, leO, leC, rho, AV.ren, AV.ren1, AV.un, AV.un1, AV.closed, hw]); (· simp [leFT, leV, leOs, leO, leC, rho, AV.ren, AV.ren1, AV.un, AV.un1, AV.closed]))
  | (refine qp ?_ ?_; (· simp only [hb]))
  | (refine qq ?_ ?_; (· simp only [hb]))
  | (refine qt ?_ ?_; (· simp only [hb]))
  | (refine qr ?_ ?_; (· simp only [hb]))
  | (refine za ?_ ?_; (· simp only [hb]))
  | (refine zb ?_ ?_; (· simp only [hb]))
  | refine qhe env rfl rfl rfl rfl rfl (q7w hm) ?_
  | refine qn (qrr _ (hs _ (q5x hm))) ?_
  | refine qn (qve _ hkk) ?_
  | refine qv (fun h => ?_) (fun h => ?_)
  | refine qy (fun h => ?_) (fun h => ?_)
  | refine qf (fun h => ?_) (fun h => ?_)
  | refine yx env rfl rfl (zk ?_)
  | refine jq env rfl (zk ?_)
 all_goals refine Ya ?_
 all_goals simp_all [qeq, qsx]
end Go.Proofs.YtigmilhpeodhbaaGreatDoorW.Ex.Gr

namespace Go.Proofs.YtigmilhpeodhbaaGreatDoorW.Ex.Gr
open Go Go.Proofs.YtigmilhpeodhbaaGreatDoorW.Ex
set_option linter.all false
set_option maxRecDepth 100000
theorem qxd (l : List Node) (i : Nat) (hl : l.length ≤ 9223372036854775807) (hJ : i ≤ l.length ∧ we l = we (l.drop i)) :
 (∃ m, l[i]? = some m ∧ m ∈ l ∧ i < l.length ∧ decide ((i : Int) < ((l.map Node.cells).length : Int)) = true ∧ IntKind.i64.wrap ((i : Int) + 1) = ((i + 1 : Nat) : Int) ∧
   ((decide (firstErr m = 0) = true ∧ we l = we (l.drop (i + 1))) ∨ (decide (firstErr m = 0) = false ∧ we l = firstErr m))) ∨
 (decide ((i : Int) < ((l.map Node.cells).length : Int)) = false ∧ we l = 0) := by
 rcases Nat.lt_or_ge i l.length with h | h
 ·refine .inl ⟨l[i], List.getElem?_eq_getElem h, List.getElem_mem h, h, by simpa using h, wh (by omega) (by omega), ?_⟩
  have e : we (l.drop i) = if firstErr l[i] = 0 then we (l.drop (i + 1)) else firstErr l[i] := by rw [List.drop_eq_getElem_cons h, we]
  rw [hJ.2, e]
  by_cases hv : firstErr l[i] = 0
  ·exact .inl ⟨decide_eq_true hv, if_pos hv⟩
  exact .inr ⟨decide_eq_false hv, if_neg hv⟩
 refine .inr ⟨by simpa using h, ?_⟩
 rw [hJ.2, List.drop_of_length_le h, we]
set_option maxHeartbeats 4000000 in
theorem qp0 : ∀ n : Node, Wf n → Fn Tryz.prog G 40 [.agg (zp n)] (.int .i64 (firstErr n)) := by
 intro n hwf
 induction hwf with | mk n hk hg ht hs _ ih => ?_
 cases k0 : known n.kind
 case false =>
  have e : vf n = 7 := by simp [vf, K2, k0]
  rw [Jl, e]
  refine jk (T := tt) (N := 44) (rs := [.tmp 2]) (fun vs w => by simp) Tryz.func40 rfl rfl rfl rfl (by kernel_rfl) (jp rfl) (zh _ rfl) ?_
  repeat' first
   | refine kt env rfl ?_
   | (refine qp ?_ ?_; (· simp only [k0, Bool.not_true, Bool.not_false]))
   | (refine qq ?_ ?_; (· simp only [k0, Bool.not_true, Bool.not_false]))
   | (refine qt ?_ ?_; (· simp only [k0, Bool.not_true, Bool.not_false]))
   | (refine qr ?_ ?_; (· simp only [k0, Bool.not_true, Bool.not_false]))
   | (refine za ?_ ?_; (· simp only [k0, Bool.not_true, Bool.not_false]))
   | (refine zb ?_ ?_; (· simp only [k0, Bool.not_true, Bool.not_false]))
   | refine qn (wb _) ?_
   | refine qv (fun h => ?_) (fun h => ?_)
   | refine qy (fun h => ?_) (fun h => ?_)
   | refine qf (fun h => ?_) (fun h => ?_)
   | refine yx env rfl rfl (zk ?_)
   | refine jq env rfl (zk ?_)
  all_goals rfl
 cases k1 : Ja n
 case false =>
  have e : vf n = 7 := by simp [vf, K2, k0, k1]
  rw [Jl, e]
  refine jk (T := tt) (N := 44) (rs := [.tmp 2]) (fun vs w => by simp) Tryz.func40 rfl rfl rfl rfl (by kernel_rfl) (jp rfl) (zh _ rfl) ?_
  repeat' first
   | refine kt env rfl ?_
   | (refine qp ?_ ?_; (· simp only [k0, Bool.not_true, Bool.not_false]))
   | (refine qq ?_ ?_; (· simp only [k0, Bool.not_true, Bool.not_false]))
   | (refine qt ?_ ?_; (· simp only [k0, Bool.not_true, Bool.not_false]))
   | (refine qr ?_ ?_; (· simp only [k0, Bool.not_true, Bool.not_false]))
   | (refine za ?_ ?_; (· simp only [k0, Bool.not_true, Bool.not_false]))
   | (refine zb ?_ ?_; (· simp only [k0, Bool.not_true, Bool.not_false]))
   | (refine qp ?_ ?_; (· simp only [k1, Bool.not_true, Bool.not_false]))
   | (refine qq ?_ ?_; (· simp only [k1, Bool.not_true, Bool.not_false]))
   | (refine qt ?_ ?_; (· simp only [k1, Bool.not_true, Bool.not_false]))
   | (refine qr ?_ ?_; (· simp only [k1, Bool.not_true, Bool.not_false]))
   | (refine za ?_ ?_; (· simp only [k1, Bool.not_true, Bool.not_false]))
   | (refine zb ?_ ?_; (· simp only [k1, Bool.not_true, Bool.not_false]))
   | refine qn (wb _) ?_
   | refine qn (Ym n k0 hk) ?_
   | refine qv (fun h => ?_) (fun h => ?_)
   | refine qy (fun h => ?_) (fun h => ?_)
   | refine qf (fun h => ?_) (fun h => ?_)
   | refine yx env rfl rfl (zk ?_)
   | refine jq env rfl (zk ?_)
  all_goals rfl
 cases k2 : spelledOk n
 case false =>
  have e : vf n = 7 := by simp [vf, K2, k0, k1, k2]
  rw [Jl, e]
  refine jk (T := tt) (N := 44) (rs := [.tmp 2]) (fun vs w => by simp) Tryz.func40 rfl rfl rfl rfl (by kernel_rfl) (jp rfl) (zh _ rfl) ?_
  repeat' first
   | refine kt env rfl ?_
   | (refine qp ?_ ?_; (· simp only [k0, Bool.not_true, Bool.not_false]))
   | (refine qq ?_ ?_; (· simp only [k0, Bool.not_true, Bool.not_false]))
   | (refine qt ?_ ?_; (· simp only [k0, Bool.not_true, Bool.not_false]))
   | (refine qr ?_ ?_; (· simp only [k0, Bool.not_true, Bool.not_false]))
   | (refine za ?_ ?_; (· simp only [k0, Bool.not_true, Bool.not_false]))
   | (refine zb ?_ ?_; (· simp only [k0, Bool.not_true, Bool.not_false]))
   | (refine qp ?_ ?_; (· simp only [k1, Bool.not_true, Bool.not_false]))
   | (refine qq ?_ ?_; (· simp only [k1, Bool.not_true, Bool.not_false]))
   | (refine qt ?_ ?_; (· simp only [k1, Bool.not_true, Bool.not_false]))
   | (refine qr ?_ ?_; (· simp only [k1, Bool.not_true, Bool.not_false]))
   | (refine za ?_ ?_; (· simp only [k1, Bool.not_true, Bool.not_false]))
   | (refine zb ?_ ?_; (· simp only [k1, Bool.not_true, Bool.not_false]))
   | (refine qp ?_ ?_; (· simp only [k2, Bool.not_true, Bool.not_false]))
   | (refine qq ?_ ?_; (· simp only [k2, Bool.not_true, Bool.not_false]))
   | (refine qt ?_ ?_; (· simp only [k2, Bool.not_true, Bool.not_false]))
   | (refine qr ?_ ?_; (· simp only [k2, Bool.not_true, Bool.not_false]))
   | (refine za ?_ ?_; (· simp only [k2, Bool.not_true, Bool.not_false]))
   | (refine zb ?_ ?_; (· simp only [k2, Bool.not_true, Bool.not_false]))
   | refine qn (wb _) ?_
   | refine qn (Ym n k0 hk) ?_
   | refine qn (Jy n k0) ?_
   | refine qv (fun h => ?_) (fun h => ?_)
   | refine qy (fun h => ?_) (fun h => ?_)
   | refine qf (fun h => ?_) (fun h => ?_)
   | refine yx env rfl rfl (zk ?_)
   | refine jq env rfl (zk ?_)
  all_goals rfl
 cases k3 : levelsOk n
 case false =>
  have e : vf n = 7 := by simp [vf, K2, k0, k1, k2, k3]
  rw [Jl, e]
  refine jk (T := tt) (N := 44) (rs := [.tmp 2]) (fun vs w => by simp) Tryz.func40 rfl rfl rfl rfl (by kernel_rfl) (jp rfl) (zh _ rfl) ?_
  repeat' first
   | refine kt env rfl ?_
   | (refine qp ?_ ?_; (· simp only [k0, Bool.not_true, Bool.not_false]))
   | (refine qq ?_ ?_; (· simp only [k0, Bool.not_true, Bool.not_false]))
   | (refine qt ?_ ?_; (· simp only [k0, Bool.not_true, Bool.not_false]))
   | (refine qr ?_ ?_; (· simp only [k0, Bool.not_true, Bool.not_false]))
   | (refine za ?_ ?_; (· simp only [k0, Bool.not_true, Bool.not_false]))
   | (refine zb ?_ ?_; (· simp only [k0, Bool.not_true, Bool.not_false]))
   | (refine qp ?_ ?_; (· simp only [k1, Bool.not_true, Bool.not_false]))
   | (refine qq ?_ ?_; (· simp only [k1, Bool.not_true, Bool.not_false]))
   | (refine qt ?_ ?_; (· simp only [k1, Bool.not_true, Bool.not_false]))
   | (refine qr ?_ ?_; (· simp only [k1, Bool.not_true, Bool.not_false]))
   | (refine za ?_ ?_; (· simp only [k1, Bool.not_true, Bool.not_false]))
   | (refine zb ?_ ?_; (· simp only [k1, Bool.not_true, Bool.not_false]))
   | (refine qp ?_ ?_; (· simp only [k2, Bool.not_true, Bool.not_false]))
   | (refine qq ?_ ?_; (· simp only [k2, Bool.not_true, Bool.not_false]))
   | (refine qt ?_ ?_; (· simp only [k2, Bool.not_true, Bool.not_false]))
   | (refine qr ?_ ?_; (· simp only [k2, Bool.not_true, Bool.not_false]))
   | (refine za ?_ ?_; (· simp only [k2, Bool.not_true, Bool.not_false]))
   | (refine zb ?_ ?_; (· simp only [k2, Bool.not_true, Bool.not_false]))
   | (refine qp ?_ ?_; (· simp only [k3, Bool.not_true, Bool.not_false]))
   | (refine qq ?_ ?_; (· simp only [k3, Bool.not_true, Bool.not_false]))
   | (refine qt ?_ ?_; (· simp only [k3, Bool.not_true, Bool.not_false]))
   | (refine qr ?_ ?_; (· simp only [k3, Bool.not_true, Bool.not_false]))
   | (refine za ?_ ?_; (· simp only [k3, Bool.not_true, Bool.not_false]))
   | (refine zb ?_ ?_; (· simp only [k3, Bool.not_true, Bool.not_false]))
   | refine qn (wb _) ?_
   | refine qn (Ym n k0 hk) ?_
   | refine qn (Jy n k0) ?_
   | refine qn (K7 n (qem n k1 k0)) ?_
   | refine qv (fun h => ?_) (fun h => ?_)
   | refine qy (fun h => ?_) (fun h => ?_)
   | refine qf (fun h => ?_) (fun h => ?_)
   | refine yx env rfl rfl (zk ?_)
   | refine jq env rfl (zk ?_)
  all_goals rfl
 cases k4 : calledOk n
 case false =>
  have e : vf n = 4 := by simp [vf, K2, k0, k1, k2, k3, k4]
  rw [Jl, e]
  refine jk (T := tt) (N := 44) (rs := [.tmp 2]) (fun vs w => by simp) Tryz.func40 rfl rfl rfl rfl (by kernel_rfl) (jp rfl) (zh _ rfl) ?_
  repeat' first
   | refine kt env rfl ?_
   | (refine qp ?_ ?_; (· simp only [k0, Bool.not_true, Bool.not_false]))
   | (refine qq ?_ ?_; (· simp only [k0, Bool.not_true, Bool.not_false]))
   | (refine qt ?_ ?_; (· simp only [k0, Bool.not_true, Bool.not_false]))
   | (refine qr ?_ ?_; (· simp only [k0, Bool.not_true, Bool.not_false]))
   | (refine za ?_ ?_; (· simp only [k0, Bool.not_true, Bool.not_false]))
   | (refine zb ?_ ?_; (· simp only [k0, Bool.not_true, Bool.not_false]))
   | (refine qp ?_ ?_; (· simp only [k1, Bool.not_true, Bool.not_false]))
   | (refine qq ?_ ?_; (· simp only [k1, Bool.not_true, Bool.not_false]))
   | (refine qt ?_ ?_; (· simp only [k1, Bool.not_true, Bool.not_false]))
   | (refine qr ?_ ?_; (· simp only [k1, Bool.not_true, Bool.not_false]))
   | (refine za ?_ ?_; (· simp only [k1, Bool.not_true, Bool.not_false]))
   | (refine zb ?_ ?_; (· simp only [k1, Bool.not_true, Bool.not_false]))
   | (refine qp ?_ ?_; (· simp only [k2, Bool.not_true, Bool.not_false]))
   | (refine qq ?_ ?_; (· simp only [k2, Bool.not_true, Bool.not_false]))
   | (refine qt ?_ ?_; (· simp only [k2, Bool.not_true, Bool.not_false]))
   | (refine qr ?_ ?_; (· simp only [k2, Bool.not_true, Bool.not_false]))
   | (refine za ?_ ?_; (· simp only [k2, Bool.not_true, Bool.not_false]))
   | (refine zb ?_ ?_; (· simp only [k2, Bool.not_true, Bool.not_false]))
   | (refine qp ?_ ?_; (· simp only [k3, Bool.not_true, Bool.not_false]))
   | (refine qq ?_ ?_; (· simp only [k3, Bool.not_true, Bool.not_false]))
   | (refine qt ?_ ?_; (· simp only [k3, Bool.not_true, Bool.not_false]))
   | (refine qr ?_ ?_; (· simp only [k3, Bool.not_true, Bool.not_false]))
   | (refine za ?_ ?_; (· simp only [k3, Bool.not_true, Bool.not_false]))
   | (refine zb ?_ ?_; (· simp only [k3, Bool.not_true, Bool.not_false]))
   | (refine qp ?_ ?_; (· simp only [k4, Bool.not_true, Bool.not_false]))
   | (refine qq ?_ ?_; (· simp only [k4, Bool.not_true, Bool.not_false]))
   | (refine qt ?_ ?_; (· simp only [k4, Bool.not_true, Bool.not_false]))
   | (refine qr ?_ ?_; (· simp only [k4, Bool.not_true, Bool.not_false]))
   | (refine za ?_ ?_; (· simp only [k4, Bool.not_true, Bool.not_false]))
   | (refine zb ?_ ?_; (· simp only [k4, Bool.not_true, Bool.not_false]))
   | refine qn (wb _) ?_
   | refine qn (Ym n k0 hk) ?_
   | refine qn (Jy n k0) ?_
   | refine qn (K7 n (qem n k1 k0)) ?_
   | refine qn (qbq n k0) ?_
   | refine qv (fun h => ?_) (fun h => ?_)
   | refine qy (fun h => ?_) (fun h => ?_)
   | refine qf (fun h => ?_) (fun h => ?_)
   | refine yx env rfl rfl (zk ?_)
   | refine jq env rfl (zk ?_)
  all_goals rfl
 cases k5 : qeq n
 case false =>
  have e : vf n = 7 := by simp [vf, K2, k0, k1, k2, k3, k4, k5]
  rw [Jl, e]
  refine jk (T := tt) (N := 44) (rs := [.tmp 2]) (fun vs w => by simp) Tryz.func40 rfl rfl rfl rfl (by kernel_rfl) (jp rfl) (zh _ rfl) ?_
  repeat' first
   | refine kt env rfl ?_
   | (refine qp ?_ ?_; (· simp only [k0, Bool.not_true, Bool.not_false]))
   | (refine qq ?_ ?_; (· simp only [k0, Bool.not_true, Bool.not_false]))
   | (refine qt ?_ ?_; (· simp only [k0, Bool.not_true, Bool.not_false]))
   | (refine qr ?_ ?_; (· simp only [k0, Bool.not_true, Bool.not_false]))
   | (refine za ?_ ?_; (· simp only [k0, Bool.not_true, Bool.not_false]))
   | (refine zb ?_ ?_; (· simp only [k0, Bool.not_true, Bool.not_false]))
   | (refine qp ?_ ?_; (· simp only [k1, Bool.not_true, Bool.not_false]))
   | (refine qq ?_ ?_; (· simp only [k1, Bool.not_true, Bool.not_false]))
   | (refine qt ?_ ?_; (· simp only [k1, Bool.not_true, Bool.not_false]))
   | (refine qr ?_ ?_; (· simp only [k1, Bool.not_true, Bool.not_false]))
   | (refine za ?_ ?_; (· simp only [k1, Bool.not_true, Bool.not_false]))
   | (refine zb ?_ ?_; (· simp only [k1, Bool.not_true, Bool.not_false]))
   | (refine qp ?_ ?_; (· simp only [k2, Bool.not_true, Bool.not_false]))
   | (refine qq ?_ ?_; (· simp only [k2, Bool.not_true, Bool.not_false]))
   | (refine qt ?_ ?_; (· simp only [k2, Bool.not_true, Bool.not_false]))
   | (refine qr ?_ ?_; (· simp only [k2, Bool.not_true, Bool.not_false]))
   | (refine za ?_ ?_; (· simp only [k2, Bool.not_true, Bool.not_false]))
   | (refine zb ?_ ?_; (· simp only [k2, Bool.not_true, Bool.not_false]))
   | (refine qp ?_ ?_; (· simp only [k3, Bool.not_true, Bool.not_false]))
   | (refine qq ?_ ?_; (· simp only [k3, Bool.not_true, Bool.not_false]))
   | (refine qt ?_ ?_; (· simp only [k3, Bool.not_true, Bool.not_false]))
   | (refine qr ?_ ?_; (· simp only [k3, Bool.not_true, Bool.not_false]))
   | (refine za ?_ ?_; (· simp only [k3, Bool.not_true, Bool.not_false]))
   | (refine zb ?_ ?_; (· simp only [k3, Bool.not_true, Bool.not_false]))
   | (refine qp ?_ ?_; (· simp only [k4, Bool.not_true, Bool.not_false]))
   | (refine qq ?_ ?_; (· simp only [k4, Bool.not_true, Bool.not_false]))
   | (refine qt ?_ ?_; (· simp only [k4, Bool.not_true, Bool.not_false]))
   | (refine qr ?_ ?_; (· simp only [k4, Bool.not_true, Bool.not_false]))
   | (refine za ?_ ?_; (· simp only [k4, Bool.not_true, Bool.not_false]))
   | (refine zb ?_ ?_; (· simp only [k4, Bool.not_true, Bool.not_false]))
   | (refine qp ?_ ?_; (· simp only [k5, Bool.not_true, Bool.not_false]))
   | (refine qq ?_ ?_; (· simp only [k5, Bool.not_true, Bool.not_false]))
   | (refine qt ?_ ?_; (· simp only [k5, Bool.not_true, Bool.not_false]))
   | (refine qr ?_ ?_; (· simp only [k5, Bool.not_true, Bool.not_false]))
   | (refine za ?_ ?_; (· simp only [k5, Bool.not_true, Bool.not_false]))
   | (refine zb ?_ ?_; (· simp only [k5, Bool.not_true, Bool.not_false]))
   | refine qn (wb _) ?_
   | refine qn (Ym n k0 hk) ?_
   | refine qn (Jy n k0) ?_
   | refine qn (K7 n (qem n k1 k0)) ?_
   | refine qn (qbq n k0) ?_
   | refine qn (qi9 n hg hk hs) ?_
   | refine qv (fun h => ?_) (fun h => ?_)
   | refine qy (fun h => ?_) (fun h => ?_)
   | refine qf (fun h => ?_) (fun h => ?_)
   | refine yx env rfl rfl (zk ?_)
   | refine jq env rfl (zk ?_)
  all_goals rfl
 have e : vf n = 0 := by simp [vf, K2, k0, k1, k2, k3, k4, k5]
 rw [Jl, e, if_pos rfl]
 refine jk (T := tt) (N := 44) (rs := [.tmp 2]) (fun vs w => by simp) Tryz.func40 rfl rfl rfl rfl (by kernel_rfl) (jp rfl) (zh _ rfl) ?_
 repeat' first
  | refine kt env rfl ?_
  | (refine qg0 (α := Nat) (fun i => i ≤ n.kids.length ∧ we n.kids = we (n.kids.drop i)) (fun i => n.kids.length - i) (fun i => [(34, .int .i64 i)]) (fun _ => []) (0) (fun _ => rfl) (fun _ => rfl) (⟨Nat.zero_le _, rfl⟩) ?_ ?_ (fun i hJ => ?_); (· simp [leFT, leV, leOs, leO, leC, rho, AV.ren, AV.ren1, AV.un, AV.un1, AV.closed]); (· simp [leFT, leV, leOs, leO, leC, rho, AV.ren, AV.ren1, AV.un, AV.un1, AV.closed]); rcases qxd n.kids i hk hJ with ⟨m, hm, hmem, hlt, hb, hw, ⟨g1, he⟩ | ⟨g1, he⟩⟩ | ⟨hb, he⟩)
  | refine qgz rfl ?_
  | refine qdo rfl rfl ?_
  | (refine qew (i + 1) ?_ ?_ ?_ ?_; (· exact ⟨by omega, he⟩); (· omega); (· (simp only [hw]; simp [leFT, leV, leOs, leO, leC, rho, AV.ren, AV.ren1, AV.un, AV.un1, AV.closed])); (· simp [leFT, leV, leOs, leO, leC, rho, AV.ren, AV.ren1, AV.un, AV.un1, AV.closed]))
  | (refine qp ?_ ?_; (· simp only [k0, Bool.not_true, Bool.not_false]))
  | (refine qq ?_ ?_; (· simp only [k0, Bool.not_true, Bool.not_false]))
  | (refine qt ?_ ?_; (· simp only [k0, Bool.not_true, Bool.not_false]))
  | (refine qr ?_ ?_; (· simp only [k0, Bool.not_true, Bool.not_false]))
  | (refine za ?_ ?_; (· simp only [k0, Bool.not_true, Bool.not_false]))
  | (refine zb ?_ ?_; (· simp only [k0, Bool.not_true, Bool.not_false]))
  | (refine qp ?_ ?_; (· simp only [k1, Bool.not_true, Bool.not_false]))
  | (refine qq ?_ ?_; (· simp only [k1, Bool.not_true, Bool.not_false]))
  | (refine qt ?_ ?_; (· simp only [k1, Bool.not_true, Bool.not_false]))
  | (refine qr ?_ ?_; (· simp only [k1, Bool.not_true, Bool.not_false]))
  | (refine za ?_ ?_; (· simp only [k1, Bool.not_true, Bool.not_false]))
  | (refine zb ?_ ?_; (· simp only [k1, Bool.not_true, Bool.not_false]))
  | (refine qp ?_ ?_; (· simp only [k2, Bool.not_true, Bool.not_false]))
  | (refine qq ?_ ?_; (· simp only [k2, Bool.not_true, Bool.not_false]))
  | (refine qt ?_ ?_; (· simp only [k2, Bool.not_true, Bool.not_false]))
  | (refine qr ?_ ?_; (· simp only [k2, Bool.not_true, Bool.not_false]))
  | (refine za ?_ ?_; (· simp only [k2, Bool.not_true, Bool.not_false]))
  | (refine zb ?_ ?_; (· simp only [k2, Bool.not_true, Bool.not_false]))
  | (refine qp ?_ ?_; (· simp only [k3, Bool.not_true, Bool.not_false]))
  | (refine qq ?_ ?_; (· simp only [k3, Bool.not_true, Bool.not_false]))
  | (refine qt ?_ ?_; (· simp only [k3, Bool.not_true, Bool.not_false]))
  | (refine qr ?_ ?_; (· simp only [k3, Bool.not_true, Bool.not_false]))
  | (refine za ?_ ?_; (· simp only [k3, Bool.not_true, Bool.not_false]))
  | (refine zb ?_ ?_; (· simp only [k3, Bool.not_true, Bool.not_false]))
  | (refine qp ?_ ?_; (· simp only [k4, Bool.not_true, Bool.not_false]))
  | (refine qq ?_ ?_; (· simp only [k4, Bool.not_true, Bool.not_false]))
  | (refine qt ?_ ?_; (· simp only [k4, Bool.not_true, Bool.not_false]))
  | (refine qr ?_ ?_; (· simp only [k4, Bool.not_true, Bool.not_false]))
  | (refine za ?_ ?_; (· simp only [k4, Bool.not_true, Bool.not_false]))
  | (refine zb ?_ ?_; (· simp only [k4, Bool.not_true, Bool.not_false]))
  | (refine qp ?_ ?_; (· simp only [k5, Bool.not_true, Bool.not_false]))
  | (refine qq ?_ ?_; (· simp only [k5, Bool.not_true, Bool.not_false]))
  | (refine qt ?_ ?_; (· simp only [k5, Bool.not_true, Bool.not_false]))
  | (refine qr ?_ ?_; (· simp only [k5, Bool.not_true, Bool.not_false]))
  | (refine za ?_ ?_; (· simp only [k5, Bool.not_true, Bool.not_false]))
  | (refine zb ?_ ?_; (· simp only [k5, Bool.not_true, Bool.not_false]))
  | (refine qp ?_ ?_; (· simp only [hb]))
  | (refine qq ?_ ?_; (· simp only [hb]))
  | (refine qt ?_ ?_; (· simp only [hb]))
  | (refine qr ?_ ?_; (· simp only [hb]))
  | (refine za ?_ ?_; (· simp only [hb]))
  | (refine zb ?_ ?_; (· simp only [hb]))
  | (refine qp ?_ ?_; (· simp only [g1, Bool.not_true, Bool.not_false]))
  | (refine qq ?_ ?_; (· simp only [g1, Bool.not_true, Bool.not_false]))
  | (refine qt ?_ ?_; (· simp only [g1, Bool.not_true, Bool.not_false]))
  | (refine qr ?_ ?_; (· simp only [g1, Bool.not_true, Bool.not_false]))
  | (refine za ?_ ?_; (· simp only [g1, Bool.not_true, Bool.not_false]))
  | (refine zb ?_ ?_; (· simp only [g1, Bool.not_true, Bool.not_false]))
  | refine qhe env rfl rfl rfl rfl rfl (qkg hm) ?_
  | refine qn (wb _) ?_
  | refine qn (Ym n k0 hk) ?_
  | refine qn (Jy n k0) ?_
  | refine qn (K7 n (qem n k1 k0)) ?_
  | refine qn (qbq n k0) ?_
  | refine qn (qi9 n hg hk hs) ?_
  | refine qn (ih m hmem) ?_
  | refine qv (fun h => ?_) (fun h => ?_)
  | refine qy (fun h => ?_) (fun h => ?_)
  | refine qf (fun h => ?_) (fun h => ?_)
  | refine yx env rfl rfl (zk ?_)
  | refine jq env rfl (zk ?_)
 all_goals refine qeo ?_
 all_goals rw [he]
def jz (o : Option Nat) (left : Int) : Int := match o with
 | some s => if (s : Int) ≤ left then left - s else -1
 | none => -1
theorem q2d : ∀ (n : Node) (d s : Nat), size? n d = some s → 0 < s := by
 intro n d s h
 cases n with
 | mk k t g l =>
   cases d with
   | zero => simp [size?] at h
   | succ d =>
     simp only [size?] at h
     split at h
     ·cases h
     simp only [Option.map_eq_some_iff] at h
     obtain ⟨a, _, rfl⟩ := h
     omega
theorem q0q (n : Node) : size? n 0 = none := by cases n; rfl
theorem qj3 (n : Node) (d : Nat) : size? n (d + 1) = if most n.kind < (n.kids.length : Int) then none else (sizeL? n.kids d).map (· + 1) := by cases n; rfl
theorem qbj (m : Node) (l : List Node) (d : Nat) : sizeL? (m :: l) d = match size? m d, sizeL? l d with | some a, some b => some (a + b) | _, _ => none := rfl
theorem qt1 (m : Node) (l : List Node) (d : Nat) (left : Int) (h0 : 0 ≤ left) :
 (jz (size? m d) left < 0 ∧ jz (sizeL? (m :: l) d) left = -1) ∨ (0 ≤ jz (size? m d) left ∧ jz (size? m d) left ≤ left ∧ jz (sizeL? (m :: l) d) left = jz (sizeL? l d) (jz (size? m d) left)) := by
 rw [qbj]
 cases ha : size? m d with
 | none => exact .inl ⟨by simp [jz], by simp [jz]⟩
 | some a =>
   by_cases hl : (a : Int) ≤ left
   ·refine .inr ⟨by simp only [jz, if_pos hl]; omega, by simp only [jz, if_pos hl]; omega, ?_⟩
    cases hb : sizeL? l d with
    | none => simp [jz]
    | some b =>
      simp only [jz, if_pos hl]
      by_cases h2 : (b : Int) ≤ left - a
      ·rw [if_pos (by omega), if_pos h2]; omega
      rw [if_neg (by omega), if_neg h2]
   refine .inl ⟨by simp only [jz, if_neg hl]; omega, ?_⟩
   cases hb : sizeL? l d with
   | none => simp [jz]
   | some b => simp only [jz]; rw [if_neg (by omega)]
theorem qt0 (n : Node) (left : Int) (d : Nat) (hl : 0 < left) : jz (size? n (d + 1)) left = if most n.kind < (n.kids.length : Int) then -1 else jz (sizeL? n.kids d) (left - 1) := by
 rw [qj3]
 split
 ·rfl
 cases hb : sizeL? n.kids d with
 | none => rfl
 | some b =>
   simp only [Option.map_some, jz]
   by_cases h : (b : Int) ≤ left - 1
   ·rw [if_pos (by omega), if_pos h]; omega
   rw [if_neg (by omega), if_neg h]
theorem qtz (l : List Node) (d i : Nat) (top left : Int) (hl : l.length ≤ 9223372036854775807) (hJ : i ≤ l.length ∧ 0 ≤ left ∧ left ≤ top ∧ jz (sizeL? l d) top = jz (sizeL? (l.drop i) d) left) :
 (∃ m, l[i]? = some m ∧ m ∈ l ∧ i < l.length ∧ decide ((i : Int) < ((l.map Node.cells).length : Int)) = true ∧ IntKind.i64.wrap ((i : Int) + 1) = ((i + 1 : Nat) : Int) ∧
   ((decide (jz (size? m d) left < 0) = true ∧ jz (sizeL? l d) top = -1) ∨
    (decide (jz (size? m d) left < 0) = false ∧ 0 ≤ jz (size? m d) left ∧ jz (size? m d) left ≤ top ∧ jz (sizeL? l d) top = jz (sizeL? (l.drop (i + 1)) d) (jz (size? m d) left)))) ∨
 (decide ((i : Int) < ((l.map Node.cells).length : Int)) = false ∧ jz (sizeL? l d) top = left) := by
 obtain ⟨h1, h2, h3, h4⟩ := hJ
 rcases Nat.lt_or_ge i l.length with h | h
 ·refine .inl ⟨l[i], List.getElem?_eq_getElem h, List.getElem_mem h, h, by simpa using h, wh (by omega) (by omega), ?_⟩
  rw [h4, List.drop_eq_getElem_cons h]
  rcases qt1 l[i] (l.drop (i + 1)) d left h2 with ⟨a, b⟩ | ⟨a, b, c⟩
  ·exact .inl ⟨decide_eq_true a, b⟩
  exact .inr ⟨decide_eq_false (by omega), a, by omega, c⟩
 refine .inr ⟨by simpa using h, ?_⟩
 rw [h4, List.drop_of_length_le h]
 show jz (some 0) left = left
 simp only [jz]
 rw [if_pos (by omega)]; omega
set_option maxHeartbeats 4000000 in
theorem qob : ∀ n : Node, Wf n → ∀ (left : Int) (d : Int), -9223372036854775808 ≤ left → left ≤ 9223372036854775807 → -9223372036854775808 ≤ d → d ≤ 9223372036854775807 →
 Fn Tryz.prog G 39 [.agg (zp n), .int .i64 left, .int .i64 d] (.int .i64 (jz (size? n d.toNat) left)) := by
 intro n hwf
 induction hwf with | mk n hk hg ht hs _ ih => ?_
 intro left d hl0 hl1 hd0 hd1
 by_cases c1 : left ≤ 0
 case pos =>
  have e1 : decide (left ≤ 0) = true := decide_eq_true c1
  have e : jz (size? n d.toNat) left = -1 := by
   unfold jz
   split
   ·rename_i s h; have := q2d n _ s h; rw [if_neg (by omega)]
   rfl
  rw [e]
  refine jk (T := tt) (N := 42) (rs := [.tmp 6]) (fun vs w => by simp) Tryz.func39 rfl rfl rfl rfl (by kernel_rfl) (jp rfl) (zh _ rfl) ?_
  repeat' first
   | refine kt env rfl ?_
   | (refine qp ?_ ?_; (· simp only [e1]))
   | (refine qq ?_ ?_; (· simp only [e1]))
   | (refine qt ?_ ?_; (· simp only [e1]))
   | (refine qr ?_ ?_; (· simp only [e1]))
   | (refine za ?_ ?_; (· simp only [e1]))
   | (refine zb ?_ ?_; (· simp only [e1]))
   | refine qv (fun h => ?_) (fun h => ?_)
   | refine qy (fun h => ?_) (fun h => ?_)
   | refine qf (fun h => ?_) (fun h => ?_)
   | refine yx env rfl rfl (zk ?_)
   | refine jq env rfl (zk ?_)
  all_goals rfl
 have e1 : decide (left ≤ 0) = false := decide_eq_false c1
 by_cases c2 : d ≤ 0
 case pos =>
  have e2 : decide (d ≤ 0) = true := decide_eq_true c2
  have e : jz (size? n d.toNat) left = -1 := by rw [show d.toNat = 0 by omega, q0q]; rfl
  rw [e]
  refine jk (T := tt) (N := 42) (rs := [.tmp 6]) (fun vs w => by simp) Tryz.func39 rfl rfl rfl rfl (by kernel_rfl) (jp rfl) (zh _ rfl) ?_
  repeat' first
   | refine kt env rfl ?_
   | (refine qp ?_ ?_; (· simp only [e1]))
   | (refine qq ?_ ?_; (· simp only [e1]))
   | (refine qt ?_ ?_; (· simp only [e1]))
   | (refine qr ?_ ?_; (· simp only [e1]))
   | (refine za ?_ ?_; (· simp only [e1]))
   | (refine zb ?_ ?_; (· simp only [e1]))
   | (refine qp ?_ ?_; (· simp only [e2]))
   | (refine qq ?_ ?_; (· simp only [e2]))
   | (refine qt ?_ ?_; (· simp only [e2]))
   | (refine qr ?_ ?_; (· simp only [e2]))
   | (refine za ?_ ?_; (· simp only [e2]))
   | (refine zb ?_ ?_; (· simp only [e2]))
   | refine qv (fun h => ?_) (fun h => ?_)
   | refine qy (fun h => ?_) (fun h => ?_)
   | refine qf (fun h => ?_) (fun h => ?_)
   | refine yx env rfl rfl (zk ?_)
   | refine jq env rfl (zk ?_)
  all_goals rfl
 have e2 : decide (d ≤ 0) = false := decide_eq_false c2
 obtain ⟨d, rfl⟩ : ∃ q : Nat, d = ((q + 1 : Nat) : Int) := ⟨d.toNat - 1, by omega⟩
 rw [Int.toNat_natCast, qt0 n left d (by omega)]
 by_cases c3 : most n.kind < (n.kids.length : Int)
 case pos =>
  have e3 : decide (most n.kind < ((n.kids.map Node.cells).length : Int)) = true := by simpa using c3
  rw [if_pos c3]
  refine jk (T := tt) (N := 42) (rs := [.tmp 6]) (fun vs w => by simp) Tryz.func39 rfl rfl rfl rfl (by kernel_rfl) (jp rfl) (zh _ rfl) ?_
  repeat' first
   | refine kt env rfl ?_
   | (refine qp ?_ ?_; (· simp only [e1]))
   | (refine qq ?_ ?_; (· simp only [e1]))
   | (refine qt ?_ ?_; (· simp only [e1]))
   | (refine qr ?_ ?_; (· simp only [e1]))
   | (refine za ?_ ?_; (· simp only [e1]))
   | (refine zb ?_ ?_; (· simp only [e1]))
   | (refine qp ?_ ?_; (· simp only [e2]))
   | (refine qq ?_ ?_; (· simp only [e2]))
   | (refine qt ?_ ?_; (· simp only [e2]))
   | (refine qr ?_ ?_; (· simp only [e2]))
   | (refine za ?_ ?_; (· simp only [e2]))
   | (refine zb ?_ ?_; (· simp only [e2]))
   | (refine qp ?_ ?_; (· simp only [e3]))
   | (refine qq ?_ ?_; (· simp only [e3]))
   | (refine qt ?_ ?_; (· simp only [e3]))
   | (refine qr ?_ ?_; (· simp only [e3]))
   | (refine za ?_ ?_; (· simp only [e3]))
   | (refine zb ?_ ?_; (· simp only [e3]))
   | refine qn (qi8 _) ?_
   | refine qv (fun h => ?_) (fun h => ?_)
   | refine qy (fun h => ?_) (fun h => ?_)
   | refine qf (fun h => ?_) (fun h => ?_)
   | refine yx env rfl rfl (zk ?_)
   | refine jq env rfl (zk ?_)
  all_goals rfl
 have e3 : decide (most n.kind < ((n.kids.map Node.cells).length : Int)) = false := by simpa using c3
 rw [if_neg c3]
 have w1 : IntKind.i64.wrap (left - 1) = left - 1 := wh (by omega) (by omega)
 have w2 : IntKind.i64.wrap (((d + 1 : Nat) : Int) - 1) = (d : Int) := by rw [wh (by omega) (by omega)]; omega
 refine jk (T := tt) (N := 42) (rs := [.tmp 6]) (fun vs w => by simp) Tryz.func39 rfl rfl rfl rfl (by kernel_rfl) (jp rfl) (zh _ rfl) ?_
 repeat' first
  | refine kt env rfl ?_
  | (refine qg0 (α := Nat × Int) (fun a => a.1 ≤ n.kids.length ∧ 0 ≤ a.2 ∧ a.2 ≤ left - 1 ∧ jz (sizeL? n.kids d) (left - 1) = jz (sizeL? (n.kids.drop a.1) d) a.2) (fun a => n.kids.length - a.1) (fun a => [(29, .int .i64 a.1), (1, .int .i64 a.2)]) (fun _ => []) ((0, left - 1)) (fun _ => rfl) (fun _ => rfl) (⟨Nat.zero_le _, by show 0 ≤ left - 1; omega, Int.le_refl _, rfl⟩) ?_ ?_ (fun ⟨i, r⟩ hJ => ?_); (· (simp only [w1]; simp [leFT, leV, leOs, leO, leC, rho, AV.ren, AV.ren1, AV.un, AV.un1, AV.closed])); (· (simp only [w1]; simp [leFT, leV, leOs, leO, leC, rho, AV.ren, AV.ren1, AV.un, AV.un1, AV.closed])); rcases qtz n.kids d i (left - 1) r hk hJ with ⟨m, hm, hmem, hlt, hb, hw, ⟨g1, he⟩ | ⟨g1, p1, p2, he⟩⟩ | ⟨hb, he⟩)
  | refine qgz rfl ?_
  | refine qdo rfl rfl ?_
  | (refine qew ((i + 1, jz (size? m d) r)) ?_ ?_ ?_ ?_; (· exact ⟨by show i + 1 ≤ n.kids.length; omega, p1, p2, he⟩); (· (show n.kids.length - (i + 1) < n.kids.length - i; omega)); (· (simp only [hw]; simp [leFT, leV, leOs, leO, leC, rho, AV.ren, AV.ren1, AV.un, AV.un1, AV.closed])); (· simp [leFT, leV, leOs, leO, leC, rho, AV.ren, AV.ren1, AV.un, AV.un1, AV.closed]))
  | refine qhe env rfl rfl rfl rfl rfl (qkg hm) ?_
  | refine qn (x := .int .i64 (jz (size? m d) r)) (by rw [w2]; exact ih m hmem r d (by omega) (by omega) (by omega) (by omega)) ?_
  | (refine qp ?_ ?_; (· simp only [e1]))
  | (refine qq ?_ ?_; (· simp only [e1]))
  | (refine qt ?_ ?_; (· simp only [e1]))
  | (refine qr ?_ ?_; (· simp only [e1]))
  | (refine za ?_ ?_; (· simp only [e1]))
  | (refine zb ?_ ?_; (· simp only [e1]))
  | (refine qp ?_ ?_; (· simp only [e2]))
  | (refine qq ?_ ?_; (· simp only [e2]))
  | (refine qt ?_ ?_; (· simp only [e2]))
  | (refine qr ?_ ?_; (· simp only [e2]))
  | (refine za ?_ ?_; (· simp only [e2]))
  | (refine zb ?_ ?_; (· simp only [e2]))
  | (refine qp ?_ ?_; (· simp only [e3]))
  | (refine qq ?_ ?_; (· simp only [e3]))
  | (refine qt ?_ ?_; (· simp only [e3]))
  | (refine qr ?_ ?_; (· simp only [e3]))
  | (refine za ?_ ?_; (· simp only [e3]))
  | (refine zb ?_ ?_; (· simp only [e3]))
  | (refine qp ?_ ?_; (· simp only [hb]))
  | (refine qq ?_ ?_; (· simp only [hb]))
  | (refine qt ?_ ?_; (· simp only [hb]))
  | (refine qr ?_ ?_; (· simp only [hb]))
  | (refine za ?_ ?_; (· simp only [hb]))
  | (refine zb ?_ ?_; (· simp only [hb]))
  | (refine qp ?_ ?_; (· simp only [g1]))
  | (refine qq ?_ ?_; (· simp only [g1]))
  | (refine qt ?_ ?_; (· simp only [g1]))
  | (refine qr ?_ ?_; (· simp only [g1]))
  | (refine za ?_ ?_; (· simp only [g1]))
  | (refine zb ?_ ?_; (· simp only [g1]))
  | refine qn (qi8 _) ?_
  | refine qv (fun h => ?_) (fun h => ?_)
  | refine qy (fun h => ?_) (fun h => ?_)
  | refine qf (fun h => ?_) (fun h => ?_)
  | refine yx env rfl rfl (zk ?_)
  | refine jq env rfl (zk ?_)
 all_goals refine qeo ?_
 all_goals rw [he]
end Go.Proofs.YtigmilhpeodhbaaGreatDoorW.Ex.Gr
