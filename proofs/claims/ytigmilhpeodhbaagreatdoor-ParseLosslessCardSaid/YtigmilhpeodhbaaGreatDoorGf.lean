/- A node's kids. No conditions beside those in each theorem. Whole trees: the program's first, within and Check. Conditions: those of the trees that come in (Wf). -/
import Derived.Test.YtigmilhpeodhbaaGreatDoorGd
namespace Go.Proofs.YtigmilhpeodhbaaGreatDoorW.Ex.Gr
open Go Go.Proofs.YtigmilhpeodhbaaGreatDoorW.Ex
set_option linter.all false
set_option maxRecDepth 100000
set_option maxHeartbeats 4000000 in
theorem Ju (n : Node) (hkn : known n.kind = true) (hk : n.kids.length ≤ 9223372036854775807) : Fn Tryz.prog G 83 [.agg (zp n)] (.bool (Zt n)) := by
 have kb := Wj hkn
 have h0 : 0 ≤ n.kind := by omega
 have h2 : n.kind.toNat < 27 := by omega
 have hg := qhq n.kind h2
 refine ji (T := tt) (N := 57) (rs := [.tmp 2]) (fun vs w => by simp) Tryz.func83 rfl rfl rfl rfl (by kernel_rfl) (jl rfl) (zh _ rfl) ?_
 repeat' first
  | refine ke env rfl ?_
  | refine qiz env rfl rfl rfl rfl h0 h2 hg ?_
  | (refine qfo (α := Nat) (fun i => i ≤ (n.kids).length ∧ vu (fun i m => fits n.kind i m.kind) 0 (n.kids) = vu (fun i m => fits n.kind i m.kind) i ((n.kids).drop i)) (fun i => (n.kids).length - i) (fun i => [(44, .int .i64 i)]) (fun _ => []) (0) (fun _ => rfl) (fun _ => rfl) (⟨Nat.zero_le _, rfl⟩) ?_ ?_ (fun i hJ => ?_); (· simp [leFT, leV, leOs, leO, leC, rho, AV.ren, AV.ren1, AV.un, AV.un1, AV.closed]); (· simp [leFT, leV, leOs, leO, leC, rho, AV.ren, AV.ren1, AV.un, AV.un1, AV.closed]); rcases qtv (fun i m => fits n.kind i m.kind) (n.kids) (Node.cells) i hk hJ with ⟨m, hm, hlt, hb, hw, he⟩ | ⟨hb, he⟩)
  | refine qfn rfl ?_
  | refine qcn rfl rfl ?_
  | (refine qdu (i + 1) ?_ ?_ ?_ ?_; (· exact ⟨by omega, by simp_all⟩); (· omega); (· simp [leFT, leV, leOs, leO, leC, rho, AV.ren, AV.ren1, AV.un, AV.un1, AV.closed, hw]); (· simp [leFT, leV, leOs, leO, leC, rho, AV.ren, AV.ren1, AV.un, AV.un1, AV.closed]))
  | (refine qo ?_ ?_; (· simp only [hb]))
  | (refine qp ?_ ?_; (· simp only [hb]))
  | (refine qr ?_ ?_; (· simp only [hb]))
  | (refine qq ?_ ?_; (· simp only [hb]))
  | (refine q9 ?_ ?_; (· simp only [hb]))
  | (refine za ?_ ?_; (· simp only [hb]))
  | refine qf0 env rfl rfl rfl rfl rfl (qin hm) ?_
  | refine qt (qq7 _ _ _) ?_
  | refine qv (fun h => ?_) (fun h => ?_)
  | refine q8 (fun h => ?_) (fun h => ?_)
  | refine qg (fun h => ?_) (fun h => ?_)
  | refine yq env rfl rfl (zj ?_)
  | refine jm env rfl (zj ?_)
 all_goals refine Jh ?_
 all_goals simp_all [Zt, qcb, Prod.ext_iff]
 all_goals omega
def Zu (v : ByteArray) : Nat → List ByteArray → Int
 | _, [] => -1
 | i, w :: l => if v = w then i else Zu v (i + 1) l
theorem qwu (v : ByteArray) : ∀ (l : List ByteArray) (i : Nat), decide (0 ≤ Zu v i l) = memB v l
 | [], i => by simp [Zu, memB]
 | w :: l, i => by
   simp only [Zu]
   split
   ·rename_i h; subst h; simp [memB]
   ·rename_i h; rw [qwu v l (i + 1)]; simp [memB, h]
theorem q0t (v : ByteArray) (l : List ByteArray) (i : Nat) (hl : l.length ≤ 9223372036854775807) (hJ : i ≤ l.length ∧ Zu v 0 l = Zu v i (l.drop i)) :
 (∃ m, (l.map sc)[i]? = some [.str m] ∧ i < l.length ∧ decide ((i : Int) < ((l.map sc).length : Int)) = true ∧ IntKind.i64.wrap ((i : Int) + 1) = ((i + 1 : Nat) : Int) ∧
   ((decide (v = m) = true ∧ Zu v 0 l = i) ∨ (decide (v = m) = false ∧ Zu v 0 l = Zu v (i + 1) (l.drop (i + 1))))) ∨
 (decide ((i : Int) < ((l.map sc).length : Int)) = false ∧ Zu v 0 l = -1) := by
 rcases Nat.lt_or_ge i l.length with h | h
 ·refine .inl ⟨l[i], by rw [List.getElem?_map, List.getElem?_eq_getElem h]; rfl, h, by simpa using h, wr (by omega) (by omega), ?_⟩
  have e : Zu v i (l.drop i) = if v = l[i] then (i : Int) else Zu v (i + 1) (l.drop (i + 1)) := by rw [List.drop_eq_getElem_cons h]; rfl
  rw [hJ.2, e]
  by_cases hv : v = l[i]
  ·exact .inl ⟨decide_eq_true hv, if_pos hv⟩
  ·exact .inr ⟨decide_eq_false hv, if_neg hv⟩
 ·refine .inr ⟨by simpa using h, ?_⟩
  rw [hJ.2, List.drop_of_length_le h]; rfl
set_option maxHeartbeats 4000000 in
/-- slices.Index[[]string,string] -/
theorem qqe (l : List ByteArray) (v : ByteArray) (hl : l.length ≤ 9223372036854775807) : Fn Tryz.prog G 141 [.sl 1 false (l.map sc), .str v] (.int .i64 (Zu v 0 l)) := by
 refine ji (T := tt) (N := 19) (rs := [.tmp 4]) (fun vs w => by simp) Tryz.func141 rfl rfl rfl rfl (by kernel_rfl) (jl rfl) (zh _ rfl) ?_
 repeat' first
  | refine ke env rfl ?_
  | (refine qfo (α := Nat) (fun i => i ≤ l.length ∧ Zu v 0 l = Zu v i (l.drop i)) (fun i => l.length - i) (fun i => [(8, .int .i64 i)]) (fun _ => []) (0) (fun _ => rfl) (fun _ => rfl) (⟨Nat.zero_le _, rfl⟩) ?_ ?_ (fun i hJ => ?_); (· simp [leFT, leV, leOs, leO, leC, rho, AV.ren, AV.ren1, AV.un, AV.un1, AV.closed]); (· simp [leFT, leV, leOs, leO, leC, rho, AV.ren, AV.ren1, AV.un, AV.un1, AV.closed]); rcases q0t v l i hl hJ with ⟨m, hm, hlt, hb, hw, ⟨g1, he⟩ | ⟨g1, he⟩⟩ | ⟨hb, he⟩)
  | refine qfn rfl ?_
  | refine qcn rfl rfl ?_
  | (refine qdu (i + 1) ?_ ?_ ?_ ?_; (· exact ⟨by omega, he⟩); (· omega); (· (simp only [hw]; simp [leFT, leV, leOs, leO, leC, rho, AV.ren, AV.ren1, AV.un, AV.un1, AV.closed])); (· simp [leFT, leV, leOs, leO, leC, rho, AV.ren, AV.ren1, AV.un, AV.un1, AV.closed]))
  | (refine qo ?_ ?_; (· simp only [hb]))
  | (refine qp ?_ ?_; (· simp only [hb]))
  | (refine qr ?_ ?_; (· simp only [hb]))
  | (refine qq ?_ ?_; (· simp only [hb]))
  | (refine q9 ?_ ?_; (· simp only [hb]))
  | (refine za ?_ ?_; (· simp only [hb]))
  | (refine qo ?_ ?_; (· simp only [g1]))
  | (refine qp ?_ ?_; (· simp only [g1]))
  | (refine qr ?_ ?_; (· simp only [g1]))
  | (refine qq ?_ ?_; (· simp only [g1]))
  | (refine q9 ?_ ?_; (· simp only [g1]))
  | (refine za ?_ ?_; (· simp only [g1]))
  | refine qf0 env rfl rfl rfl rfl rfl hm ?_
  | refine qv (fun h => ?_) (fun h => ?_)
  | refine q8 (fun h => ?_) (fun h => ?_)
  | refine qg (fun h => ?_) (fun h => ?_)
  | refine yq env rfl rfl (zj ?_)
  | refine jm env rfl (zj ?_)
 all_goals refine qdm ?_
 all_goals simp only [he]
set_option maxHeartbeats 4000000 in
/-- slices.Contains[[]string,string] -/
theorem qj6 (l : List ByteArray) (v : ByteArray) (hl : l.length ≤ 9223372036854775807) : Fn Tryz.prog G 115 [.sl 1 false (l.map sc), .str v] (.bool (memB v l)) := by
 refine ji (T := tt) (N := 9) (rs := [.tmp 4]) (fun vs w => by simp) Tryz.func115 rfl rfl rfl rfl (by kernel_rfl) (jl rfl) (zh _ rfl) ?_
 repeat' first
  | refine ke env rfl ?_
  | refine qt (qqe _ _ hl) ?_
  | refine qv (fun h => ?_) (fun h => ?_)
  | refine q8 (fun h => ?_) (fun h => ?_)
  | refine qg (fun h => ?_) (fun h => ?_)
  | refine yq env rfl rfl (zj ?_)
  | refine jm env rfl (zj ?_)
 all_goals refine Jh ?_
 all_goals exact qwu v l 0
theorem qxu : ∀ k : Nat, k < 27 → (shapes.getD k ⟨[], (0, 0), 0, [], 0⟩).words.length ≤ 8 := by decide
set_option maxHeartbeats 4000000 in
/-- treemerge/grammar.spelled -/
theorem Z4 (n : Node) (hkn : known n.kind = true) : Fn Tryz.prog G 84 [.agg (zp n)] (.bool (Js n)) := by
 have kb := Wj hkn
 have h0 : 0 ≤ n.kind := by omega
 have h2 : n.kind.toNat < 27 := by omega
 have hg := qhq n.kind h2
 have hw : (z7 n.kind).words.length ≤ 9223372036854775807 := Nat.le_trans (qxu n.kind.toNat h2) (by decide)
 refine ji (T := tt) (N := 22) (rs := [.tmp 2]) (fun vs w => by simp) Tryz.func84 rfl rfl rfl rfl (by kernel_rfl) (jl rfl) (zh _ rfl) ?_
 repeat' first
  | refine ke env rfl ?_
  | refine qiz env rfl rfl rfl rfl h0 h2 hg ?_
  | refine qt (qj6 _ _ hw) ?_
  | refine qv (fun h => ?_) (fun h => ?_)
  | refine q8 (fun h => ?_) (fun h => ?_)
  | refine qg (fun h => ?_) (fun h => ?_)
  | refine yq env rfl rfl (zj ?_)
  | refine jm env rfl (zj ?_)
 all_goals refine Jh ?_
 all_goals simp_all [Js]
set_option maxHeartbeats 4000000 in
/-- treemerge/grammar.called -/
theorem qat (n : Node) (hkn : known n.kind = true) : Fn Tryz.prog G 86 [.agg (zp n)] (.bool (Kf n)) := by
 have kb := Wj hkn
 have h0 : 0 ≤ n.kind := by omega
 have h2 : n.kind.toNat < 27 := by omega
 have hg := qhq n.kind h2
 refine ji (T := tt) (N := 23) (rs := [.tmp 2]) (fun vs w => by simp) Tryz.func86 rfl rfl rfl rfl (by kernel_rfl) (jl rfl) (zh _ rfl) ?_
 repeat' first
  | refine ke env rfl ?_
  | refine qiz env rfl rfl rfl rfl h0 h2 hg ?_
  | refine qt (ql8 _) ?_
  | refine qt (qj8 _) ?_
  | refine qv (fun h => ?_) (fun h => ?_)
  | refine q8 (fun h => ?_) (fun h => ?_)
  | refine qg (fun h => ?_) (fun h => ?_)
  | refine yq env rfl rfl (zj ?_)
  | refine jm env rfl (zj ?_)
 all_goals refine Jh ?_
 all_goals simp_all [Kf]
theorem qyq : ∀ k : Nat, k < 27 → (k = 24 → (shapes.getD k ⟨[], (0, 0), 0, [], 0⟩).first.length = 2) ∧ (k = 25 ∨ k = 21 → (shapes.getD k ⟨[], (0, 0), 0, [], 0⟩).first.length = 1) := by decide
theorem qdk (n : Node) (h : Zt n = true) (hkn : known n.kind = true) : (n.kind = 24 → ∃ a b, n.kids[0]? = some a ∧ n.kids[1]? = some b ∧ kid n 0 = a ∧ kid n 1 = b) ∧ (n.kind = 25 ∨ n.kind = 21 → ∃ a, n.kids[0]? = some a ∧ kid n 0 = a) := by
 have kb := Wj hkn
 have hf := qyq n.kind.toNat (by omega)
 have hk : n.kind ≠ 14 → (z7 n.kind).first.length ≤ n.kids.length := by
  intro hne
  unfold Zt at h
  rw [if_neg (by omega)] at h
  split at h
  ·cases h
  ·omega
 have hs : (z7 n.kind).first = (shapes.getD n.kind.toNat ⟨[], (0, 0), 0, [], 0⟩).first := rfl
 constructor
 ·intro hk24
  have h2 := hk (by omega)
  rw [hs, hf.1 (by omega)] at h2
  refine ⟨n.kids[0], n.kids[1], List.getElem?_eq_getElem (by omega), List.getElem?_eq_getElem (by omega), ?_, ?_⟩
  ·unfold kid; rw [List.getD_eq_getElem?_getD, List.getElem?_eq_getElem (by omega)]; rfl
  ·unfold kid; rw [List.getD_eq_getElem?_getD, List.getElem?_eq_getElem (by omega)]; rfl
 ·intro hk2
  have h2 := hk (by omega)
  rw [hs, hf.2 (by omega)] at h2
  refine ⟨n.kids[0], List.getElem?_eq_getElem (by omega), ?_⟩
  unfold kid; rw [List.getD_eq_getElem?_getD, List.getElem?_eq_getElem (by omega)]; rfl
set_option maxHeartbeats 4000000 in
/-- levels -/
theorem Kb (n : Node) (hk0 : (n.kind = 24 → ∃ a b, n.kids[0]? = some a ∧ n.kids[1]? = some b ∧ kid n 0 = a ∧ kid n 1 = b) ∧ (n.kind = 25 ∨ n.kind = 21 → ∃ a, n.kids[0]? = some a ∧ kid n 0 = a)) : Fn Tryz.prog G 85 [.agg (zp n)] (.bool (Ya n)) := by
 by_cases hb : n.kind = 24
 case pos =>
  obtain ⟨a, b, ha, hb2, ea, eb⟩ := hk0.1 hb
  have d1 : decide (n.kind = 24) = true := decide_eq_true hb
  refine ji (T := tt) (N := 51) (rs := [.tmp 2]) (fun vs w => by simp) Tryz.func85 rfl rfl rfl rfl (by kernel_rfl) (jl rfl) (zh _ rfl) ?_
  repeat' first
   | refine ke env rfl ?_
   | (refine qo ?_ ?_; (· simp only [d1]))
   | (refine qp ?_ ?_; (· simp only [d1]))
   | (refine qr ?_ ?_; (· simp only [d1]))
   | (refine qq ?_ ?_; (· simp only [d1]))
   | (refine q9 ?_ ?_; (· simp only [d1]))
   | (refine za ?_ ?_; (· simp only [d1]))
   | refine qf0 env rfl rfl rfl rfl (m := 0) rfl (qin ha) ?_
   | refine qf0 env rfl rfl rfl rfl (m := 1) rfl (qin hb2) ?_
   | refine qt (qbo _) ?_
   | refine qv (fun h => ?_) (fun h => ?_)
   | refine q8 (fun h => ?_) (fun h => ?_)
   | refine qg (fun h => ?_) (fun h => ?_)
   | refine yq env rfl rfl (zj ?_)
   | refine jm env rfl (zj ?_)
  all_goals refine Jh ?_
  all_goals (simp_all [Ya])
  all_goals (try omega)
 have d1 : decide (n.kind = 24) = false := decide_eq_false hb
 by_cases hu : n.kind = 25 ∨ n.kind = 21
 case pos =>
  obtain ⟨a, ha, ea⟩ := hk0.2 hu
  refine ji (T := tt) (N := 51) (rs := [.tmp 2]) (fun vs w => by simp) Tryz.func85 rfl rfl rfl rfl (by kernel_rfl) (jl rfl) (zh _ rfl) ?_
  repeat' first
   | refine ke env rfl ?_
   | (refine qo ?_ ?_; (· simp only [d1]))
   | (refine qp ?_ ?_; (· simp only [d1]))
   | (refine qr ?_ ?_; (· simp only [d1]))
   | (refine qq ?_ ?_; (· simp only [d1]))
   | (refine q9 ?_ ?_; (· simp only [d1]))
   | (refine za ?_ ?_; (· simp only [d1]))
   | refine qf0 env rfl rfl rfl rfl (m := 0) rfl (qin ha) ?_
   | refine qt (qbo _) ?_
   | refine qv (fun h => ?_) (fun h => ?_)
   | refine q8 (fun h => ?_) (fun h => ?_)
   | refine qg (fun h => ?_) (fun h => ?_)
   | refine yq env rfl rfl (zj ?_)
   | refine jm env rfl (zj ?_)
  all_goals refine Jh ?_
  all_goals (simp_all [Ya])
  all_goals (try omega)
 have d2 : decide (n.kind = 25) = false := decide_eq_false (fun e => hu (.inl e))
 have d3 : decide (n.kind = 21) = false := decide_eq_false (fun e => hu (.inr e))
 refine ji (T := tt) (N := 51) (rs := [.tmp 2]) (fun vs w => by simp) Tryz.func85 rfl rfl rfl rfl (by kernel_rfl) (jl rfl) (zh _ rfl) ?_
 repeat' first
  | refine ke env rfl ?_
  | (refine qo ?_ ?_; (· simp only [d1]))
  | (refine qp ?_ ?_; (· simp only [d1]))
  | (refine qr ?_ ?_; (· simp only [d1]))
  | (refine qq ?_ ?_; (· simp only [d1]))
  | (refine q9 ?_ ?_; (· simp only [d1]))
  | (refine za ?_ ?_; (· simp only [d1]))
  | (refine qo ?_ ?_; (· simp only [d2]))
  | (refine qp ?_ ?_; (· simp only [d2]))
  | (refine qr ?_ ?_; (· simp only [d2]))
  | (refine qq ?_ ?_; (· simp only [d2]))
  | (refine q9 ?_ ?_; (· simp only [d2]))
  | (refine za ?_ ?_; (· simp only [d2]))
  | (refine qo ?_ ?_; (· simp only [d3]))
  | (refine qp ?_ ?_; (· simp only [d3]))
  | (refine qr ?_ ?_; (· simp only [d3]))
  | (refine qq ?_ ?_; (· simp only [d3]))
  | (refine q9 ?_ ?_; (· simp only [d3]))
  | (refine za ?_ ?_; (· simp only [d3]))
  | refine qt (qbo _) ?_
  | refine qv (fun h => ?_) (fun h => ?_)
  | refine q8 (fun h => ?_) (fun h => ?_)
  | refine qg (fun h => ?_) (fun h => ?_)
  | refine yq env rfl rfl (zj ?_)
  | refine jm env rfl (zj ?_)
 all_goals refine Jh ?_
 all_goals (simp_all [Ya])
theorem q2s {l : List ByteArray} {i : Nat} {g : ByteArray} (h : l[i]? = some g) : g ∈ l := List.mem_of_getElem? h
set_option maxHeartbeats 4000000 in
/-- treemerge/grammar.gaps -/
theorem qhp (n : Node) (hk : n.gaps.length ≤ 9223372036854775807) (hkk : n.kids.length ≤ 9223372036854775807) (hs : ∀ g ∈ n.gaps, g.size ≤ 9223372036854775807) : Fn Tryz.prog G 87 [.agg (zp n)] (.bool (qet n)) := by
 refine ji (T := tt) (N := 26) (rs := [.tmp 2]) (fun vs w => by simp) Tryz.func87 rfl rfl rfl rfl (by kernel_rfl) (jl rfl) (zh _ rfl) ?_
 repeat' first
  | refine ke env rfl ?_
  | (refine qfo (α := Nat) (fun i => i ≤ (n.gaps).length ∧ vu (fun _ g => trivValid g) 0 (n.gaps) = vu (fun _ g => trivValid g) i ((n.gaps).drop i)) (fun i => (n.gaps).length - i) (fun i => [(12, .int .i64 i)]) (fun _ => []) (0) (fun _ => rfl) (fun _ => rfl) (⟨Nat.zero_le _, rfl⟩) ?_ ?_ (fun i hJ => ?_); (· simp [leFT, leV, leOs, leO, leC, rho, AV.ren, AV.ren1, AV.un, AV.un1, AV.closed]); (· simp [leFT, leV, leOs, leO, leC, rho, AV.ren, AV.ren1, AV.un, AV.un1, AV.closed]); rcases qtv (fun _ g => trivValid g) (n.gaps) (sc) i hk hJ with ⟨m, hm, hlt, hb, hw, he⟩ | ⟨hb, he⟩)
  | refine qfn rfl ?_
  | refine qcn rfl rfl ?_
  | (refine qdu (i + 1) ?_ ?_ ?_ ?_; (· exact ⟨by omega, by simp_all⟩); (· omega); (· simp [leFT, leV, leOs, leO, leC, rho, AV.ren, AV.ren1, AV.un, AV.un1, AV.closed, hw]); (· simp [leFT, leV, leOs, leO, leC, rho, AV.ren, AV.ren1, AV.un, AV.un1, AV.closed]))
  | (refine qo ?_ ?_; (· simp only [hb]))
  | (refine qp ?_ ?_; (· simp only [hb]))
  | (refine qr ?_ ?_; (· simp only [hb]))
  | (refine qq ?_ ?_; (· simp only [hb]))
  | (refine q9 ?_ ?_; (· simp only [hb]))
  | (refine za ?_ ?_; (· simp only [hb]))
  | refine qf0 env rfl rfl rfl rfl rfl (q4o hm) ?_
  | refine qt (qp8 _ (hs _ (q2s hm))) ?_
  | refine qt (qjv _ hkk) ?_
  | refine qv (fun h => ?_) (fun h => ?_)
  | refine q8 (fun h => ?_) (fun h => ?_)
  | refine qg (fun h => ?_) (fun h => ?_)
  | refine yq env rfl rfl (zj ?_)
  | refine jm env rfl (zj ?_)
 all_goals refine Jh ?_
 all_goals simp_all [qet, qra]
end Go.Proofs.YtigmilhpeodhbaaGreatDoorW.Ex.Gr

namespace Go.Proofs.YtigmilhpeodhbaaGreatDoorW.Ex.Gr
open Go Go.Proofs.YtigmilhpeodhbaaGreatDoorW.Ex
set_option linter.all false
set_option maxRecDepth 100000
theorem qu5 (l : List Node) (i : Nat) (hl : l.length ≤ 9223372036854775807) (hJ : i ≤ l.length ∧ kv l = kv (l.drop i)) :
 (∃ m, l[i]? = some m ∧ m ∈ l ∧ i < l.length ∧ decide ((i : Int) < ((l.map Node.cells).length : Int)) = true ∧ IntKind.i64.wrap ((i : Int) + 1) = ((i + 1 : Nat) : Int) ∧
   ((decide (firstErr m = 0) = true ∧ kv l = kv (l.drop (i + 1))) ∨ (decide (firstErr m = 0) = false ∧ kv l = firstErr m))) ∨
 (decide ((i : Int) < ((l.map Node.cells).length : Int)) = false ∧ kv l = 0) := by
 rcases Nat.lt_or_ge i l.length with h | h
 ·refine .inl ⟨l[i], List.getElem?_eq_getElem h, List.getElem_mem h, h, by simpa using h, wr (by omega) (by omega), ?_⟩
  have e : kv (l.drop i) = if firstErr l[i] = 0 then kv (l.drop (i + 1)) else firstErr l[i] := by rw [List.drop_eq_getElem_cons h, kv]
  rw [hJ.2, e]
  by_cases hv : firstErr l[i] = 0
  ·exact .inl ⟨decide_eq_true hv, if_pos hv⟩
  ·exact .inr ⟨decide_eq_false hv, if_neg hv⟩
 ·refine .inr ⟨by simpa using h, ?_⟩
  rw [hJ.2, List.drop_of_length_le h, kv]
set_option maxHeartbeats 4000000 in
/-- grammar.first -/
theorem qoe : ∀ n : Node, Wf n → Fn Tryz.prog G 40 [.agg (zp n)] (.int .i64 (firstErr n)) := by
 intro n hwf
 induction hwf with | mk n hk hg ht hs _ ih => ?_
 cases k0 : known n.kind
 case false =>
  have e : uj n = 7 := by simp [uj, Y6, k0]
  rw [Zq, e]
  refine ji (T := tt) (N := 44) (rs := [.tmp 2]) (fun vs w => by simp) Tryz.func40 rfl rfl rfl rfl (by kernel_rfl) (jl rfl) (zh _ rfl) ?_
  repeat' first
   | refine ke env rfl ?_
   | (refine qo ?_ ?_; (· simp only [k0, Bool.not_true, Bool.not_false]))
   | (refine qp ?_ ?_; (· simp only [k0, Bool.not_true, Bool.not_false]))
   | (refine qr ?_ ?_; (· simp only [k0, Bool.not_true, Bool.not_false]))
   | (refine qq ?_ ?_; (· simp only [k0, Bool.not_true, Bool.not_false]))
   | (refine q9 ?_ ?_; (· simp only [k0, Bool.not_true, Bool.not_false]))
   | (refine za ?_ ?_; (· simp only [k0, Bool.not_true, Bool.not_false]))
   | refine qt (kt _) ?_
   | refine qv (fun h => ?_) (fun h => ?_)
   | refine q8 (fun h => ?_) (fun h => ?_)
   | refine qg (fun h => ?_) (fun h => ?_)
   | refine yq env rfl rfl (zj ?_)
   | refine jm env rfl (zj ?_)
  all_goals rfl
 cases k1 : Zt n
 case false =>
  have e : uj n = 7 := by simp [uj, Y6, k0, k1]
  rw [Zq, e]
  refine ji (T := tt) (N := 44) (rs := [.tmp 2]) (fun vs w => by simp) Tryz.func40 rfl rfl rfl rfl (by kernel_rfl) (jl rfl) (zh _ rfl) ?_
  repeat' first
   | refine ke env rfl ?_
   | (refine qo ?_ ?_; (· simp only [k0, Bool.not_true, Bool.not_false]))
   | (refine qp ?_ ?_; (· simp only [k0, Bool.not_true, Bool.not_false]))
   | (refine qr ?_ ?_; (· simp only [k0, Bool.not_true, Bool.not_false]))
   | (refine qq ?_ ?_; (· simp only [k0, Bool.not_true, Bool.not_false]))
   | (refine q9 ?_ ?_; (· simp only [k0, Bool.not_true, Bool.not_false]))
   | (refine za ?_ ?_; (· simp only [k0, Bool.not_true, Bool.not_false]))
   | (refine qo ?_ ?_; (· simp only [k1, Bool.not_true, Bool.not_false]))
   | (refine qp ?_ ?_; (· simp only [k1, Bool.not_true, Bool.not_false]))
   | (refine qr ?_ ?_; (· simp only [k1, Bool.not_true, Bool.not_false]))
   | (refine qq ?_ ?_; (· simp only [k1, Bool.not_true, Bool.not_false]))
   | (refine q9 ?_ ?_; (· simp only [k1, Bool.not_true, Bool.not_false]))
   | (refine za ?_ ?_; (· simp only [k1, Bool.not_true, Bool.not_false]))
   | refine qt (kt _) ?_
   | refine qt (Ju n k0 hk) ?_
   | refine qv (fun h => ?_) (fun h => ?_)
   | refine q8 (fun h => ?_) (fun h => ?_)
   | refine qg (fun h => ?_) (fun h => ?_)
   | refine yq env rfl rfl (zj ?_)
   | refine jm env rfl (zj ?_)
  all_goals rfl
 cases k2 : Js n
 case false =>
  have e : uj n = 7 := by simp [uj, Y6, k0, k1, k2]
  rw [Zq, e]
  refine ji (T := tt) (N := 44) (rs := [.tmp 2]) (fun vs w => by simp) Tryz.func40 rfl rfl rfl rfl (by kernel_rfl) (jl rfl) (zh _ rfl) ?_
  repeat' first
   | refine ke env rfl ?_
   | (refine qo ?_ ?_; (· simp only [k0, Bool.not_true, Bool.not_false]))
   | (refine qp ?_ ?_; (· simp only [k0, Bool.not_true, Bool.not_false]))
   | (refine qr ?_ ?_; (· simp only [k0, Bool.not_true, Bool.not_false]))
   | (refine qq ?_ ?_; (· simp only [k0, Bool.not_true, Bool.not_false]))
   | (refine q9 ?_ ?_; (· simp only [k0, Bool.not_true, Bool.not_false]))
   | (refine za ?_ ?_; (· simp only [k0, Bool.not_true, Bool.not_false]))
   | (refine qo ?_ ?_; (· simp only [k1, Bool.not_true, Bool.not_false]))
   | (refine qp ?_ ?_; (· simp only [k1, Bool.not_true, Bool.not_false]))
   | (refine qr ?_ ?_; (· simp only [k1, Bool.not_true, Bool.not_false]))
   | (refine qq ?_ ?_; (· simp only [k1, Bool.not_true, Bool.not_false]))
   | (refine q9 ?_ ?_; (· simp only [k1, Bool.not_true, Bool.not_false]))
   | (refine za ?_ ?_; (· simp only [k1, Bool.not_true, Bool.not_false]))
   | (refine qo ?_ ?_; (· simp only [k2, Bool.not_true, Bool.not_false]))
   | (refine qp ?_ ?_; (· simp only [k2, Bool.not_true, Bool.not_false]))
   | (refine qr ?_ ?_; (· simp only [k2, Bool.not_true, Bool.not_false]))
   | (refine qq ?_ ?_; (· simp only [k2, Bool.not_true, Bool.not_false]))
   | (refine q9 ?_ ?_; (· simp only [k2, Bool.not_true, Bool.not_false]))
   | (refine za ?_ ?_; (· simp only [k2, Bool.not_true, Bool.not_false]))
   | refine qt (kt _) ?_
   | refine qt (Ju n k0 hk) ?_
   | refine qt (Z4 n k0) ?_
   | refine qv (fun h => ?_) (fun h => ?_)
   | refine q8 (fun h => ?_) (fun h => ?_)
   | refine qg (fun h => ?_) (fun h => ?_)
   | refine yq env rfl rfl (zj ?_)
   | refine jm env rfl (zj ?_)
  all_goals rfl
 cases k3 : Ya n
 case false =>
  have e : uj n = 7 := by simp [uj, Y6, k0, k1, k2, k3]
  rw [Zq, e]
  refine ji (T := tt) (N := 44) (rs := [.tmp 2]) (fun vs w => by simp) Tryz.func40 rfl rfl rfl rfl (by kernel_rfl) (jl rfl) (zh _ rfl) ?_
  repeat' first
   | refine ke env rfl ?_
   | (refine qo ?_ ?_; (· simp only [k0, Bool.not_true, Bool.not_false]))
   | (refine qp ?_ ?_; (· simp only [k0, Bool.not_true, Bool.not_false]))
   | (refine qr ?_ ?_; (· simp only [k0, Bool.not_true, Bool.not_false]))
   | (refine qq ?_ ?_; (· simp only [k0, Bool.not_true, Bool.not_false]))
   | (refine q9 ?_ ?_; (· simp only [k0, Bool.not_true, Bool.not_false]))
   | (refine za ?_ ?_; (· simp only [k0, Bool.not_true, Bool.not_false]))
   | (refine qo ?_ ?_; (· simp only [k1, Bool.not_true, Bool.not_false]))
   | (refine qp ?_ ?_; (· simp only [k1, Bool.not_true, Bool.not_false]))
   | (refine qr ?_ ?_; (· simp only [k1, Bool.not_true, Bool.not_false]))
   | (refine qq ?_ ?_; (· simp only [k1, Bool.not_true, Bool.not_false]))
   | (refine q9 ?_ ?_; (· simp only [k1, Bool.not_true, Bool.not_false]))
   | (refine za ?_ ?_; (· simp only [k1, Bool.not_true, Bool.not_false]))
   | (refine qo ?_ ?_; (· simp only [k2, Bool.not_true, Bool.not_false]))
   | (refine qp ?_ ?_; (· simp only [k2, Bool.not_true, Bool.not_false]))
   | (refine qr ?_ ?_; (· simp only [k2, Bool.not_true, Bool.not_false]))
   | (refine qq ?_ ?_; (· simp only [k2, Bool.not_true, Bool.not_false]))
   | (refine q9 ?_ ?_; (· simp only [k2, Bool.not_true, Bool.not_false]))
   | (refine za ?_ ?_; (· simp only [k2, Bool.not_true, Bool.not_false]))
   | (refine qo ?_ ?_; (· simp only [k3, Bool.not_true, Bool.not_false]))
   | (refine qp ?_ ?_; (· simp only [k3, Bool.not_true, Bool.not_false]))
   | (refine qr ?_ ?_; (· simp only [k3, Bool.not_true, Bool.not_false]))
   | (refine qq ?_ ?_; (· simp only [k3, Bool.not_true, Bool.not_false]))
   | (refine q9 ?_ ?_; (· simp only [k3, Bool.not_true, Bool.not_false]))
   | (refine za ?_ ?_; (· simp only [k3, Bool.not_true, Bool.not_false]))
   | refine qt (kt _) ?_
   | refine qt (Ju n k0 hk) ?_
   | refine qt (Z4 n k0) ?_
   | refine qt (Kb n (qdk n k1 k0)) ?_
   | refine qv (fun h => ?_) (fun h => ?_)
   | refine q8 (fun h => ?_) (fun h => ?_)
   | refine qg (fun h => ?_) (fun h => ?_)
   | refine yq env rfl rfl (zj ?_)
   | refine jm env rfl (zj ?_)
  all_goals rfl
 cases k4 : Kf n
 case false =>
  have e : uj n = 4 := by simp [uj, Y6, k0, k1, k2, k3, k4]
  rw [Zq, e]
  refine ji (T := tt) (N := 44) (rs := [.tmp 2]) (fun vs w => by simp) Tryz.func40 rfl rfl rfl rfl (by kernel_rfl) (jl rfl) (zh _ rfl) ?_
  repeat' first
   | refine ke env rfl ?_
   | (refine qo ?_ ?_; (· simp only [k0, Bool.not_true, Bool.not_false]))
   | (refine qp ?_ ?_; (· simp only [k0, Bool.not_true, Bool.not_false]))
   | (refine qr ?_ ?_; (· simp only [k0, Bool.not_true, Bool.not_false]))
   | (refine qq ?_ ?_; (· simp only [k0, Bool.not_true, Bool.not_false]))
   | (refine q9 ?_ ?_; (· simp only [k0, Bool.not_true, Bool.not_false]))
   | (refine za ?_ ?_; (· simp only [k0, Bool.not_true, Bool.not_false]))
   | (refine qo ?_ ?_; (· simp only [k1, Bool.not_true, Bool.not_false]))
   | (refine qp ?_ ?_; (· simp only [k1, Bool.not_true, Bool.not_false]))
   | (refine qr ?_ ?_; (· simp only [k1, Bool.not_true, Bool.not_false]))
   | (refine qq ?_ ?_; (· simp only [k1, Bool.not_true, Bool.not_false]))
   | (refine q9 ?_ ?_; (· simp only [k1, Bool.not_true, Bool.not_false]))
   | (refine za ?_ ?_; (· simp only [k1, Bool.not_true, Bool.not_false]))
   | (refine qo ?_ ?_; (· simp only [k2, Bool.not_true, Bool.not_false]))
   | (refine qp ?_ ?_; (· simp only [k2, Bool.not_true, Bool.not_false]))
   | (refine qr ?_ ?_; (· simp only [k2, Bool.not_true, Bool.not_false]))
   | (refine qq ?_ ?_; (· simp only [k2, Bool.not_true, Bool.not_false]))
   | (refine q9 ?_ ?_; (· simp only [k2, Bool.not_true, Bool.not_false]))
   | (refine za ?_ ?_; (· simp only [k2, Bool.not_true, Bool.not_false]))
   | (refine qo ?_ ?_; (· simp only [k3, Bool.not_true, Bool.not_false]))
   | (refine qp ?_ ?_; (· simp only [k3, Bool.not_true, Bool.not_false]))
   | (refine qr ?_ ?_; (· simp only [k3, Bool.not_true, Bool.not_false]))
   | (refine qq ?_ ?_; (· simp only [k3, Bool.not_true, Bool.not_false]))
   | (refine q9 ?_ ?_; (· simp only [k3, Bool.not_true, Bool.not_false]))
   | (refine za ?_ ?_; (· simp only [k3, Bool.not_true, Bool.not_false]))
   | (refine qo ?_ ?_; (· simp only [k4, Bool.not_true, Bool.not_false]))
   | (refine qp ?_ ?_; (· simp only [k4, Bool.not_true, Bool.not_false]))
   | (refine qr ?_ ?_; (· simp only [k4, Bool.not_true, Bool.not_false]))
   | (refine qq ?_ ?_; (· simp only [k4, Bool.not_true, Bool.not_false]))
   | (refine q9 ?_ ?_; (· simp only [k4, Bool.not_true, Bool.not_false]))
   | (refine za ?_ ?_; (· simp only [k4, Bool.not_true, Bool.not_false]))
   | refine qt (kt _) ?_
   | refine qt (Ju n k0 hk) ?_
   | refine qt (Z4 n k0) ?_
   | refine qt (Kb n (qdk n k1 k0)) ?_
   | refine qt (qat n k0) ?_
   | refine qv (fun h => ?_) (fun h => ?_)
   | refine q8 (fun h => ?_) (fun h => ?_)
   | refine qg (fun h => ?_) (fun h => ?_)
   | refine yq env rfl rfl (zj ?_)
   | refine jm env rfl (zj ?_)
  all_goals rfl
 cases k5 : qet n
 case false =>
  have e : uj n = 7 := by simp [uj, Y6, k0, k1, k2, k3, k4, k5]
  rw [Zq, e]
  refine ji (T := tt) (N := 44) (rs := [.tmp 2]) (fun vs w => by simp) Tryz.func40 rfl rfl rfl rfl (by kernel_rfl) (jl rfl) (zh _ rfl) ?_
  repeat' first
   | refine ke env rfl ?_
   | (refine qo ?_ ?_; (· simp only [k0, Bool.not_true, Bool.not_false]))
   | (refine qp ?_ ?_; (· simp only [k0, Bool.not_true, Bool.not_false]))
   | (refine qr ?_ ?_; (· simp only [k0, Bool.not_true, Bool.not_false]))
   | (refine qq ?_ ?_; (· simp only [k0, Bool.not_true, Bool.not_false]))
   | (refine q9 ?_ ?_; (· simp only [k0, Bool.not_true, Bool.not_false]))
   | (refine za ?_ ?_; (· simp only [k0, Bool.not_true, Bool.not_false]))
   | (refine qo ?_ ?_; (· simp only [k1, Bool.not_true, Bool.not_false]))
   | (refine qp ?_ ?_; (· simp only [k1, Bool.not_true, Bool.not_false]))
   | (refine qr ?_ ?_; (· simp only [k1, Bool.not_true, Bool.not_false]))
   | (refine qq ?_ ?_; (· simp only [k1, Bool.not_true, Bool.not_false]))
   | (refine q9 ?_ ?_; (· simp only [k1, Bool.not_true, Bool.not_false]))
   | (refine za ?_ ?_; (· simp only [k1, Bool.not_true, Bool.not_false]))
   | (refine qo ?_ ?_; (· simp only [k2, Bool.not_true, Bool.not_false]))
   | (refine qp ?_ ?_; (· simp only [k2, Bool.not_true, Bool.not_false]))
   | (refine qr ?_ ?_; (· simp only [k2, Bool.not_true, Bool.not_false]))
   | (refine qq ?_ ?_; (· simp only [k2, Bool.not_true, Bool.not_false]))
   | (refine q9 ?_ ?_; (· simp only [k2, Bool.not_true, Bool.not_false]))
   | (refine za ?_ ?_; (· simp only [k2, Bool.not_true, Bool.not_false]))
   | (refine qo ?_ ?_; (· simp only [k3, Bool.not_true, Bool.not_false]))
   | (refine qp ?_ ?_; (· simp only [k3, Bool.not_true, Bool.not_false]))
   | (refine qr ?_ ?_; (· simp only [k3, Bool.not_true, Bool.not_false]))
   | (refine qq ?_ ?_; (· simp only [k3, Bool.not_true, Bool.not_false]))
   | (refine q9 ?_ ?_; (· simp only [k3, Bool.not_true, Bool.not_false]))
   | (refine za ?_ ?_; (· simp only [k3, Bool.not_true, Bool.not_false]))
   | (refine qo ?_ ?_; (· simp only [k4, Bool.not_true, Bool.not_false]))
   | (refine qp ?_ ?_; (· simp only [k4, Bool.not_true, Bool.not_false]))
   | (refine qr ?_ ?_; (· simp only [k4, Bool.not_true, Bool.not_false]))
   | (refine qq ?_ ?_; (· simp only [k4, Bool.not_true, Bool.not_false]))
   | (refine q9 ?_ ?_; (· simp only [k4, Bool.not_true, Bool.not_false]))
   | (refine za ?_ ?_; (· simp only [k4, Bool.not_true, Bool.not_false]))
   | (refine qo ?_ ?_; (· simp only [k5, Bool.not_true, Bool.not_false]))
   | (refine qp ?_ ?_; (· simp only [k5, Bool.not_true, Bool.not_false]))
   | (refine qr ?_ ?_; (· simp only [k5, Bool.not_true, Bool.not_false]))
   | (refine qq ?_ ?_; (· simp only [k5, Bool.not_true, Bool.not_false]))
   | (refine q9 ?_ ?_; (· simp only [k5, Bool.not_true, Bool.not_false]))
   | (refine za ?_ ?_; (· simp only [k5, Bool.not_true, Bool.not_false]))
   | refine qt (kt _) ?_
   | refine qt (Ju n k0 hk) ?_
   | refine qt (Z4 n k0) ?_
   | refine qt (Kb n (qdk n k1 k0)) ?_
   | refine qt (qat n k0) ?_
   | refine qt (qhp n hg hk hs) ?_
   | refine qv (fun h => ?_) (fun h => ?_)
   | refine q8 (fun h => ?_) (fun h => ?_)
   | refine qg (fun h => ?_) (fun h => ?_)
   | refine yq env rfl rfl (zj ?_)
   | refine jm env rfl (zj ?_)
  all_goals rfl
 have e : uj n = 0 := by simp [uj, Y6, k0, k1, k2, k3, k4, k5]
 rw [Zq, e, if_pos rfl]
 refine ji (T := tt) (N := 44) (rs := [.tmp 2]) (fun vs w => by simp) Tryz.func40 rfl rfl rfl rfl (by kernel_rfl) (jl rfl) (zh _ rfl) ?_
 repeat' first
  | refine ke env rfl ?_
  | (refine qfo (α := Nat) (fun i => i ≤ n.kids.length ∧ kv n.kids = kv (n.kids.drop i)) (fun i => n.kids.length - i) (fun i => [(34, .int .i64 i)]) (fun _ => []) (0) (fun _ => rfl) (fun _ => rfl) (⟨Nat.zero_le _, rfl⟩) ?_ ?_ (fun i hJ => ?_); (· simp [leFT, leV, leOs, leO, leC, rho, AV.ren, AV.ren1, AV.un, AV.un1, AV.closed]); (· simp [leFT, leV, leOs, leO, leC, rho, AV.ren, AV.ren1, AV.un, AV.un1, AV.closed]); rcases qu5 n.kids i hk hJ with ⟨m, hm, hmem, hlt, hb, hw, ⟨g1, he⟩ | ⟨g1, he⟩⟩ | ⟨hb, he⟩)
  | refine qfn rfl ?_
  | refine qcn rfl rfl ?_
  | (refine qdu (i + 1) ?_ ?_ ?_ ?_; (· exact ⟨by omega, he⟩); (· omega); (· (simp only [hw]; simp [leFT, leV, leOs, leO, leC, rho, AV.ren, AV.ren1, AV.un, AV.un1, AV.closed])); (· simp [leFT, leV, leOs, leO, leC, rho, AV.ren, AV.ren1, AV.un, AV.un1, AV.closed]))
  | (refine qo ?_ ?_; (· simp only [k0, Bool.not_true, Bool.not_false]))
  | (refine qp ?_ ?_; (· simp only [k0, Bool.not_true, Bool.not_false]))
  | (refine qr ?_ ?_; (· simp only [k0, Bool.not_true, Bool.not_false]))
  | (refine qq ?_ ?_; (· simp only [k0, Bool.not_true, Bool.not_false]))
  | (refine q9 ?_ ?_; (· simp only [k0, Bool.not_true, Bool.not_false]))
  | (refine za ?_ ?_; (· simp only [k0, Bool.not_true, Bool.not_false]))
  | (refine qo ?_ ?_; (· simp only [k1, Bool.not_true, Bool.not_false]))
  | (refine qp ?_ ?_; (· simp only [k1, Bool.not_true, Bool.not_false]))
  | (refine qr ?_ ?_; (· simp only [k1, Bool.not_true, Bool.not_false]))
  | (refine qq ?_ ?_; (· simp only [k1, Bool.not_true, Bool.not_false]))
  | (refine q9 ?_ ?_; (· simp only [k1, Bool.not_true, Bool.not_false]))
  | (refine za ?_ ?_; (· simp only [k1, Bool.not_true, Bool.not_false]))
  | (refine qo ?_ ?_; (· simp only [k2, Bool.not_true, Bool.not_false]))
  | (refine qp ?_ ?_; (· simp only [k2, Bool.not_true, Bool.not_false]))
  | (refine qr ?_ ?_; (· simp only [k2, Bool.not_true, Bool.not_false]))
  | (refine qq ?_ ?_; (· simp only [k2, Bool.not_true, Bool.not_false]))
  | (refine q9 ?_ ?_; (· simp only [k2, Bool.not_true, Bool.not_false]))
  | (refine za ?_ ?_; (· simp only [k2, Bool.not_true, Bool.not_false]))
  | (refine qo ?_ ?_; (· simp only [k3, Bool.not_true, Bool.not_false]))
  | (refine qp ?_ ?_; (· simp only [k3, Bool.not_true, Bool.not_false]))
  | (refine qr ?_ ?_; (· simp only [k3, Bool.not_true, Bool.not_false]))
  | (refine qq ?_ ?_; (· simp only [k3, Bool.not_true, Bool.not_false]))
  | (refine q9 ?_ ?_; (· simp only [k3, Bool.not_true, Bool.not_false]))
  | (refine za ?_ ?_; (· simp only [k3, Bool.not_true, Bool.not_false]))
  | (refine qo ?_ ?_; (· simp only [k4, Bool.not_true, Bool.not_false]))
  | (refine qp ?_ ?_; (· simp only [k4, Bool.not_true, Bool.not_false]))
  | (refine qr ?_ ?_; (· simp only [k4, Bool.not_true, Bool.not_false]))
  | (refine qq ?_ ?_; (· simp only [k4, Bool.not_true, Bool.not_false]))
  | (refine q9 ?_ ?_; (· simp only [k4, Bool.not_true, Bool.not_false]))
  | (refine za ?_ ?_; (· simp only [k4, Bool.not_true, Bool.not_false]))
  | (refine qo ?_ ?_; (· simp only [k5, Bool.not_true, Bool.not_false]))
  | (refine qp ?_ ?_; (· simp only [k5, Bool.not_true, Bool.not_false]))
  | (refine qr ?_ ?_; (· simp only [k5, Bool.not_true, Bool.not_false]))
  | (refine qq ?_ ?_; (· simp only [k5, Bool.not_true, Bool.not_false]))
  | (refine q9 ?_ ?_; (· simp only [k5, Bool.not_true, Bool.not_false]))
  | (refine za ?_ ?_; (· simp only [k5, Bool.not_true, Bool.not_false]))
  | (refine qo ?_ ?_; (· simp only [hb]))
  | (refine qp ?_ ?_; (· simp only [hb]))
  | (refine qr ?_ ?_; (· simp only [hb]))
  | (refine qq ?_ ?_; (· simp only [hb]))
  | (refine q9 ?_ ?_; (· simp only [hb]))
  | (refine za ?_ ?_; (· simp only [hb]))
  | (refine qo ?_ ?_; (· simp only [g1, Bool.not_true, Bool.not_false]))
  | (refine qp ?_ ?_; (· simp only [g1, Bool.not_true, Bool.not_false]))
  | (refine qr ?_ ?_; (· simp only [g1, Bool.not_true, Bool.not_false]))
  | (refine qq ?_ ?_; (· simp only [g1, Bool.not_true, Bool.not_false]))
  | (refine q9 ?_ ?_; (· simp only [g1, Bool.not_true, Bool.not_false]))
  | (refine za ?_ ?_; (· simp only [g1, Bool.not_true, Bool.not_false]))
  | refine qf0 env rfl rfl rfl rfl rfl (qin hm) ?_
  | refine qt (kt _) ?_
  | refine qt (Ju n k0 hk) ?_
  | refine qt (Z4 n k0) ?_
  | refine qt (Kb n (qdk n k1 k0)) ?_
  | refine qt (qat n k0) ?_
  | refine qt (qhp n hg hk hs) ?_
  | refine qt (ih m hmem) ?_
  | refine qv (fun h => ?_) (fun h => ?_)
  | refine q8 (fun h => ?_) (fun h => ?_)
  | refine qg (fun h => ?_) (fun h => ?_)
  | refine yq env rfl rfl (zj ?_)
  | refine jm env rfl (zj ?_)
 all_goals refine qdm ?_
 all_goals rw [he]
def jt (o : Option Nat) (left : Int) : Int := match o with
 | some s => if (s : Int) ≤ left then left - s else -1
 | none => -1
theorem qzt : ∀ (n : Node) (d s : Nat), size? n d = some s → 0 < s := by
 intro n d s h
 cases n with
 | mk k t g l =>
   cases d with
   | zero => simp [size?] at h
   | succ d =>
     simp only [size?] at h
     split at h
     ·cases h
     ·simp only [Option.map_eq_some_iff] at h
      obtain ⟨a, _, rfl⟩ := h
      omega
theorem qx9 (n : Node) : size? n 0 = none := by cases n; rfl
theorem qif (n : Node) (d : Nat) : size? n (d + 1) = if most n.kind < (n.kids.length : Int) then none else (sizeL? n.kids d).map (· + 1) := by cases n; rfl
theorem qam (m : Node) (l : List Node) (d : Nat) : sizeL? (m :: l) d = match size? m d, sizeL? l d with | some a, some b => some (a + b) | _, _ => none := rfl
theorem qr7 (m : Node) (l : List Node) (d : Nat) (left : Int) (h0 : 0 ≤ left) :
 (jt (size? m d) left < 0 ∧ jt (sizeL? (m :: l) d) left = -1) ∨ (0 ≤ jt (size? m d) left ∧ jt (size? m d) left ≤ left ∧ jt (sizeL? (m :: l) d) left = jt (sizeL? l d) (jt (size? m d) left)) := by
 rw [qam]
 cases ha : size? m d with
 | none => exact .inl ⟨by simp [jt], by simp [jt]⟩
 | some a =>
   by_cases hl : (a : Int) ≤ left
   ·refine .inr ⟨by simp only [jt, if_pos hl]; omega, by simp only [jt, if_pos hl]; omega, ?_⟩
    cases hb : sizeL? l d with
    | none => simp [jt]
    | some b =>
      simp only [jt, if_pos hl]
      by_cases h2 : (b : Int) ≤ left - a
      ·rw [if_pos (by omega), if_pos h2]; omega
      ·rw [if_neg (by omega), if_neg h2]
   ·refine .inl ⟨by simp only [jt, if_neg hl]; omega, ?_⟩
    cases hb : sizeL? l d with
    | none => simp [jt]
    | some b => simp only [jt]; rw [if_neg (by omega)]
theorem qr6 (n : Node) (left : Int) (d : Nat) (hl : 0 < left) : jt (size? n (d + 1)) left = if most n.kind < (n.kids.length : Int) then -1 else jt (sizeL? n.kids d) (left - 1) := by
 rw [qif]
 split
 ·rfl
 ·cases hb : sizeL? n.kids d with
  | none => rfl
  | some b =>
    simp only [Option.map_some, jt]
    by_cases h : (b : Int) ≤ left - 1
    ·rw [if_pos (by omega), if_pos h]; omega
    ·rw [if_neg (by omega), if_neg h]
theorem qr5 (l : List Node) (d i : Nat) (top left : Int) (hl : l.length ≤ 9223372036854775807) (hJ : i ≤ l.length ∧ 0 ≤ left ∧ left ≤ top ∧ jt (sizeL? l d) top = jt (sizeL? (l.drop i) d) left) :
 (∃ m, l[i]? = some m ∧ m ∈ l ∧ i < l.length ∧ decide ((i : Int) < ((l.map Node.cells).length : Int)) = true ∧ IntKind.i64.wrap ((i : Int) + 1) = ((i + 1 : Nat) : Int) ∧
   ((decide (jt (size? m d) left < 0) = true ∧ jt (sizeL? l d) top = -1) ∨
    (decide (jt (size? m d) left < 0) = false ∧ 0 ≤ jt (size? m d) left ∧ jt (size? m d) left ≤ top ∧ jt (sizeL? l d) top = jt (sizeL? (l.drop (i + 1)) d) (jt (size? m d) left)))) ∨
 (decide ((i : Int) < ((l.map Node.cells).length : Int)) = false ∧ jt (sizeL? l d) top = left) := by
 obtain ⟨h1, h2, h3, h4⟩ := hJ
 rcases Nat.lt_or_ge i l.length with h | h
 ·refine .inl ⟨l[i], List.getElem?_eq_getElem h, List.getElem_mem h, h, by simpa using h, wr (by omega) (by omega), ?_⟩
  rw [h4, List.drop_eq_getElem_cons h]
  rcases qr7 l[i] (l.drop (i + 1)) d left h2 with ⟨a, b⟩ | ⟨a, b, c⟩
  ·exact .inl ⟨decide_eq_true a, b⟩
  ·exact .inr ⟨decide_eq_false (by omega), a, by omega, c⟩
 ·refine .inr ⟨by simpa using h, ?_⟩
  rw [h4, List.drop_of_length_le h]
  show jt (some 0) left = left
  simp only [jt]
  rw [if_pos (by omega)]; omega
set_option maxHeartbeats 4000000 in
/-- grammar.within -/
theorem qmp : ∀ n : Node, Wf n → ∀ (left : Int) (d : Int), -9223372036854775808 ≤ left → left ≤ 9223372036854775807 → -9223372036854775808 ≤ d → d ≤ 9223372036854775807 →
 Fn Tryz.prog G 39 [.agg (zp n), .int .i64 left, .int .i64 d] (.int .i64 (jt (size? n d.toNat) left)) := by
 intro n hwf
 induction hwf with | mk n hk hg ht hs _ ih => ?_
 intro left d hl0 hl1 hd0 hd1
 by_cases c1 : left ≤ 0
 case pos =>
  have e1 : decide (left ≤ 0) = true := decide_eq_true c1
  have e : jt (size? n d.toNat) left = -1 := by
   unfold jt
   split
   ·rename_i s h; have := qzt n _ s h; rw [if_neg (by omega)]
   ·rfl
  rw [e]
  refine ji (T := tt) (N := 42) (rs := [.tmp 6]) (fun vs w => by simp) Tryz.func39 rfl rfl rfl rfl (by kernel_rfl) (jl rfl) (zh _ rfl) ?_
  repeat' first
   | refine ke env rfl ?_
   | (refine qo ?_ ?_; (· simp only [e1]))
   | (refine qp ?_ ?_; (· simp only [e1]))
   | (refine qr ?_ ?_; (· simp only [e1]))
   | (refine qq ?_ ?_; (· simp only [e1]))
   | (refine q9 ?_ ?_; (· simp only [e1]))
   | (refine za ?_ ?_; (· simp only [e1]))
   | refine qv (fun h => ?_) (fun h => ?_)
   | refine q8 (fun h => ?_) (fun h => ?_)
   | refine qg (fun h => ?_) (fun h => ?_)
   | refine yq env rfl rfl (zj ?_)
   | refine jm env rfl (zj ?_)
  all_goals rfl
 have e1 : decide (left ≤ 0) = false := decide_eq_false c1
 by_cases c2 : d ≤ 0
 case pos =>
  have e2 : decide (d ≤ 0) = true := decide_eq_true c2
  have e : jt (size? n d.toNat) left = -1 := by rw [show d.toNat = 0 by omega, qx9]; rfl
  rw [e]
  refine ji (T := tt) (N := 42) (rs := [.tmp 6]) (fun vs w => by simp) Tryz.func39 rfl rfl rfl rfl (by kernel_rfl) (jl rfl) (zh _ rfl) ?_
  repeat' first
   | refine ke env rfl ?_
   | (refine qo ?_ ?_; (· simp only [e1]))
   | (refine qp ?_ ?_; (· simp only [e1]))
   | (refine qr ?_ ?_; (· simp only [e1]))
   | (refine qq ?_ ?_; (· simp only [e1]))
   | (refine q9 ?_ ?_; (· simp only [e1]))
   | (refine za ?_ ?_; (· simp only [e1]))
   | (refine qo ?_ ?_; (· simp only [e2]))
   | (refine qp ?_ ?_; (· simp only [e2]))
   | (refine qr ?_ ?_; (· simp only [e2]))
   | (refine qq ?_ ?_; (· simp only [e2]))
   | (refine q9 ?_ ?_; (· simp only [e2]))
   | (refine za ?_ ?_; (· simp only [e2]))
   | refine qv (fun h => ?_) (fun h => ?_)
   | refine q8 (fun h => ?_) (fun h => ?_)
   | refine qg (fun h => ?_) (fun h => ?_)
   | refine yq env rfl rfl (zj ?_)
   | refine jm env rfl (zj ?_)
  all_goals rfl
 have e2 : decide (d ≤ 0) = false := decide_eq_false c2
 obtain ⟨d, rfl⟩ : ∃ q : Nat, d = ((q + 1 : Nat) : Int) := ⟨d.toNat - 1, by omega⟩
 rw [Int.toNat_natCast, qr6 n left d (by omega)]
 by_cases c3 : most n.kind < (n.kids.length : Int)
 case pos =>
  have e3 : decide (most n.kind < ((n.kids.map Node.cells).length : Int)) = true := by simpa using c3
  rw [if_pos c3]
  refine ji (T := tt) (N := 42) (rs := [.tmp 6]) (fun vs w => by simp) Tryz.func39 rfl rfl rfl rfl (by kernel_rfl) (jl rfl) (zh _ rfl) ?_
  repeat' first
   | refine ke env rfl ?_
   | (refine qo ?_ ?_; (· simp only [e1]))
   | (refine qp ?_ ?_; (· simp only [e1]))
   | (refine qr ?_ ?_; (· simp only [e1]))
   | (refine qq ?_ ?_; (· simp only [e1]))
   | (refine q9 ?_ ?_; (· simp only [e1]))
   | (refine za ?_ ?_; (· simp only [e1]))
   | (refine qo ?_ ?_; (· simp only [e2]))
   | (refine qp ?_ ?_; (· simp only [e2]))
   | (refine qr ?_ ?_; (· simp only [e2]))
   | (refine qq ?_ ?_; (· simp only [e2]))
   | (refine q9 ?_ ?_; (· simp only [e2]))
   | (refine za ?_ ?_; (· simp only [e2]))
   | (refine qo ?_ ?_; (· simp only [e3]))
   | (refine qp ?_ ?_; (· simp only [e3]))
   | (refine qr ?_ ?_; (· simp only [e3]))
   | (refine qq ?_ ?_; (· simp only [e3]))
   | (refine q9 ?_ ?_; (· simp only [e3]))
   | (refine za ?_ ?_; (· simp only [e3]))
   | refine qt (qho _) ?_
   | refine qv (fun h => ?_) (fun h => ?_)
   | refine q8 (fun h => ?_) (fun h => ?_)
   | refine qg (fun h => ?_) (fun h => ?_)
   | refine yq env rfl rfl (zj ?_)
   | refine jm env rfl (zj ?_)
  all_goals rfl
 have e3 : decide (most n.kind < ((n.kids.map Node.cells).length : Int)) = false := by simpa using c3
 rw [if_neg c3]
 have w1 : IntKind.i64.wrap (left - 1) = left - 1 := wr (by omega) (by omega)
 have w2 : IntKind.i64.wrap (((d + 1 : Nat) : Int) - 1) = (d : Int) := by rw [wr (by omega) (by omega)]; omega
 refine ji (T := tt) (N := 42) (rs := [.tmp 6]) (fun vs w => by simp) Tryz.func39 rfl rfl rfl rfl (by kernel_rfl) (jl rfl) (zh _ rfl) ?_
 repeat' first
  | refine ke env rfl ?_
  | (refine qfo (α := Nat × Int) (fun a => a.1 ≤ n.kids.length ∧ 0 ≤ a.2 ∧ a.2 ≤ left - 1 ∧ jt (sizeL? n.kids d) (left - 1) = jt (sizeL? (n.kids.drop a.1) d) a.2) (fun a => n.kids.length - a.1) (fun a => [(29, .int .i64 a.1), (1, .int .i64 a.2)]) (fun _ => []) ((0, left - 1)) (fun _ => rfl) (fun _ => rfl) (⟨Nat.zero_le _, by show 0 ≤ left - 1; omega, Int.le_refl _, rfl⟩) ?_ ?_ (fun ⟨i, r⟩ hJ => ?_); (· (simp only [w1]; simp [leFT, leV, leOs, leO, leC, rho, AV.ren, AV.ren1, AV.un, AV.un1, AV.closed])); (· (simp only [w1]; simp [leFT, leV, leOs, leO, leC, rho, AV.ren, AV.ren1, AV.un, AV.un1, AV.closed])); rcases qr5 n.kids d i (left - 1) r hk hJ with ⟨m, hm, hmem, hlt, hb, hw, ⟨g1, he⟩ | ⟨g1, p1, p2, he⟩⟩ | ⟨hb, he⟩)
  | refine qfn rfl ?_
  | refine qcn rfl rfl ?_
  | (refine qdu ((i + 1, jt (size? m d) r)) ?_ ?_ ?_ ?_; (· exact ⟨by show i + 1 ≤ n.kids.length; omega, p1, p2, he⟩); (· (show n.kids.length - (i + 1) < n.kids.length - i; omega)); (· (simp only [hw]; simp [leFT, leV, leOs, leO, leC, rho, AV.ren, AV.ren1, AV.un, AV.un1, AV.closed])); (· simp [leFT, leV, leOs, leO, leC, rho, AV.ren, AV.ren1, AV.un, AV.un1, AV.closed]))
  | refine qf0 env rfl rfl rfl rfl rfl (qin hm) ?_
  | refine qt (x := .int .i64 (jt (size? m d) r)) (by rw [w2]; exact ih m hmem r d (by omega) (by omega) (by omega) (by omega)) ?_
  | (refine qo ?_ ?_; (· simp only [e1]))
  | (refine qp ?_ ?_; (· simp only [e1]))
  | (refine qr ?_ ?_; (· simp only [e1]))
  | (refine qq ?_ ?_; (· simp only [e1]))
  | (refine q9 ?_ ?_; (· simp only [e1]))
  | (refine za ?_ ?_; (· simp only [e1]))
  | (refine qo ?_ ?_; (· simp only [e2]))
  | (refine qp ?_ ?_; (· simp only [e2]))
  | (refine qr ?_ ?_; (· simp only [e2]))
  | (refine qq ?_ ?_; (· simp only [e2]))
  | (refine q9 ?_ ?_; (· simp only [e2]))
  | (refine za ?_ ?_; (· simp only [e2]))
  | (refine qo ?_ ?_; (· simp only [e3]))
  | (refine qp ?_ ?_; (· simp only [e3]))
  | (refine qr ?_ ?_; (· simp only [e3]))
  | (refine qq ?_ ?_; (· simp only [e3]))
  | (refine q9 ?_ ?_; (· simp only [e3]))
  | (refine za ?_ ?_; (· simp only [e3]))
  | (refine qo ?_ ?_; (· simp only [hb]))
  | (refine qp ?_ ?_; (· simp only [hb]))
  | (refine qr ?_ ?_; (· simp only [hb]))
  | (refine qq ?_ ?_; (· simp only [hb]))
  | (refine q9 ?_ ?_; (· simp only [hb]))
  | (refine za ?_ ?_; (· simp only [hb]))
  | (refine qo ?_ ?_; (· simp only [g1]))
  | (refine qp ?_ ?_; (· simp only [g1]))
  | (refine qr ?_ ?_; (· simp only [g1]))
  | (refine qq ?_ ?_; (· simp only [g1]))
  | (refine q9 ?_ ?_; (· simp only [g1]))
  | (refine za ?_ ?_; (· simp only [g1]))
  | refine qt (qho _) ?_
  | refine qv (fun h => ?_) (fun h => ?_)
  | refine q8 (fun h => ?_) (fun h => ?_)
  | refine qg (fun h => ?_) (fun h => ?_)
  | refine yq env rfl rfl (zj ?_)
  | refine jm env rfl (zj ?_)
 all_goals refine qdm ?_
 all_goals rw [he]
end Go.Proofs.YtigmilhpeodhbaaGreatDoorW.Ex.Gr
