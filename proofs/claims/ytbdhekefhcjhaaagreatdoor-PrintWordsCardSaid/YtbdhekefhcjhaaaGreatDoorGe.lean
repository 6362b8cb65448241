/- A node's kids. No conditions beside those in each theorem. -/
import Derived.Test.YtbdhekefhcjhaaaGreatDoorGd
namespace Go.Proofs.YtbdhekefhcjhaaaGreatDoorW.Ex.Gr
open Go Go.Proofs.YtbdhekefhcjhaaaGreatDoorW.Ex
set_option linter.all false
set_option maxRecDepth 100000
set_option maxHeartbeats 4000000 in
theorem w0 (n : Node) (hkn : known n.kind = true) (hk : n.kids.length ≤ 9223372036854775807) : Fn Tryz.prog G 60 [.agg (zk n)] (.bool (Qi n)) := by
 have kb := ww hkn
 have h0 : 0 ≤ n.kind := by omega
 have h2 : n.kind.toNat < 27 := by omega
 have hg := g0_take n.kind h2
 refine zd (T := tt) (N := 57) (rs := [.tmp 2]) (fun vs w => by simp) Tryz.func60 rfl rfl rfl rfl (by kernel_rfl) (zf rfl) (qt _ rfl) ?_
 repeat' first
  | refine zn env rfl ?_
  | refine Ok_ixa env rfl rfl rfl rfl h0 h2 hg ?_
  | (refine wd (α := Nat) (fun i => i ≤ (n.kids).length ∧ yl (fun i m => fits n.kind i m.kind) 0 (n.kids) = yl (fun i m => fits n.kind i m.kind) i ((n.kids).drop i)) (fun i => (n.kids).length - i) (fun i => [(44, .int .i64 i)]) (fun _ => []) (0) (fun _ => rfl) (fun _ => rfl) (⟨Nat.zero_le _, rfl⟩) ?_ ?_ (fun i hJ => ?_); (· simp [leFT, leV, leOs, leO, leC, rho, AV.ren, AV.ren1, AV.un, AV.un1, AV.closed]); (· simp [leFT, leV, leOs, leO, leC, rho, AV.ren, AV.ren1, AV.un, AV.un1, AV.closed]); rcases Yl (fun i m => fits n.kind i m.kind) (n.kids) (Node.cells) i hk hJ with ⟨m, hm, hlt, hb, hw, he⟩ | ⟨hb, he⟩)
  | refine wc rfl ?_
  | refine y8 rfl rfl ?_
  | (refine kt (i + 1) ?_ ?_ ?_ ?_; (· exact ⟨by omega, by simp_all⟩); (· omega); (· simp [leFT, leV, leOs, leO, leC, rho, AV.ren, AV.ren1, AV.un, AV.un1, AV.closed, hw]); (· simp [leFT, leV, leOs, leO, leC, rho, AV.ren, AV.ren1, AV.un, AV.un1, AV.closed]))
  | (refine qd ?_ ?_; (· simp only [hb]))
  | (refine qe ?_ ?_; (· simp only [hb]))
  | (refine qg ?_ ?_; (· simp only [hb]))
  | (refine qf ?_ ?_; (· simp only [hb]))
  | (refine qh ?_ ?_; (· simp only [hb]))
  | (refine qi ?_ ?_; (· simp only [hb]))
  | refine u4 env rfl rfl rfl rfl rfl (vf hm) ?_
  | refine qj (grammar_Fits _ _ _) ?_
  | refine ql (fun h => ?_) (fun h => ?_)
  | refine qr (fun h => ?_) (fun h => ?_)
  | refine qb (fun h => ?_) (fun h => ?_)
  | refine q8 env rfl rfl (qu ?_)
  | refine ze env rfl (qu ?_)
 all_goals refine j8 ?_
 all_goals simp_all [Qi, vk, Prod.ext_iff]
 all_goals omega
def wa (v : ByteArray) : Nat → List ByteArray → Int
 | _, [] => -1
 | i, w :: l => if v = w then i else wa v (i + 1) l
theorem idx_mem (v : ByteArray) : ∀ (l : List ByteArray) (i : Nat), decide (0 ≤ wa v i l) = memB v l
 | [], i => by simp [wa, memB]
 | w :: l, i => by
   simp only [wa]
   split
   ·rename_i h; subst h; simp [memB]
   ·rename_i h; rw [idx_mem v l (i + 1)]; simp [memB, h]
theorem idx_turn (v : ByteArray) (l : List ByteArray) (i : Nat) (hl : l.length ≤ 9223372036854775807) (hJ : i ≤ l.length ∧ wa v 0 l = wa v i (l.drop i)) :
 (∃ m, (l.map sc)[i]? = some [.str m] ∧ i < l.length ∧ decide ((i : Int) < ((l.map sc).length : Int)) = true ∧ IntKind.i64.wrap ((i : Int) + 1) = ((i + 1 : Nat) : Int) ∧
   ((decide (v = m) = true ∧ wa v 0 l = i) ∨ (decide (v = m) = false ∧ wa v 0 l = wa v (i + 1) (l.drop (i + 1))))) ∨
 (decide ((i : Int) < ((l.map sc).length : Int)) = false ∧ wa v 0 l = -1) := by
 rcases Nat.lt_or_ge i l.length with h | h
 ·refine .inl ⟨l[i], by rw [List.getElem?_map, List.getElem?_eq_getElem h]; rfl, h, by simpa using h, zq (by omega) (by omega), ?_⟩
  have e : wa v i (l.drop i) = if v = l[i] then (i : Int) else wa v (i + 1) (l.drop (i + 1)) := by rw [List.drop_eq_getElem_cons h]; rfl
  rw [hJ.2, e]
  by_cases hv : v = l[i]
  ·exact .inl ⟨decide_eq_true hv, if_pos hv⟩
  ·exact .inr ⟨decide_eq_false hv, if_neg hv⟩
 ·refine .inr ⟨by simpa using h, ?_⟩
  rw [hJ.2, List.drop_of_length_le h]; rfl
set_option maxHeartbeats 4000000 in
/-- slices.Index[[]string,string] -/
theorem slices_Index (l : List ByteArray) (v : ByteArray) (hl : l.length ≤ 9223372036854775807) : Fn Tryz.prog G 95 [.sl 1 false (l.map sc), .str v] (.int .i64 (wa v 0 l)) := by
 refine zd (T := tt) (N := 19) (rs := [.tmp 4]) (fun vs w => by simp) Tryz.func95 rfl rfl rfl rfl (by kernel_rfl) (zf rfl) (qt _ rfl) ?_
 repeat' first
  | refine zn env rfl ?_
  | (refine wd (α := Nat) (fun i => i ≤ l.length ∧ wa v 0 l = wa v i (l.drop i)) (fun i => l.length - i) (fun i => [(8, .int .i64 i)]) (fun _ => []) (0) (fun _ => rfl) (fun _ => rfl) (⟨Nat.zero_le _, rfl⟩) ?_ ?_ (fun i hJ => ?_); (· simp [leFT, leV, leOs, leO, leC, rho, AV.ren, AV.ren1, AV.un, AV.un1, AV.closed]); (· simp [leFT, leV, leOs, leO, leC, rho, AV.ren, AV.ren1, AV.un, AV.un1, AV.closed]); rcases idx_turn v l i hl hJ with ⟨m, hm, hlt, hb, hw, ⟨g1, he⟩ | ⟨g1, he⟩⟩ | ⟨hb, he⟩)
  | refine wc rfl ?_
  | refine y8 rfl rfl ?_
  | (refine kt (i + 1) ?_ ?_ ?_ ?_; (· exact ⟨by omega, he⟩); (· omega); (· (simp only [hw]; simp [leFT, leV, leOs, leO, leC, rho, AV.ren, AV.ren1, AV.un, AV.un1, AV.closed])); (· simp [leFT, leV, leOs, leO, leC, rho, AV.ren, AV.ren1, AV.un, AV.un1, AV.closed]))
  | (refine qd ?_ ?_; (· simp only [hb]))
  | (refine qe ?_ ?_; (· simp only [hb]))
  | (refine qg ?_ ?_; (· simp only [hb]))
  | (refine qf ?_ ?_; (· simp only [hb]))
  | (refine qh ?_ ?_; (· simp only [hb]))
  | (refine qi ?_ ?_; (· simp only [hb]))
  | (refine qd ?_ ?_; (· simp only [g1]))
  | (refine qe ?_ ?_; (· simp only [g1]))
  | (refine qg ?_ ?_; (· simp only [g1]))
  | (refine qf ?_ ?_; (· simp only [g1]))
  | (refine qh ?_ ?_; (· simp only [g1]))
  | (refine qi ?_ ?_; (· simp only [g1]))
  | refine u4 env rfl rfl rfl rfl rfl hm ?_
  | refine ql (fun h => ?_) (fun h => ?_)
  | refine qr (fun h => ?_) (fun h => ?_)
  | refine qb (fun h => ?_) (fun h => ?_)
  | refine q8 env rfl rfl (qu ?_)
  | refine ze env rfl (qu ?_)
 all_goals refine k7 ?_
 all_goals simp only [he]
set_option maxHeartbeats 4000000 in
/-- slices.Contains[[]string,string] -/
theorem slices_Contains (l : List ByteArray) (v : ByteArray) (hl : l.length ≤ 9223372036854775807) : Fn Tryz.prog G 80 [.sl 1 false (l.map sc), .str v] (.bool (memB v l)) := by
 refine zd (T := tt) (N := 9) (rs := [.tmp 4]) (fun vs w => by simp) Tryz.func80 rfl rfl rfl rfl (by kernel_rfl) (zf rfl) (qt _ rfl) ?_
 repeat' first
  | refine zn env rfl ?_
  | refine qj (slices_Index _ _ hl) ?_
  | refine ql (fun h => ?_) (fun h => ?_)
  | refine qr (fun h => ?_) (fun h => ?_)
  | refine qb (fun h => ?_) (fun h => ?_)
  | refine q8 env rfl rfl (qu ?_)
  | refine ze env rfl (qu ?_)
 all_goals refine j8 ?_
 all_goals exact idx_mem v l 0
theorem words_len : ∀ k : Nat, k < 27 → (shapes.getD k ⟨[], (0, 0), 0, [], 0⟩).words.length ≤ 8 := by decide
set_option maxHeartbeats 4000000 in
/-- treemerge/grammar.spelled -/
theorem wi (n : Node) (hkn : known n.kind = true) : Fn Tryz.prog G 61 [.agg (zk n)] (.bool (u7 n)) := by
 have kb := ww hkn
 have h0 : 0 ≤ n.kind := by omega
 have h2 : n.kind.toNat < 27 := by omega
 have hg := g0_take n.kind h2
 have hw : (jg n.kind).words.length ≤ 9223372036854775807 := Nat.le_trans (words_len n.kind.toNat h2) (by decide)
 refine zd (T := tt) (N := 22) (rs := [.tmp 2]) (fun vs w => by simp) Tryz.func61 rfl rfl rfl rfl (by kernel_rfl) (zf rfl) (qt _ rfl) ?_
 repeat' first
  | refine zn env rfl ?_
  | refine Ok_ixa env rfl rfl rfl rfl h0 h2 hg ?_
  | refine qj (slices_Contains _ _ hw) ?_
  | refine ql (fun h => ?_) (fun h => ?_)
  | refine qr (fun h => ?_) (fun h => ?_)
  | refine qb (fun h => ?_) (fun h => ?_)
  | refine q8 env rfl rfl (qu ?_)
  | refine ze env rfl (qu ?_)
 all_goals refine j8 ?_
 all_goals simp_all [u7]
set_option maxHeartbeats 4000000 in
/-- treemerge/grammar.called -/
theorem Qj (n : Node) (hkn : known n.kind = true) : Fn Tryz.prog G 63 [.agg (zk n)] (.bool (w9 n)) := by
 have kb := ww hkn
 have h0 : 0 ≤ n.kind := by omega
 have h2 : n.kind.toNat < 27 := by omega
 have hg := g0_take n.kind h2
 refine zd (T := tt) (N := 23) (rs := [.tmp 2]) (fun vs w => by simp) Tryz.func63 rfl rfl rfl rfl (by kernel_rfl) (zf rfl) (qt _ rfl) ?_
 repeat' first
  | refine zn env rfl ?_
  | refine Ok_ixa env rfl rfl rfl rfl h0 h2 hg ?_
  | refine qj (name_Valid _) ?_
  | refine qj (grammar_integer _) ?_
  | refine ql (fun h => ?_) (fun h => ?_)
  | refine qr (fun h => ?_) (fun h => ?_)
  | refine qb (fun h => ?_) (fun h => ?_)
  | refine q8 env rfl rfl (qu ?_)
  | refine ze env rfl (qu ?_)
 all_goals refine j8 ?_
 all_goals simp_all [w9]
theorem first_len : ∀ k : Nat, k < 27 → (k = 24 → (shapes.getD k ⟨[], (0, 0), 0, [], 0⟩).first.length = 2) ∧ (k = 25 ∨ k = 21 → (shapes.getD k ⟨[], (0, 0), 0, [], 0⟩).first.length = 1) := by decide
theorem Qh (n : Node) (h : Qi n = true) (hkn : known n.kind = true) : (n.kind = 24 → ∃ a b, n.kids[0]? = some a ∧ n.kids[1]? = some b ∧ kid n 0 = a ∧ kid n 1 = b) ∧ (n.kind = 25 ∨ n.kind = 21 → ∃ a, n.kids[0]? = some a ∧ kid n 0 = a) := by
 have kb := ww hkn
 have hf := first_len n.kind.toNat (by omega)
 have hk : n.kind ≠ 14 → (jg n.kind).first.length ≤ n.kids.length := by
  intro hne
  unfold Qi at h
  rw [if_neg (by omega)] at h
  split at h
  ·cases h
  ·omega
 have hs : (jg n.kind).first = (shapes.getD n.kind.toNat ⟨[], (0, 0), 0, [], 0⟩).first := rfl
 constructor
 ·intro hk24
  have h2 := hk (by omega)
  rw [hs, hf.1 (by omega)] at h2
  refine ⟨n.kids[0], n.kids[1], List.getElem?_eq_getElem (by omega), List.getElem?_eq_getElem (by omega), ?_, ?_⟩
  ·unfold kid; rw [List.getD_eq_getElem?_getD, List.getElem?_eq_getElem (by omega)]; rfl
  ·unfold kid; rw [List.getD_eq_getElem?_getD, List.getElem?_eq_getElem (by omega)]; rfl
 ·intro hk2
  have h2 := hk (by omega)
  rw [hs, hf.2 (by omega)] at h2
  refine ⟨n.kids[0], List.getElem?_eq_getElem (by omega), ?_⟩
  unfold kid; rw [List.getD_eq_getElem?_getD, List.getElem?_eq_getElem (by omega)]; rfl
set_option maxHeartbeats 4000000 in
/-- levels -/
theorem uz (n : Node) (hk0 : (n.kind = 24 → ∃ a b, n.kids[0]? = some a ∧ n.kids[1]? = some b ∧ kid n 0 = a ∧ kid n 1 = b) ∧ (n.kind = 25 ∨ n.kind = 21 → ∃ a, n.kids[0]? = some a ∧ kid n 0 = a)) : Fn Tryz.prog G 62 [.agg (zk n)] (.bool (wg n)) := by
 by_cases hb : n.kind = 24
 case pos =>
  obtain ⟨a, b, ha, hb2, ea, eb⟩ := hk0.1 hb
  have d1 : decide (n.kind = 24) = true := decide_eq_true hb
  refine zd (T := tt) (N := 51) (rs := [.tmp 2]) (fun vs w => by simp) Tryz.func62 rfl rfl rfl rfl (by kernel_rfl) (zf rfl) (qt _ rfl) ?_
  repeat' first
   | refine zn env rfl ?_
   | (refine qd ?_ ?_; (· simp only [d1]))
   | (refine qe ?_ ?_; (· simp only [d1]))
   | (refine qg ?_ ?_; (· simp only [d1]))
   | (refine qf ?_ ?_; (· simp only [d1]))
   | (refine qh ?_ ?_; (· simp only [d1]))
   | (refine qi ?_ ?_; (· simp only [d1]))
   | refine u4 env rfl rfl rfl rfl (m := 0) rfl (vf ha) ?_
   | refine u4 env rfl rfl rfl rfl (m := 1) rfl (vf hb2) ?_
   | refine qj (Q0 _) ?_
   | refine ql (fun h => ?_) (fun h => ?_)
   | refine qr (fun h => ?_) (fun h => ?_)
   | refine qb (fun h => ?_) (fun h => ?_)
   | refine q8 env rfl rfl (qu ?_)
   | refine ze env rfl (qu ?_)
  all_goals refine j8 ?_
  all_goals (simp_all [wg])
  all_goals (try omega)
 have d1 : decide (n.kind = 24) = false := decide_eq_false hb
 by_cases hu : n.kind = 25 ∨ n.kind = 21
 case pos =>
  obtain ⟨a, ha, ea⟩ := hk0.2 hu
  refine zd (T := tt) (N := 51) (rs := [.tmp 2]) (fun vs w => by simp) Tryz.func62 rfl rfl rfl rfl (by kernel_rfl) (zf rfl) (qt _ rfl) ?_
  repeat' first
   | refine zn env rfl ?_
   | (refine qd ?_ ?_; (· simp only [d1]))
   | (refine qe ?_ ?_; (· simp only [d1]))
   | (refine qg ?_ ?_; (· simp only [d1]))
   | (refine qf ?_ ?_; (· simp only [d1]))
   | (refine qh ?_ ?_; (· simp only [d1]))
   | (refine qi ?_ ?_; (· simp only [d1]))
   | refine u4 env rfl rfl rfl rfl (m := 0) rfl (vf ha) ?_
   | refine qj (Q0 _) ?_
   | refine ql (fun h => ?_) (fun h => ?_)
   | refine qr (fun h => ?_) (fun h => ?_)
   | refine qb (fun h => ?_) (fun h => ?_)
   | refine q8 env rfl rfl (qu ?_)
   | refine ze env rfl (qu ?_)
  all_goals refine j8 ?_
  all_goals (simp_all [wg])
  all_goals (try omega)
 have d2 : decide (n.kind = 25) = false := decide_eq_false (fun e => hu (.inl e))
 have d3 : decide (n.kind = 21) = false := decide_eq_false (fun e => hu (.inr e))
 refine zd (T := tt) (N := 51) (rs := [.tmp 2]) (fun vs w => by simp) Tryz.func62 rfl rfl rfl rfl (by kernel_rfl) (zf rfl) (qt _ rfl) ?_
 repeat' first
  | refine zn env rfl ?_
  | (refine qd ?_ ?_; (· simp only [d1]))
  | (refine qe ?_ ?_; (· simp only [d1]))
  | (refine qg ?_ ?_; (· simp only [d1]))
  | (refine qf ?_ ?_; (· simp only [d1]))
  | (refine qh ?_ ?_; (· simp only [d1]))
  | (refine qi ?_ ?_; (· simp only [d1]))
  | (refine qd ?_ ?_; (· simp only [d2]))
  | (refine qe ?_ ?_; (· simp only [d2]))
  | (refine qg ?_ ?_; (· simp only [d2]))
  | (refine qf ?_ ?_; (· simp only [d2]))
  | (refine qh ?_ ?_; (· simp only [d2]))
  | (refine qi ?_ ?_; (· simp only [d2]))
  | (refine qd ?_ ?_; (· simp only [d3]))
  | (refine qe ?_ ?_; (· simp only [d3]))
  | (refine qg ?_ ?_; (· simp only [d3]))
  | (refine qf ?_ ?_; (· simp only [d3]))
  | (refine qh ?_ ?_; (· simp only [d3]))
  | (refine qi ?_ ?_; (· simp only [d3]))
  | refine qj (Q0 _) ?_
  | refine ql (fun h => ?_) (fun h => ?_)
  | refine qr (fun h => ?_) (fun h => ?_)
  | refine qb (fun h => ?_) (fun h => ?_)
  | refine q8 env rfl rfl (qu ?_)
  | refine ze env rfl (qu ?_)
 all_goals refine j8 ?_
 all_goals (simp_all [wg])
set_option maxHeartbeats 4000000 in
/-- levels -/
theorem R7_levels (n : Node) (hk0 : (n.kind = 24 → ∃ a b, n.kids[0]? = some a ∧ n.kids[1]? = some b ∧ kid n 0 = a ∧ kid n 1 = b) ∧ (n.kind = 25 ∨ n.kind = 21 → ∃ a, n.kids[0]? = some a ∧ kid n 0 = a)) : Fn Tryz.prog G 104 [.agg (zk n)] (.bool (wg n)) := by
 by_cases hb : n.kind = 24
 case pos =>
  obtain ⟨a, b, ha, hb2, ea, eb⟩ := hk0.1 hb
  have d1 : decide (n.kind = 24) = true := decide_eq_true hb
  refine zd (T := tt) (N := 52) (rs := [.tmp 2]) (fun vs w => by simp) Tryz.func104 rfl rfl rfl rfl (by kernel_rfl) (zf rfl) (qt _ rfl) ?_
  repeat' first
   | refine zn env rfl ?_
   | (refine qd ?_ ?_; (· simp only [d1]))
   | (refine qe ?_ ?_; (· simp only [d1]))
   | (refine qg ?_ ?_; (· simp only [d1]))
   | (refine qf ?_ ?_; (· simp only [d1]))
   | (refine qh ?_ ?_; (· simp only [d1]))
   | (refine qi ?_ ?_; (· simp only [d1]))
   | refine u4 env rfl rfl rfl rfl (m := 0) rfl (vf ha) ?_
   | refine u4 env rfl rfl rfl rfl (m := 1) rfl (vf hb2) ?_
   | refine qj (R7_Level _) ?_
   | refine ql (fun h => ?_) (fun h => ?_)
   | refine qr (fun h => ?_) (fun h => ?_)
   | refine qb (fun h => ?_) (fun h => ?_)
   | refine q8 env rfl rfl (qu ?_)
   | refine ze env rfl (qu ?_)
  all_goals refine j8 ?_
  all_goals (simp_all [wg])
  all_goals (try omega)
 have d1 : decide (n.kind = 24) = false := decide_eq_false hb
 by_cases hu : n.kind = 25 ∨ n.kind = 21
 case pos =>
  obtain ⟨a, ha, ea⟩ := hk0.2 hu
  refine zd (T := tt) (N := 52) (rs := [.tmp 2]) (fun vs w => by simp) Tryz.func104 rfl rfl rfl rfl (by kernel_rfl) (zf rfl) (qt _ rfl) ?_
  repeat' first
   | refine zn env rfl ?_
   | (refine qd ?_ ?_; (· simp only [d1]))
   | (refine qe ?_ ?_; (· simp only [d1]))
   | (refine qg ?_ ?_; (· simp only [d1]))
   | (refine qf ?_ ?_; (· simp only [d1]))
   | (refine qh ?_ ?_; (· simp only [d1]))
   | (refine qi ?_ ?_; (· simp only [d1]))
   | refine u4 env rfl rfl rfl rfl (m := 0) rfl (vf ha) ?_
   | refine qj (R7_Level _) ?_
   | refine ql (fun h => ?_) (fun h => ?_)
   | refine qr (fun h => ?_) (fun h => ?_)
   | refine qb (fun h => ?_) (fun h => ?_)
   | refine q8 env rfl rfl (qu ?_)
   | refine ze env rfl (qu ?_)
  all_goals refine j8 ?_
  all_goals (simp_all [wg])
  all_goals (try omega)
 have d2 : decide (n.kind = 25) = false := decide_eq_false (fun e => hu (.inl e))
 have d3 : decide (n.kind = 21) = false := decide_eq_false (fun e => hu (.inr e))
 refine zd (T := tt) (N := 52) (rs := [.tmp 2]) (fun vs w => by simp) Tryz.func104 rfl rfl rfl rfl (by kernel_rfl) (zf rfl) (qt _ rfl) ?_
 repeat' first
  | refine zn env rfl ?_
  | (refine qd ?_ ?_; (· simp only [d1]))
  | (refine qe ?_ ?_; (· simp only [d1]))
  | (refine qg ?_ ?_; (· simp only [d1]))
  | (refine qf ?_ ?_; (· simp only [d1]))
  | (refine qh ?_ ?_; (· simp only [d1]))
  | (refine qi ?_ ?_; (· simp only [d1]))
  | (refine qd ?_ ?_; (· simp only [d2]))
  | (refine qe ?_ ?_; (· simp only [d2]))
  | (refine qg ?_ ?_; (· simp only [d2]))
  | (refine qf ?_ ?_; (· simp only [d2]))
  | (refine qh ?_ ?_; (· simp only [d2]))
  | (refine qi ?_ ?_; (· simp only [d2]))
  | (refine qd ?_ ?_; (· simp only [d3]))
  | (refine qe ?_ ?_; (· simp only [d3]))
  | (refine qg ?_ ?_; (· simp only [d3]))
  | (refine qf ?_ ?_; (· simp only [d3]))
  | (refine qh ?_ ?_; (· simp only [d3]))
  | (refine qi ?_ ?_; (· simp only [d3]))
  | refine qj (R7_Level _) ?_
  | refine ql (fun h => ?_) (fun h => ?_)
  | refine qr (fun h => ?_) (fun h => ?_)
  | refine qb (fun h => ?_) (fun h => ?_)
  | refine q8 env rfl rfl (qu ?_)
  | refine ze env rfl (qu ?_)
 all_goals refine j8 ?_
 all_goals (simp_all [wg])
theorem gap_mem {l : List ByteArray} {i : Nat} {g : ByteArray} (h : l[i]? = some g) : g ∈ l := List.mem_of_getElem? h
set_option maxHeartbeats 4000000 in
/-- treemerge/grammar.gaps -/
theorem grammar_gaps (n : Node) (hk : n.gaps.length ≤ 9223372036854775807) (hkk : n.kids.length ≤ 9223372036854775807) (hs : ∀ g ∈ n.gaps, g.size ≤ 9223372036854775807) : Fn Tryz.prog G 64 [.agg (zk n)] (.bool (Q1 n)) := by
 refine zd (T := tt) (N := 26) (rs := [.tmp 2]) (fun vs w => by simp) Tryz.func64 rfl rfl rfl rfl (by kernel_rfl) (zf rfl) (qt _ rfl) ?_
 repeat' first
  | refine zn env rfl ?_
  | (refine wd (α := Nat) (fun i => i ≤ (n.gaps).length ∧ yl (fun _ g => wz g) 0 (n.gaps) = yl (fun _ g => wz g) i ((n.gaps).drop i)) (fun i => (n.gaps).length - i) (fun i => [(12, .int .i64 i)]) (fun _ => []) (0) (fun _ => rfl) (fun _ => rfl) (⟨Nat.zero_le _, rfl⟩) ?_ ?_ (fun i hJ => ?_); (· simp [leFT, leV, leOs, leO, leC, rho, AV.ren, AV.ren1, AV.un, AV.un1, AV.closed]); (· simp [leFT, leV, leOs, leO, leC, rho, AV.ren, AV.ren1, AV.un, AV.un1, AV.closed]); rcases Yl (fun _ g => wz g) (n.gaps) (sc) i hk hJ with ⟨m, hm, hlt, hb, hw, he⟩ | ⟨hb, he⟩)
  | refine wc rfl ?_
  | refine y8 rfl rfl ?_
  | (refine kt (i + 1) ?_ ?_ ?_ ?_; (· exact ⟨by omega, by simp_all⟩); (· omega); (· simp [leFT, leV, leOs, leO, leC, rho, AV.ren, AV.ren1, AV.un, AV.un1, AV.closed, hw]); (· simp [leFT, leV, leOs, leO, leC, rho, AV.ren, AV.ren1, AV.un, AV.un1, AV.closed]))
  | (refine qd ?_ ?_; (· simp only [hb]))
  | (refine qe ?_ ?_; (· simp only [hb]))
  | (refine qg ?_ ?_; (· simp only [hb]))
  | (refine qf ?_ ?_; (· simp only [hb]))
  | (refine qh ?_ ?_; (· simp only [hb]))
  | (refine qi ?_ ?_; (· simp only [hb]))
  | refine u4 env rfl rfl rfl rfl rfl (gap_at hm) ?_
  | refine qj (trivia_Valid _ (hs _ (gap_mem hm))) ?_
  | refine qj (grammar_Own _ hkk) ?_
  | refine ql (fun h => ?_) (fun h => ?_)
  | refine qr (fun h => ?_) (fun h => ?_)
  | refine qb (fun h => ?_) (fun h => ?_)
  | refine q8 env rfl rfl (qu ?_)
  | refine ze env rfl (qu ?_)
 all_goals refine j8 ?_
 all_goals simp_all [Q1, Qp]
end Go.Proofs.YtbdhekefhcjhaaaGreatDoorW.Ex.Gr
