/- A node's kids. No conditions beside those in each theorem. -/
import Derived.Test.YtimcdpioclioiaaGreatDoorGd
namespace Go.Proofs.YtimcdpioclioiaaGreatDoorW.Ex.Gr
open Go Go.Proofs.YtimcdpioclioiaaGreatDoorW.Ex
set_option linter.all false
set_option maxRecDepth 100000
set_option maxHeartbeats 4000000 in
theorem wt (n : Node) (hkn : known n.kind = true) (hk : n.kids.length ≤ 9223372036854775807) : Fn Tryz.prog G 47 [.agg (zo n)] (.bool (u3 n)) := by
 have kb := wm hkn
 have h0 : 0 ≤ n.kind := by omega
 have h2 : n.kind.toNat < 27 := by omega
 have hg := g0_take n.kind h2
 refine zg (T := tt) (N := 57) (rs := [.tmp 2]) (fun vs w => by simp) Tryz.func47 rfl rfl rfl rfl (by kernel_rfl) (zd rfl) (qo _ rfl) ?_
 repeat' first
  | refine zl env rfl ?_
  | refine Ok_ixa env rfl rfl rfl rfl h0 h2 hg ?_
  | (refine k7 (α := Nat) (fun i => i ≤ (n.kids).length ∧ j4 (fun i m => fits n.kind i m.kind) 0 (n.kids) = j4 (fun i m => fits n.kind i m.kind) i ((n.kids).drop i)) (fun i => (n.kids).length - i) (fun i => [(44, .int .i64 i)]) (fun _ => []) (0) (fun _ => rfl) (fun _ => rfl) (⟨Nat.zero_le _, rfl⟩) ?_ ?_ (fun i hJ => ?_); (· simp [leFT, leV, leOs, leO, leC, rho, AV.ren, AV.ren1, AV.un, AV.un1, AV.closed]); (· simp [leFT, leV, leOs, leO, leC, rho, AV.ren, AV.ren1, AV.un, AV.un1, AV.closed]); rcases Ya (fun i m => fits n.kind i m.kind) (n.kids) (Node.cells) i hk hJ with ⟨m, hm, hlt, hb, hw, he⟩ | ⟨hb, he⟩)
  | refine kz rfl ?_
  | refine yz rfl rfl ?_
  | (refine ko (i + 1) ?_ ?_ ?_ ?_; (· exact ⟨by omega, by simp_all⟩); (· omega); (· simp [leFT, leV, leOs, leO, leC, rho, AV.ren, AV.ren1, AV.un, AV.un1, AV.closed, hw]); (· simp [leFT, leV, leOs, leO, leC, rho, AV.ren, AV.ren1, AV.un, AV.un1, AV.closed]))
  | (refine qc ?_ ?_; (· simp only [hb]))
  | (refine qd ?_ ?_; (· simp only [hb]))
  | (refine qf ?_ ?_; (· simp only [hb]))
  | (refine qe ?_ ?_; (· simp only [hb]))
  | (refine qh ?_ ?_; (· simp only [hb]))
  | (refine qi ?_ ?_; (· simp only [hb]))
  | refine uw env rfl rfl rfl rfl rfl (u4 hm) ?_
  | refine ql (grammar_Fits _ _ _) ?_
  | refine qm (fun h => ?_) (fun h => ?_)
  | refine qr (fun h => ?_) (fun h => ?_)
  | refine qg (fun h => ?_) (fun h => ?_)
  | refine zi env rfl rfl (qq ?_)
  | refine zb env rfl (qq ?_)
 all_goals refine ju ?_
 all_goals simp_all [u3, ut, Prod.ext_iff]
 all_goals omega
def kx (v : ByteArray) : Nat → List ByteArray → Int
 | _, [] => -1
 | i, w :: l => if v = w then i else kx v (i + 1) l
theorem idx_mem (v : ByteArray) : ∀ (l : List ByteArray) (i : Nat), decide (0 ≤ kx v i l) = memB v l
 | [], i => by simp [kx, memB]
 | w :: l, i => by
   simp only [kx]
   split
   ·rename_i h; subst h; simp [memB]
   ·rename_i h; rw [idx_mem v l (i + 1)]; simp [memB, h]
theorem idx_turn (v : ByteArray) (l : List ByteArray) (i : Nat) (hl : l.length ≤ 9223372036854775807) (hJ : i ≤ l.length ∧ kx v 0 l = kx v i (l.drop i)) :
 (∃ m, (l.map sc)[i]? = some [.str m] ∧ i < l.length ∧ decide ((i : Int) < ((l.map sc).length : Int)) = true ∧ IntKind.i64.wrap ((i : Int) + 1) = ((i + 1 : Nat) : Int) ∧
   ((decide (v = m) = true ∧ kx v 0 l = i) ∨ (decide (v = m) = false ∧ kx v 0 l = kx v (i + 1) (l.drop (i + 1))))) ∨
 (decide ((i : Int) < ((l.map sc).length : Int)) = false ∧ kx v 0 l = -1) := by
 rcases Nat.lt_or_ge i l.length with h | h
 ·refine .inl ⟨l[i], by rw [List.getElem?_map, List.getElem?_eq_getElem h]; rfl, h, by simpa using h, zr (by omega) (by omega), ?_⟩
  have e : kx v i (l.drop i) = if v = l[i] then (i : Int) else kx v (i + 1) (l.drop (i + 1)) := by rw [List.drop_eq_getElem_cons h]; rfl
  rw [hJ.2, e]
  by_cases hv : v = l[i]
  ·exact .inl ⟨decide_eq_true hv, if_pos hv⟩
  ·exact .inr ⟨decide_eq_false hv, if_neg hv⟩
 ·refine .inr ⟨by simpa using h, ?_⟩
  rw [hJ.2, List.drop_of_length_le h]; rfl
set_option maxHeartbeats 4000000 in
/-- slices.Index[[]string,string] -/
theorem slices_Index (l : List ByteArray) (v : ByteArray) (hl : l.length ≤ 9223372036854775807) : Fn Tryz.prog G 88 [.sl 1 false (l.map sc), .str v] (.int .i64 (kx v 0 l)) := by
 refine zg (T := tt) (N := 19) (rs := [.tmp 4]) (fun vs w => by simp) Tryz.func88 rfl rfl rfl rfl (by kernel_rfl) (zd rfl) (qo _ rfl) ?_
 repeat' first
  | refine zl env rfl ?_
  | (refine k7 (α := Nat) (fun i => i ≤ l.length ∧ kx v 0 l = kx v i (l.drop i)) (fun i => l.length - i) (fun i => [(8, .int .i64 i)]) (fun _ => []) (0) (fun _ => rfl) (fun _ => rfl) (⟨Nat.zero_le _, rfl⟩) ?_ ?_ (fun i hJ => ?_); (· simp [leFT, leV, leOs, leO, leC, rho, AV.ren, AV.ren1, AV.un, AV.un1, AV.closed]); (· simp [leFT, leV, leOs, leO, leC, rho, AV.ren, AV.ren1, AV.un, AV.un1, AV.closed]); rcases idx_turn v l i hl hJ with ⟨m, hm, hlt, hb, hw, ⟨g1, he⟩ | ⟨g1, he⟩⟩ | ⟨hb, he⟩)
  | refine kz rfl ?_
  | refine yz rfl rfl ?_
  | (refine ko (i + 1) ?_ ?_ ?_ ?_; (· exact ⟨by omega, he⟩); (· omega); (· (simp only [hw]; simp [leFT, leV, leOs, leO, leC, rho, AV.ren, AV.ren1, AV.un, AV.un1, AV.closed])); (· simp [leFT, leV, leOs, leO, leC, rho, AV.ren, AV.ren1, AV.un, AV.un1, AV.closed]))
  | (refine qc ?_ ?_; (· simp only [hb]))
  | (refine qd ?_ ?_; (· simp only [hb]))
  | (refine qf ?_ ?_; (· simp only [hb]))
  | (refine qe ?_ ?_; (· simp only [hb]))
  | (refine qh ?_ ?_; (· simp only [hb]))
  | (refine qi ?_ ?_; (· simp only [hb]))
  | (refine qc ?_ ?_; (· simp only [g1]))
  | (refine qd ?_ ?_; (· simp only [g1]))
  | (refine qf ?_ ?_; (· simp only [g1]))
  | (refine qe ?_ ?_; (· simp only [g1]))
  | (refine qh ?_ ?_; (· simp only [g1]))
  | (refine qi ?_ ?_; (· simp only [g1]))
  | refine uw env rfl rfl rfl rfl rfl hm ?_
  | refine qm (fun h => ?_) (fun h => ?_)
  | refine qr (fun h => ?_) (fun h => ?_)
  | refine qg (fun h => ?_) (fun h => ?_)
  | refine zi env rfl rfl (qq ?_)
  | refine zb env rfl (qq ?_)
 all_goals refine kw ?_
 all_goals simp only [he]
set_option maxHeartbeats 4000000 in
/-- slices.Contains[[]string,string] -/
theorem slices_Contains (l : List ByteArray) (v : ByteArray) (hl : l.length ≤ 9223372036854775807) : Fn Tryz.prog G 70 [.sl 1 false (l.map sc), .str v] (.bool (memB v l)) := by
 refine zg (T := tt) (N := 9) (rs := [.tmp 4]) (fun vs w => by simp) Tryz.func70 rfl rfl rfl rfl (by kernel_rfl) (zd rfl) (qo _ rfl) ?_
 repeat' first
  | refine zl env rfl ?_
  | refine ql (slices_Index _ _ hl) ?_
  | refine qm (fun h => ?_) (fun h => ?_)
  | refine qr (fun h => ?_) (fun h => ?_)
  | refine qg (fun h => ?_) (fun h => ?_)
  | refine zi env rfl rfl (qq ?_)
  | refine zb env rfl (qq ?_)
 all_goals refine ju ?_
 all_goals exact idx_mem v l 0
theorem words_len : ∀ k : Nat, k < 27 → (shapes.getD k ⟨[], (0, 0), 0, [], 0⟩).words.length ≤ 8 := by decide
set_option maxHeartbeats 4000000 in
/-- treemerge/grammar.spelled -/
theorem wc (n : Node) (hkn : known n.kind = true) : Fn Tryz.prog G 48 [.agg (zo n)] (.bool (y5 n)) := by
 have kb := wm hkn
 have h0 : 0 ≤ n.kind := by omega
 have h2 : n.kind.toNat < 27 := by omega
 have hg := g0_take n.kind h2
 have hw : (zw n.kind).words.length ≤ 9223372036854775807 := Nat.le_trans (words_len n.kind.toNat h2) (by decide)
 refine zg (T := tt) (N := 22) (rs := [.tmp 2]) (fun vs w => by simp) Tryz.func48 rfl rfl rfl rfl (by kernel_rfl) (zd rfl) (qo _ rfl) ?_
 repeat' first
  | refine zl env rfl ?_
  | refine Ok_ixa env rfl rfl rfl rfl h0 h2 hg ?_
  | refine ql (slices_Contains _ _ hw) ?_
  | refine qm (fun h => ?_) (fun h => ?_)
  | refine qr (fun h => ?_) (fun h => ?_)
  | refine qg (fun h => ?_) (fun h => ?_)
  | refine zi env rfl rfl (qq ?_)
  | refine zb env rfl (qq ?_)
 all_goals refine ju ?_
 all_goals simp_all [y5]
set_option maxHeartbeats 4000000 in
/-- treemerge/grammar.called -/
theorem Qd (n : Node) (hkn : known n.kind = true) : Fn Tryz.prog G 50 [.agg (zo n)] (.bool (yy n)) := by
 have kb := wm hkn
 have h0 : 0 ≤ n.kind := by omega
 have h2 : n.kind.toNat < 27 := by omega
 have hg := g0_take n.kind h2
 refine zg (T := tt) (N := 23) (rs := [.tmp 2]) (fun vs w => by simp) Tryz.func50 rfl rfl rfl rfl (by kernel_rfl) (zd rfl) (qo _ rfl) ?_
 repeat' first
  | refine zl env rfl ?_
  | refine Ok_ixa env rfl rfl rfl rfl h0 h2 hg ?_
  | refine ql (name_Valid _) ?_
  | refine ql (grammar_integer _) ?_
  | refine qm (fun h => ?_) (fun h => ?_)
  | refine qr (fun h => ?_) (fun h => ?_)
  | refine qg (fun h => ?_) (fun h => ?_)
  | refine zi env rfl rfl (qq ?_)
  | refine zb env rfl (qq ?_)
 all_goals refine ju ?_
 all_goals simp_all [yy]
theorem first_len : ∀ k : Nat, k < 27 → (k = 24 → (shapes.getD k ⟨[], (0, 0), 0, [], 0⟩).first.length = 2) ∧ (k = 25 ∨ k = 21 → (shapes.getD k ⟨[], (0, 0), 0, [], 0⟩).first.length = 1) := by decide
theorem Qc (n : Node) (h : u3 n = true) (hkn : known n.kind = true) : (n.kind = 24 → ∃ a b, n.kids[0]? = some a ∧ n.kids[1]? = some b ∧ kid n 0 = a ∧ kid n 1 = b) ∧ (n.kind = 25 ∨ n.kind = 21 → ∃ a, n.kids[0]? = some a ∧ kid n 0 = a) := by
 have kb := wm hkn
 have hf := first_len n.kind.toNat (by omega)
 have hk : n.kind ≠ 14 → (zw n.kind).first.length ≤ n.kids.length := by
  intro hne
  unfold u3 at h
  rw [if_neg (by omega)] at h
  split at h
  ·cases h
  ·omega
 have hs : (zw n.kind).first = (shapes.getD n.kind.toNat ⟨[], (0, 0), 0, [], 0⟩).first := rfl
 constructor
 ·intro hk24
  have h2 := hk (by omega)
  rw [hs, hf.1 (by omega)] at h2
  refine ⟨n.kids[0], n.kids[1], List.getElem?_eq_getElem (by omega), List.getElem?_eq_getElem (by omega), ?_, ?_⟩
  ·unfold kid; rw [List.getD_eq_getElem?_getD, List.getElem?_eq_getElem (by omega)]; rfl
  ·unfold kid; rw [List.getD_eq_getElem?_getD, List.getElem?_eq_getElem (by omega)]; rfl
 ·intro hk2
  have h2 := hk (by omega)
  rw [hs, hf.2 (by omega)] at h2
  refine ⟨n.kids[0], List.getElem?_eq_getElem (by omega), ?_⟩
  unfold kid; rw [List.getD_eq_getElem?_getD, List.getElem?_eq_getElem (by omega)]; rfl
set_option maxHeartbeats 4000000 in
/-- levels -/
theorem um (n : Node) (hk0 : (n.kind = 24 → ∃ a b, n.kids[0]? = some a ∧ n.kids[1]? = some b ∧ kid n 0 = a ∧ kid n 1 = b) ∧ (n.kind = 25 ∨ n.kind = 21 → ∃ a, n.kids[0]? = some a ∧ kid n 0 = a)) : Fn Tryz.prog G 49 [.agg (zo n)] (.bool (kc n)) := by
 by_cases hb : n.kind = 24
 case pos =>
  obtain ⟨a, b, ha, hb2, ea, eb⟩ := hk0.1 hb
  have d1 : decide (n.kind = 24) = true := decide_eq_true hb
  refine zg (T := tt) (N := 51) (rs := [.tmp 2]) (fun vs w => by simp) Tryz.func49 rfl rfl rfl rfl (by kernel_rfl) (zd rfl) (qo _ rfl) ?_
  repeat' first
   | refine zl env rfl ?_
   | (refine qc ?_ ?_; (· simp only [d1]))
   | (refine qd ?_ ?_; (· simp only [d1]))
   | (refine qf ?_ ?_; (· simp only [d1]))
   | (refine qe ?_ ?_; (· simp only [d1]))
   | (refine qh ?_ ?_; (· simp only [d1]))
   | (refine qi ?_ ?_; (· simp only [d1]))
   | refine uw env rfl rfl rfl rfl (m := 0) rfl (u4 ha) ?_
   | refine uw env rfl rfl rfl rfl (m := 1) rfl (u4 hb2) ?_
   | refine ql (Qo _) ?_
   | refine qm (fun h => ?_) (fun h => ?_)
   | refine qr (fun h => ?_) (fun h => ?_)
   | refine qg (fun h => ?_) (fun h => ?_)
   | refine zi env rfl rfl (qq ?_)
   | refine zb env rfl (qq ?_)
  all_goals refine ju ?_
  all_goals (simp_all [kc])
  all_goals (try omega)
 have d1 : decide (n.kind = 24) = false := decide_eq_false hb
 by_cases hu : n.kind = 25 ∨ n.kind = 21
 case pos =>
  obtain ⟨a, ha, ea⟩ := hk0.2 hu
  refine zg (T := tt) (N := 51) (rs := [.tmp 2]) (fun vs w => by simp) Tryz.func49 rfl rfl rfl rfl (by kernel_rfl) (zd rfl) (qo _ rfl) ?_
  repeat' first
   | refine zl env rfl ?_
   | (refine qc ?_ ?_; (· simp only [d1]))
   | (refine qd ?_ ?_; (· simp only [d1]))
   | (refine qf ?_ ?_; (· simp only [d1]))
   | (refine qe ?_ ?_; (· simp only [d1]))
   | (refine qh ?_ ?_; (· simp only [d1]))
   | (refine qi ?_ ?_; (· simp only [d1]))
   | refine uw env rfl rfl rfl rfl (m := 0) rfl (u4 ha) ?_
   | refine ql (Qo _) ?_
   | refine qm (fun h => ?_) (fun h => ?_)
   | refine qr (fun h => ?_) (fun h => ?_)
   | refine qg (fun h => ?_) (fun h => ?_)
   | refine zi env rfl rfl (qq ?_)
   | refine zb env rfl (qq ?_)
  all_goals refine ju ?_
  all_goals (simp_all [kc])
  all_goals (try omega)
 have d2 : decide (n.kind = 25) = false := decide_eq_false (fun e => hu (.inl e))
 have d3 : decide (n.kind = 21) = false := decide_eq_false (fun e => hu (.inr e))
 refine zg (T := tt) (N := 51) (rs := [.tmp 2]) (fun vs w => by simp) Tryz.func49 rfl rfl rfl rfl (by kernel_rfl) (zd rfl) (qo _ rfl) ?_
 repeat' first
  | refine zl env rfl ?_
  | (refine qc ?_ ?_; (· simp only [d1]))
  | (refine qd ?_ ?_; (· simp only [d1]))
  | (refine qf ?_ ?_; (· simp only [d1]))
  | (refine qe ?_ ?_; (· simp only [d1]))
  | (refine qh ?_ ?_; (· simp only [d1]))
  | (refine qi ?_ ?_; (· simp only [d1]))
  | (refine qc ?_ ?_; (· simp only [d2]))
  | (refine qd ?_ ?_; (· simp only [d2]))
  | (refine qf ?_ ?_; (· simp only [d2]))
  | (refine qe ?_ ?_; (· simp only [d2]))
  | (refine qh ?_ ?_; (· simp only [d2]))
  | (refine qi ?_ ?_; (· simp only [d2]))
  | (refine qc ?_ ?_; (· simp only [d3]))
  | (refine qd ?_ ?_; (· simp only [d3]))
  | (refine qf ?_ ?_; (· simp only [d3]))
  | (refine qe ?_ ?_; (· simp only [d3]))
  | (refine qh ?_ ?_; (· simp only [d3]))
  | (refine qi ?_ ?_; (· simp only [d3]))
  | refine ql (Qo _) ?_
  | refine qm (fun h => ?_) (fun h => ?_)
  | refine qr (fun h => ?_) (fun h => ?_)
  | refine qg (fun h => ?_) (fun h => ?_)
  | refine zi env rfl rfl (qq ?_)
  | refine zb env rfl (qq ?_)
 all_goals refine ju ?_
 all_goals (simp_all [kc])
set_option maxHeartbeats 4000000 in
/-- levels -/
theorem R7_levels (n : Node) (hk0 : (n.kind = 24 → ∃ a b, n.kids[0]? = some a ∧ n.kids[1]? = some b ∧ kid n 0 = a ∧ kid n 1 = b) ∧ (n.kind = 25 ∨ n.kind = 21 → ∃ a, n.kids[0]? = some a ∧ kid n 0 = a)) : Fn Tryz.prog G 81 [.agg (zo n)] (.bool (kc n)) := by
 by_cases hb : n.kind = 24
 case pos =>
  obtain ⟨a, b, ha, hb2, ea, eb⟩ := hk0.1 hb
  have d1 : decide (n.kind = 24) = true := decide_eq_true hb
  refine zg (T := tt) (N := 52) (rs := [.tmp 2]) (fun vs w => by simp) Tryz.func81 rfl rfl rfl rfl (by kernel_rfl) (zd rfl) (qo _ rfl) ?_
  repeat' first
   | refine zl env rfl ?_
   | (refine qc ?_ ?_; (· simp only [d1]))
   | (refine qd ?_ ?_; (· simp only [d1]))
   | (refine qf ?_ ?_; (· simp only [d1]))
   | (refine qe ?_ ?_; (· simp only [d1]))
   | (refine qh ?_ ?_; (· simp only [d1]))
   | (refine qi ?_ ?_; (· simp only [d1]))
   | refine uw env rfl rfl rfl rfl (m := 0) rfl (u4 ha) ?_
   | refine uw env rfl rfl rfl rfl (m := 1) rfl (u4 hb2) ?_
   | refine ql (R7_Level _) ?_
   | refine qm (fun h => ?_) (fun h => ?_)
   | refine qr (fun h => ?_) (fun h => ?_)
   | refine qg (fun h => ?_) (fun h => ?_)
   | refine zi env rfl rfl (qq ?_)
   | refine zb env rfl (qq ?_)
  all_goals refine ju ?_
  all_goals (simp_all [kc])
  all_goals (try omega)
 have d1 : decide (n.kind = 24) = false := decide_eq_false hb
 by_cases hu : n.kind = 25 ∨ n.kind = 21
 case pos =>
  obtain ⟨a, ha, ea⟩ := hk0.2 hu
  refine zg (T := tt) (N := 52) (rs := [.tmp 2]) (fun vs w => by simp) Tryz.func81 rfl rfl rfl rfl (by kernel_rfl) (zd rfl) (qo _ rfl) ?_
  repeat' first
   | refine zl env rfl ?_
   | (refine qc ?_ ?_; (· simp only [d1]))
   | (refine qd ?_ ?_; (· simp only [d1]))
   | (refine qf ?_ ?_; (· simp only [d1]))
   | (refine qe ?_ ?_; (· simp only [d1]))
   | (refine qh ?_ ?_; (· simp only [d1]))
   | (refine qi ?_ ?_; (· simp only [d1]))
   | refine uw env rfl rfl rfl rfl (m := 0) rfl (u4 ha) ?_
   | refine ql (R7_Level _) ?_
   | refine qm (fun h => ?_) (fun h => ?_)
   | refine qr (fun h => ?_) (fun h => ?_)
   | refine qg (fun h => ?_) (fun h => ?_)
   | refine zi env rfl rfl (qq ?_)
   | refine zb env rfl (qq ?_)
  all_goals refine ju ?_
  all_goals (simp_all [kc])
  all_goals (try omega)
 have d2 : decide (n.kind = 25) = false := decide_eq_false (fun e => hu (.inl e))
 have d3 : decide (n.kind = 21) = false := decide_eq_false (fun e => hu (.inr e))
 refine zg (T := tt) (N := 52) (rs := [.tmp 2]) (fun vs w => by simp) Tryz.func81 rfl rfl rfl rfl (by kernel_rfl) (zd rfl) (qo _ rfl) ?_
 repeat' first
  | refine zl env rfl ?_
  | (refine qc ?_ ?_; (· simp only [d1]))
  | (refine qd ?_ ?_; (· simp only [d1]))
  | (refine qf ?_ ?_; (· simp only [d1]))
  | (refine qe ?_ ?_; (· simp only [d1]))
  | (refine qh ?_ ?_; (· simp only [d1]))
  | (refine qi ?_ ?_; (· simp only [d1]))
  | (refine qc ?_ ?_; (· simp only [d2]))
  | (refine qd ?_ ?_; (· simp only [d2]))
  | (refine qf ?_ ?_; (· simp only [d2]))
  | (refine qe ?_ ?_; (· simp only [d2]))
  | (refine qh ?_ ?_; (· simp only [d2]))
  | (refine qi ?_ ?_; (· simp only [d2]))
  | (refine qc ?_ ?_; (· simp only [d3]))
  | (refine qd ?_ ?_; (· simp only [d3]))
  | (refine qf ?_ ?_; (· simp only [d3]))
  | (refine qe ?_ ?_; (· simp only [d3]))
  | (refine qh ?_ ?_; (· simp only [d3]))
  | (refine qi ?_ ?_; (· simp only [d3]))
  | refine ql (R7_Level _) ?_
  | refine qm (fun h => ?_) (fun h => ?_)
  | refine qr (fun h => ?_) (fun h => ?_)
  | refine qg (fun h => ?_) (fun h => ?_)
  | refine zi env rfl rfl (qq ?_)
  | refine zb env rfl (qq ?_)
 all_goals refine ju ?_
 all_goals (simp_all [kc])
theorem gap_mem {l : List ByteArray} {i : Nat} {g : ByteArray} (h : l[i]? = some g) : g ∈ l := List.mem_of_getElem? h
set_option maxHeartbeats 4000000 in
/-- treemerge/grammar.gaps -/
theorem grammar_gaps (n : Node) (hk : n.gaps.length ≤ 9223372036854775807) (hkk : n.kids.length ≤ 9223372036854775807) (hs : ∀ g ∈ n.gaps, g.size ≤ 9223372036854775807) : Fn Tryz.prog G 51 [.agg (zo n)] (.bool (ur n)) := by
 refine zg (T := tt) (N := 26) (rs := [.tmp 2]) (fun vs w => by simp) Tryz.func51 rfl rfl rfl rfl (by kernel_rfl) (zd rfl) (qo _ rfl) ?_
 repeat' first
  | refine zl env rfl ?_
  | (refine k7 (α := Nat) (fun i => i ≤ (n.gaps).length ∧ j4 (fun _ g => ye g) 0 (n.gaps) = j4 (fun _ g => ye g) i ((n.gaps).drop i)) (fun i => (n.gaps).length - i) (fun i => [(12, .int .i64 i)]) (fun _ => []) (0) (fun _ => rfl) (fun _ => rfl) (⟨Nat.zero_le _, rfl⟩) ?_ ?_ (fun i hJ => ?_); (· simp [leFT, leV, leOs, leO, leC, rho, AV.ren, AV.ren1, AV.un, AV.un1, AV.closed]); (· simp [leFT, leV, leOs, leO, leC, rho, AV.ren, AV.ren1, AV.un, AV.un1, AV.closed]); rcases Ya (fun _ g => ye g) (n.gaps) (sc) i hk hJ with ⟨m, hm, hlt, hb, hw, he⟩ | ⟨hb, he⟩)
  | refine kz rfl ?_
  | refine yz rfl rfl ?_
  | (refine ko (i + 1) ?_ ?_ ?_ ?_; (· exact ⟨by omega, by simp_all⟩); (· omega); (· simp [leFT, leV, leOs, leO, leC, rho, AV.ren, AV.ren1, AV.un, AV.un1, AV.closed, hw]); (· simp [leFT, leV, leOs, leO, leC, rho, AV.ren, AV.ren1, AV.un, AV.un1, AV.closed]))
  | (refine qc ?_ ?_; (· simp only [hb]))
  | (refine qd ?_ ?_; (· simp only [hb]))
  | (refine qf ?_ ?_; (· simp only [hb]))
  | (refine qe ?_ ?_; (· simp only [hb]))
  | (refine qh ?_ ?_; (· simp only [hb]))
  | (refine qi ?_ ?_; (· simp only [hb]))
  | refine uw env rfl rfl rfl rfl rfl (gap_at hm) ?_
  | refine ql (trivia_Valid _ (hs _ (gap_mem hm))) ?_
  | refine ql (grammar_Own _ hkk) ?_
  | refine qm (fun h => ?_) (fun h => ?_)
  | refine qr (fun h => ?_) (fun h => ?_)
  | refine qg (fun h => ?_) (fun h => ?_)
  | refine zi env rfl rfl (qq ?_)
  | refine zb env rfl (qq ?_)
 all_goals refine ju ?_
 all_goals simp_all [ur, vl]
end Go.Proofs.YtimcdpioclioiaaGreatDoorW.Ex.Gr
