/- A node's kids. No conditions beside those in each theorem. -/
import Derived.Test.YtigmilhpeodhbaaGreatDoorGd
namespace Go.Proofs.YtigmilhpeodhbaaGreatDoorW.Ex.Gr
open Go Go.Proofs.YtigmilhpeodhbaaGreatDoorW.Ex
set_option linter.all false
set_option maxRecDepth 100000
set_option maxHeartbeats 4000000 in
theorem Y4 (n : Node) (hkn : known n.kind = true) (hk : n.kids.length ≤ 9223372036854775807) : Fn Tryz.prog G 83 [.agg (zf n)] (.bool (qgi n)) := by
 have kb := Yx hkn
 have h0 : 0 ≤ n.kind := by omega
 have h2 : n.kind.toNat < 27 := by omega
 have hg := qjn n.kind h2
 refine zk (T := tt) (N := 57) (rs := [.tmp 2]) (fun vs w => by simp) Tryz.func83 rfl rfl rfl rfl (by kernel_rfl) (zl rfl) (qz _ rfl) ?_
 repeat' first
  | refine ji env rfl ?_
  | refine qkt env rfl rfl rfl rfl h0 h2 hg ?_
  | (refine Jy (α := Nat) (fun i => i ≤ (n.kids).length ∧ Qc (fun i m => fits n.kind i m.kind) 0 (n.kids) = Qc (fun i m => fits n.kind i m.kind) i ((n.kids).drop i)) (fun i => (n.kids).length - i) (fun i => [(44, .int .i64 i)]) (fun _ => []) (0) (fun _ => rfl) (fun _ => rfl) (⟨Nat.zero_le _, rfl⟩) ?_ ?_ (fun i hJ => ?_); (· simp [leFT, leV, leOs, leO, leC, rho, AV.ren, AV.ren1, AV.un, AV.un1, AV.closed]); (· simp [leFT, leV, leOs, leO, leC, rho, AV.ren, AV.ren1, AV.un, AV.un1, AV.closed]); rcases qgt (fun i m => fits n.kind i m.kind) (n.kids) (Node.cells) i hk hJ with ⟨m, hm, hlt, hb, hw, he⟩ | ⟨hb, he⟩)
  | refine Jx rfl ?_
  | refine Zh rfl rfl ?_
  | (refine Jg (i + 1) ?_ ?_ ?_ ?_; (· exact ⟨by omega, by simp_all⟩); (· omega); (· simp [leFT, leV, leOs, leO, leC, rho, AV.ren, AV.ren1, AV.un, AV.un1, AV.closed, hw]); (· simp [leFT, leV, leOs, leO, leC, rho, AV.ren, AV.ren1, AV.un, AV.un1, AV.closed]))
  | (refine qe ?_ ?_; (· simp only [hb]))
  | (refine qf ?_ ?_; (· simp only [hb]))
  | (refine qh ?_ ?_; (· simp only [hb]))
  | (refine qg ?_ ?_; (· simp only [hb]))
  | (refine qo ?_ ?_; (· simp only [hb]))
  | (refine qp ?_ ?_; (· simp only [hb]))
  | refine qai env rfl rfl rfl rfl rfl (qan hm) ?_
  | refine ql (qr0 _ _ _) ?_
  | refine qr (fun h => ?_) (fun h => ?_)
  | refine qu (fun h => ?_) (fun h => ?_)
  | refine qj (fun h => ?_) (fun h => ?_)
  | refine zd env rfl rfl (q4 ?_)
  | refine zm env rfl (q4 ?_)
 all_goals refine wy ?_
 all_goals simp_all [qgi, qa4, Prod.ext_iff]
 all_goals omega
def Ju (v : ByteArray) : Nat → List ByteArray → Int
 | _, [] => -1
 | i, w :: l => if v = w then i else Ju v (i + 1) l
theorem qxt (v : ByteArray) : ∀ (l : List ByteArray) (i : Nat), decide (0 ≤ Ju v i l) = memB v l
 | [], i => by simp [Ju, memB]
 | w :: l, i => by
   simp only [Ju]
   split
   ·rename_i h; subst h; simp [memB]
   ·rename_i h; rw [qxt v l (i + 1)]; simp [memB, h]
theorem q1l (v : ByteArray) (l : List ByteArray) (i : Nat) (hl : l.length ≤ 9223372036854775807) (hJ : i ≤ l.length ∧ Ju v 0 l = Ju v i (l.drop i)) :
 (∃ m, (l.map sc)[i]? = some [.str m] ∧ i < l.length ∧ decide ((i : Int) < ((l.map sc).length : Int)) = true ∧ IntKind.i64.wrap ((i : Int) + 1) = ((i + 1 : Nat) : Int) ∧
   ((decide (v = m) = true ∧ Ju v 0 l = i) ∨ (decide (v = m) = false ∧ Ju v 0 l = Ju v (i + 1) (l.drop (i + 1))))) ∨
 (decide ((i : Int) < ((l.map sc).length : Int)) = false ∧ Ju v 0 l = -1) := by
 rcases Nat.lt_or_ge i l.length with h | h
 ·refine .inl ⟨l[i], by rw [List.getElem?_map, List.getElem?_eq_getElem h]; rfl, h, by simpa using h, j6 (by omega) (by omega), ?_⟩
  have e : Ju v i (l.drop i) = if v = l[i] then (i : Int) else Ju v (i + 1) (l.drop (i + 1)) := by rw [List.drop_eq_getElem_cons h]; rfl
  rw [hJ.2, e]
  by_cases hv : v = l[i]
  ·exact .inl ⟨decide_eq_true hv, if_pos hv⟩
  ·exact .inr ⟨decide_eq_false hv, if_neg hv⟩
 ·refine .inr ⟨by simpa using h, ?_⟩
  rw [hJ.2, List.drop_of_length_le h]; rfl
set_option maxHeartbeats 4000000 in
/-- slices.Index[[]string,string] -/
theorem qrd (l : List ByteArray) (v : ByteArray) (hl : l.length ≤ 9223372036854775807) : Fn Tryz.prog G 141 [.sl 1 false (l.map sc), .str v] (.int .i64 (Ju v 0 l)) := by
 refine zk (T := tt) (N := 19) (rs := [.tmp 4]) (fun vs w => by simp) Tryz.func141 rfl rfl rfl rfl (by kernel_rfl) (zl rfl) (qz _ rfl) ?_
 repeat' first
  | refine ji env rfl ?_
  | (refine Jy (α := Nat) (fun i => i ≤ l.length ∧ Ju v 0 l = Ju v i (l.drop i)) (fun i => l.length - i) (fun i => [(8, .int .i64 i)]) (fun _ => []) (0) (fun _ => rfl) (fun _ => rfl) (⟨Nat.zero_le _, rfl⟩) ?_ ?_ (fun i hJ => ?_); (· simp [leFT, leV, leOs, leO, leC, rho, AV.ren, AV.ren1, AV.un, AV.un1, AV.closed]); (· simp [leFT, leV, leOs, leO, leC, rho, AV.ren, AV.ren1, AV.un, AV.un1, AV.closed]); rcases q1l v l i hl hJ with ⟨m, hm, hlt, hb, hw, ⟨g1, he⟩ | ⟨g1, he⟩⟩ | ⟨hb, he⟩)
  | refine Jx rfl ?_
  | refine Zh rfl rfl ?_
  | (refine Jg (i + 1) ?_ ?_ ?_ ?_; (· exact ⟨by omega, he⟩); (· omega); (· (simp only [hw]; simp [leFT, leV, leOs, leO, leC, rho, AV.ren, AV.ren1, AV.un, AV.un1, AV.closed])); (· simp [leFT, leV, leOs, leO, leC, rho, AV.ren, AV.ren1, AV.un, AV.un1, AV.closed]))
  | (refine qe ?_ ?_; (· simp only [hb]))
  | (refine qf ?_ ?_; (· simp only [hb]))
  | (refine qh ?_ ?_; (· simp only [hb]))
  | (refine qg ?_ ?_; (· simp only [hb]))
  | (refine qo ?_ ?_; (· simp only [hb]))
  | (refine qp ?_ ?_; (· simp only [hb]))
  | (refine qe ?_ ?_; (· simp only [g1]))
  | (refine qf ?_ ?_; (· simp only [g1]))
  | (refine qh ?_ ?_; (· simp only [g1]))
  | (refine qg ?_ ?_; (· simp only [g1]))
  | (refine qo ?_ ?_; (· simp only [g1]))
  | (refine qp ?_ ?_; (· simp only [g1]))
  | refine qai env rfl rfl rfl rfl rfl hm ?_
  | refine qr (fun h => ?_) (fun h => ?_)
  | refine qu (fun h => ?_) (fun h => ?_)
  | refine qj (fun h => ?_) (fun h => ?_)
  | refine zd env rfl rfl (q4 ?_)
  | refine zm env rfl (q4 ?_)
 all_goals refine Jt ?_
 all_goals simp only [he]
set_option maxHeartbeats 4000000 in
/-- slices.Contains[[]string,string] -/
theorem qlw (l : List ByteArray) (v : ByteArray) (hl : l.length ≤ 9223372036854775807) : Fn Tryz.prog G 115 [.sl 1 false (l.map sc), .str v] (.bool (memB v l)) := by
 refine zk (T := tt) (N := 9) (rs := [.tmp 4]) (fun vs w => by simp) Tryz.func115 rfl rfl rfl rfl (by kernel_rfl) (zl rfl) (qz _ rfl) ?_
 repeat' first
  | refine ji env rfl ?_
  | refine ql (qrd _ _ hl) ?_
  | refine qr (fun h => ?_) (fun h => ?_)
  | refine qu (fun h => ?_) (fun h => ?_)
  | refine qj (fun h => ?_) (fun h => ?_)
  | refine zd env rfl rfl (q4 ?_)
  | refine zm env rfl (q4 ?_)
 all_goals refine wy ?_
 all_goals exact qxt v l 0
theorem qyk : ∀ k : Nat, k < 27 → (shapes.getD k ⟨[], (0, 0), 0, [], 0⟩).words.length ≤ 8 := by decide
set_option maxHeartbeats 4000000 in
/-- treemerge/grammar.spelled -/
theorem Ye (n : Node) (hkn : known n.kind = true) : Fn Tryz.prog G 84 [.agg (zf n)] (.bool (qb0 n)) := by
 have kb := Yx hkn
 have h0 : 0 ≤ n.kind := by omega
 have h2 : n.kind.toNat < 27 := by omega
 have hg := qjn n.kind h2
 have hw : (yw n.kind).words.length ≤ 9223372036854775807 := Nat.le_trans (qyk n.kind.toNat h2) (by decide)
 refine zk (T := tt) (N := 22) (rs := [.tmp 2]) (fun vs w => by simp) Tryz.func84 rfl rfl rfl rfl (by kernel_rfl) (zl rfl) (qz _ rfl) ?_
 repeat' first
  | refine ji env rfl ?_
  | refine qkt env rfl rfl rfl rfl h0 h2 hg ?_
  | refine ql (qlw _ _ hw) ?_
  | refine qr (fun h => ?_) (fun h => ?_)
  | refine qu (fun h => ?_) (fun h => ?_)
  | refine qj (fun h => ?_) (fun h => ?_)
  | refine zd env rfl rfl (q4 ?_)
  | refine zm env rfl (q4 ?_)
 all_goals refine wy ?_
 all_goals simp_all [qb0]
set_option maxHeartbeats 4000000 in
/-- treemerge/grammar.called -/
theorem qcg (n : Node) (hkn : known n.kind = true) : Fn Tryz.prog G 86 [.agg (zf n)] (.bool (Wx n)) := by
 have kb := Yx hkn
 have h0 : 0 ≤ n.kind := by omega
 have h2 : n.kind.toNat < 27 := by omega
 have hg := qjn n.kind h2
 refine zk (T := tt) (N := 23) (rs := [.tmp 2]) (fun vs w => by simp) Tryz.func86 rfl rfl rfl rfl (by kernel_rfl) (zl rfl) (qz _ rfl) ?_
 repeat' first
  | refine ji env rfl ?_
  | refine qkt env rfl rfl rfl rfl h0 h2 hg ?_
  | refine ql (qnv _) ?_
  | refine ql (qly _) ?_
  | refine qr (fun h => ?_) (fun h => ?_)
  | refine qu (fun h => ?_) (fun h => ?_)
  | refine qj (fun h => ?_) (fun h => ?_)
  | refine zd env rfl rfl (q4 ?_)
  | refine zm env rfl (q4 ?_)
 all_goals refine wy ?_
 all_goals simp_all [Wx]
theorem qzf : ∀ k : Nat, k < 27 → (k = 24 → (shapes.getD k ⟨[], (0, 0), 0, [], 0⟩).first.length = 2) ∧ (k = 25 ∨ k = 21 → (shapes.getD k ⟨[], (0, 0), 0, [], 0⟩).first.length = 1) := by decide
theorem qcf (n : Node) (h : qgi n = true) (hkn : known n.kind = true) : (n.kind = 24 → ∃ a b, n.kids[0]? = some a ∧ n.kids[1]? = some b ∧ kid n 0 = a ∧ kid n 1 = b) ∧ (n.kind = 25 ∨ n.kind = 21 → ∃ a, n.kids[0]? = some a ∧ kid n 0 = a) := by
 have kb := Yx hkn
 have hf := qzf n.kind.toNat (by omega)
 have hk : n.kind ≠ 14 → (yw n.kind).first.length ≤ n.kids.length := by
  intro hne
  unfold qgi at h
  rw [if_neg (by omega)] at h
  split at h
  ·cases h
  ·omega
 have hs : (yw n.kind).first = (shapes.getD n.kind.toNat ⟨[], (0, 0), 0, [], 0⟩).first := rfl
 constructor
 ·intro hk24
  have h2 := hk (by omega)
  rw [hs, hf.1 (by omega)] at h2
  refine ⟨n.kids[0], n.kids[1], List.getElem?_eq_getElem (by omega), List.getElem?_eq_getElem (by omega), ?_, ?_⟩
  ·unfold kid; rw [List.getD_eq_getElem?_getD, List.getElem?_eq_getElem (by omega)]; rfl
  ·unfold kid; rw [List.getD_eq_getElem?_getD, List.getElem?_eq_getElem (by omega)]; rfl
 ·intro hk2
  have h2 := hk (by omega)
  rw [hs, hf.2 (by omega)] at h2
  refine ⟨n.kids[0], List.getElem?_eq_getElem (by omega), ?_⟩
  unfold kid; rw [List.getD_eq_getElem?_getD, List.getElem?_eq_getElem (by omega)]; rfl
set_option maxHeartbeats 4000000 in
/-- levels -/
theorem Wt (n : Node) (hk0 : (n.kind = 24 → ∃ a b, n.kids[0]? = some a ∧ n.kids[1]? = some b ∧ kid n 0 = a ∧ kid n 1 = b) ∧ (n.kind = 25 ∨ n.kind = 21 → ∃ a, n.kids[0]? = some a ∧ kid n 0 = a)) : Fn Tryz.prog G 85 [.agg (zf n)] (.bool (Yw n)) := by
 by_cases hb : n.kind = 24
 case pos =>
  obtain ⟨a, b, ha, hb2, ea, eb⟩ := hk0.1 hb
  have d1 : decide (n.kind = 24) = true := decide_eq_true hb
  refine zk (T := tt) (N := 51) (rs := [.tmp 2]) (fun vs w => by simp) Tryz.func85 rfl rfl rfl rfl (by kernel_rfl) (zl rfl) (qz _ rfl) ?_
  repeat' first
   | refine ji env rfl ?_
   | (refine qe ?_ ?_; (· simp only [d1]))
   | (refine qf ?_ ?_; (· simp only [d1]))
   | (refine qh ?_ ?_; (· simp only [d1]))
   | (refine qg ?_ ?_; (· simp only [d1]))
   | (refine qo ?_ ?_; (· simp only [d1]))
   | (refine qp ?_ ?_; (· simp only [d1]))
   | refine qai env rfl rfl rfl rfl (m := 0) rfl (qan ha) ?_
   | refine qai env rfl rfl rfl rfl (m := 1) rfl (qan hb2) ?_
   | refine ql (qdk _) ?_
   | refine qr (fun h => ?_) (fun h => ?_)
   | refine qu (fun h => ?_) (fun h => ?_)
   | refine qj (fun h => ?_) (fun h => ?_)
   | refine zd env rfl rfl (q4 ?_)
   | refine zm env rfl (q4 ?_)
  all_goals refine wy ?_
  all_goals (simp_all [Yw])
  all_goals (try omega)
 have d1 : decide (n.kind = 24) = false := decide_eq_false hb
 by_cases hu : n.kind = 25 ∨ n.kind = 21
 case pos =>
  obtain ⟨a, ha, ea⟩ := hk0.2 hu
  refine zk (T := tt) (N := 51) (rs := [.tmp 2]) (fun vs w => by simp) Tryz.func85 rfl rfl rfl rfl (by kernel_rfl) (zl rfl) (qz _ rfl) ?_
  repeat' first
   | refine ji env rfl ?_
   | (refine qe ?_ ?_; (· simp only [d1]))
   | (refine qf ?_ ?_; (· simp only [d1]))
   | (refine qh ?_ ?_; (· simp only [d1]))
   | (refine qg ?_ ?_; (· simp only [d1]))
   | (refine qo ?_ ?_; (· simp only [d1]))
   | (refine qp ?_ ?_; (· simp only [d1]))
   | refine qai env rfl rfl rfl rfl (m := 0) rfl (qan ha) ?_
   | refine ql (qdk _) ?_
   | refine qr (fun h => ?_) (fun h => ?_)
   | refine qu (fun h => ?_) (fun h => ?_)
   | refine qj (fun h => ?_) (fun h => ?_)
   | refine zd env rfl rfl (q4 ?_)
   | refine zm env rfl (q4 ?_)
  all_goals refine wy ?_
  all_goals (simp_all [Yw])
  all_goals (try omega)
 have d2 : decide (n.kind = 25) = false := decide_eq_false (fun e => hu (.inl e))
 have d3 : decide (n.kind = 21) = false := decide_eq_false (fun e => hu (.inr e))
 refine zk (T := tt) (N := 51) (rs := [.tmp 2]) (fun vs w => by simp) Tryz.func85 rfl rfl rfl rfl (by kernel_rfl) (zl rfl) (qz _ rfl) ?_
 repeat' first
  | refine ji env rfl ?_
  | (refine qe ?_ ?_; (· simp only [d1]))
  | (refine qf ?_ ?_; (· simp only [d1]))
  | (refine qh ?_ ?_; (· simp only [d1]))
  | (refine qg ?_ ?_; (· simp only [d1]))
  | (refine qo ?_ ?_; (· simp only [d1]))
  | (refine qp ?_ ?_; (· simp only [d1]))
  | (refine qe ?_ ?_; (· simp only [d2]))
  | (refine qf ?_ ?_; (· simp only [d2]))
  | (refine qh ?_ ?_; (· simp only [d2]))
  | (refine qg ?_ ?_; (· simp only [d2]))
  | (refine qo ?_ ?_; (· simp only [d2]))
  | (refine qp ?_ ?_; (· simp only [d2]))
  | (refine qe ?_ ?_; (· simp only [d3]))
  | (refine qf ?_ ?_; (· simp only [d3]))
  | (refine qh ?_ ?_; (· simp only [d3]))
  | (refine qg ?_ ?_; (· simp only [d3]))
  | (refine qo ?_ ?_; (· simp only [d3]))
  | (refine qp ?_ ?_; (· simp only [d3]))
  | refine ql (qdk _) ?_
  | refine qr (fun h => ?_) (fun h => ?_)
  | refine qu (fun h => ?_) (fun h => ?_)
  | refine qj (fun h => ?_) (fun h => ?_)
  | refine zd env rfl rfl (q4 ?_)
  | refine zm env rfl (q4 ?_)
 all_goals refine wy ?_
 all_goals (simp_all [Yw])
set_option maxHeartbeats 4000000 in
/-- levels -/
theorem qzq (n : Node) (hk0 : (n.kind = 24 → ∃ a b, n.kids[0]? = some a ∧ n.kids[1]? = some b ∧ kid n 0 = a ∧ kid n 1 = b) ∧ (n.kind = 25 ∨ n.kind = 21 → ∃ a, n.kids[0]? = some a ∧ kid n 0 = a)) : Fn Tryz.prog G 159 [.agg (zf n)] (.bool (Yw n)) := by
 by_cases hb : n.kind = 24
 case pos =>
  obtain ⟨a, b, ha, hb2, ea, eb⟩ := hk0.1 hb
  have d1 : decide (n.kind = 24) = true := decide_eq_true hb
  refine zk (T := tt) (N := 52) (rs := [.tmp 2]) (fun vs w => by simp) Tryz.func159 rfl rfl rfl rfl (by kernel_rfl) (zl rfl) (qz _ rfl) ?_
  repeat' first
   | refine ji env rfl ?_
   | (refine qe ?_ ?_; (· simp only [d1]))
   | (refine qf ?_ ?_; (· simp only [d1]))
   | (refine qh ?_ ?_; (· simp only [d1]))
   | (refine qg ?_ ?_; (· simp only [d1]))
   | (refine qo ?_ ?_; (· simp only [d1]))
   | (refine qp ?_ ?_; (· simp only [d1]))
   | refine qai env rfl rfl rfl rfl (m := 0) rfl (qan ha) ?_
   | refine qai env rfl rfl rfl rfl (m := 1) rfl (qan hb2) ?_
   | refine ql (qjz _) ?_
   | refine qr (fun h => ?_) (fun h => ?_)
   | refine qu (fun h => ?_) (fun h => ?_)
   | refine qj (fun h => ?_) (fun h => ?_)
   | refine zd env rfl rfl (q4 ?_)
   | refine zm env rfl (q4 ?_)
  all_goals refine wy ?_
  all_goals (simp_all [Yw])
  all_goals (try omega)
 have d1 : decide (n.kind = 24) = false := decide_eq_false hb
 by_cases hu : n.kind = 25 ∨ n.kind = 21
 case pos =>
  obtain ⟨a, ha, ea⟩ := hk0.2 hu
  refine zk (T := tt) (N := 52) (rs := [.tmp 2]) (fun vs w => by simp) Tryz.func159 rfl rfl rfl rfl (by kernel_rfl) (zl rfl) (qz _ rfl) ?_
  repeat' first
   | refine ji env rfl ?_
   | (refine qe ?_ ?_; (· simp only [d1]))
   | (refine qf ?_ ?_; (· simp only [d1]))
   | (refine qh ?_ ?_; (· simp only [d1]))
   | (refine qg ?_ ?_; (· simp only [d1]))
   | (refine qo ?_ ?_; (· simp only [d1]))
   | (refine qp ?_ ?_; (· simp only [d1]))
   | refine qai env rfl rfl rfl rfl (m := 0) rfl (qan ha) ?_
   | refine ql (qjz _) ?_
   | refine qr (fun h => ?_) (fun h => ?_)
   | refine qu (fun h => ?_) (fun h => ?_)
   | refine qj (fun h => ?_) (fun h => ?_)
   | refine zd env rfl rfl (q4 ?_)
   | refine zm env rfl (q4 ?_)
  all_goals refine wy ?_
  all_goals (simp_all [Yw])
  all_goals (try omega)
 have d2 : decide (n.kind = 25) = false := decide_eq_false (fun e => hu (.inl e))
 have d3 : decide (n.kind = 21) = false := decide_eq_false (fun e => hu (.inr e))
 refine zk (T := tt) (N := 52) (rs := [.tmp 2]) (fun vs w => by simp) Tryz.func159 rfl rfl rfl rfl (by kernel_rfl) (zl rfl) (qz _ rfl) ?_
 repeat' first
  | refine ji env rfl ?_
  | (refine qe ?_ ?_; (· simp only [d1]))
  | (refine qf ?_ ?_; (· simp only [d1]))
  | (refine qh ?_ ?_; (· simp only [d1]))
  | (refine qg ?_ ?_; (· simp only [d1]))
  | (refine qo ?_ ?_; (· simp only [d1]))
  | (refine qp ?_ ?_; (· simp only [d1]))
  | (refine qe ?_ ?_; (· simp only [d2]))
  | (refine qf ?_ ?_; (· simp only [d2]))
  | (refine qh ?_ ?_; (· simp only [d2]))
  | (refine qg ?_ ?_; (· simp only [d2]))
  | (refine qo ?_ ?_; (· simp only [d2]))
  | (refine qp ?_ ?_; (· simp only [d2]))
  | (refine qe ?_ ?_; (· simp only [d3]))
  | (refine qf ?_ ?_; (· simp only [d3]))
  | (refine qh ?_ ?_; (· simp only [d3]))
  | (refine qg ?_ ?_; (· simp only [d3]))
  | (refine qo ?_ ?_; (· simp only [d3]))
  | (refine qp ?_ ?_; (· simp only [d3]))
  | refine ql (qjz _) ?_
  | refine qr (fun h => ?_) (fun h => ?_)
  | refine qu (fun h => ?_) (fun h => ?_)
  | refine qj (fun h => ?_) (fun h => ?_)
  | refine zd env rfl rfl (q4 ?_)
  | refine zm env rfl (q4 ?_)
 all_goals refine wy ?_
 all_goals (simp_all [Yw])
theorem qjm {l : List ByteArray} {i : Nat} {g : ByteArray} (h : l[i]? = some g) : g ∈ l := List.mem_of_getElem? h
set_option maxHeartbeats 4000000 in
/-- treemerge/grammar.gaps -/
theorem qjl (n : Node) (hk : n.gaps.length ≤ 9223372036854775807) (hkk : n.kids.length ≤ 9223372036854775807) (hs : ∀ g ∈ n.gaps, g.size ≤ 9223372036854775807) : Fn Tryz.prog G 87 [.agg (zf n)] (.bool (qgj n)) := by
 refine zk (T := tt) (N := 26) (rs := [.tmp 2]) (fun vs w => by simp) Tryz.func87 rfl rfl rfl rfl (by kernel_rfl) (zl rfl) (qz _ rfl) ?_
 repeat' first
  | refine ji env rfl ?_
  | (refine Jy (α := Nat) (fun i => i ≤ (n.gaps).length ∧ Qc (fun _ g => Zd g) 0 (n.gaps) = Qc (fun _ g => Zd g) i ((n.gaps).drop i)) (fun i => (n.gaps).length - i) (fun i => [(12, .int .i64 i)]) (fun _ => []) (0) (fun _ => rfl) (fun _ => rfl) (⟨Nat.zero_le _, rfl⟩) ?_ ?_ (fun i hJ => ?_); (· simp [leFT, leV, leOs, leO, leC, rho, AV.ren, AV.ren1, AV.un, AV.un1, AV.closed]); (· simp [leFT, leV, leOs, leO, leC, rho, AV.ren, AV.ren1, AV.un, AV.un1, AV.closed]); rcases qgt (fun _ g => Zd g) (n.gaps) (sc) i hk hJ with ⟨m, hm, hlt, hb, hw, he⟩ | ⟨hb, he⟩)
  | refine Jx rfl ?_
  | refine Zh rfl rfl ?_
  | (refine Jg (i + 1) ?_ ?_ ?_ ?_; (· exact ⟨by omega, by simp_all⟩); (· omega); (· simp [leFT, leV, leOs, leO, leC, rho, AV.ren, AV.ren1, AV.un, AV.un1, AV.closed, hw]); (· simp [leFT, leV, leOs, leO, leC, rho, AV.ren, AV.ren1, AV.un, AV.un1, AV.closed]))
  | (refine qe ?_ ?_; (· simp only [hb]))
  | (refine qf ?_ ?_; (· simp only [hb]))
  | (refine qh ?_ ?_; (· simp only [hb]))
  | (refine qg ?_ ?_; (· simp only [hb]))
  | (refine qo ?_ ?_; (· simp only [hb]))
  | (refine qp ?_ ?_; (· simp only [hb]))
  | refine qai env rfl rfl rfl rfl rfl (q1q hm) ?_
  | refine ql (qq6 _ (hs _ (qjm hm))) ?_
  | refine ql (qtx _ hkk) ?_
  | refine qr (fun h => ?_) (fun h => ?_)
  | refine qu (fun h => ?_) (fun h => ?_)
  | refine qj (fun h => ?_) (fun h => ?_)
  | refine zd env rfl rfl (q4 ?_)
  | refine zm env rfl (q4 ?_)
 all_goals refine wy ?_
 all_goals simp_all [qgj, qc8]
end Go.Proofs.YtigmilhpeodhbaaGreatDoorW.Ex.Gr
