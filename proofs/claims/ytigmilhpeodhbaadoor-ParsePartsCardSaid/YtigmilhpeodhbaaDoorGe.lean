/- A node's kids. No conditions beside those in each theorem. -/
import Derived.Test.YtigmilhpeodhbaaDoorGd
namespace Go.Proofs.YtigmilhpeodhbaaDoorW.Ex.Gr
open Go Go.Proofs.YtigmilhpeodhbaaDoorW.Ex
set_option linter.all false
set_option maxRecDepth 100000
set_option maxHeartbeats 4000000 in
theorem Zz (n : Node) (hkn : known n.kind = true) (hk : n.kids.length ≤ 9223372036854775807) : Fn Tryd.prog G 54 [.agg (zu n)] (.bool (Qz n)) := by
 have kb := Yd hkn
 have h0 : 0 ≤ n.kind := by omega
 have h2 : n.kind.toNat < 27 := by omega
 have hg := qff n.kind h2
 refine jj (T := tt) (N := 57) (rs := [.tmp 2]) (fun vs w => by simp) Tryd.func54 rfl rfl rfl rfl (by kernel_rfl) (jb rfl) (q8 _ rfl) ?_
 repeat' first
  | refine yo env rfl ?_
  | refine qgr env rfl rfl rfl rfl h0 h2 hg ?_
  | (refine qdg (α := Nat) (fun i => i ≤ (n.kids).length ∧ vd (fun i m => fits n.kind i m.kind) 0 (n.kids) = vd (fun i m => fits n.kind i m.kind) i ((n.kids).drop i)) (fun i => (n.kids).length - i) (fun i => [(44, .int .i64 i)]) (fun _ => []) (0) (fun _ => rfl) (fun _ => rfl) (⟨Nat.zero_le _, rfl⟩) ?_ ?_ (fun i hJ => ?_); (· simp [leFT, leV, leOs, leO, leC, rho, AV.ren, AV.ren1, AV.un, AV.un1, AV.closed]); (· simp [leFT, leV, leOs, leO, leC, rho, AV.ren, AV.ren1, AV.un, AV.un1, AV.closed]); rcases qp6 (fun i m => fits n.kind i m.kind) (n.kids) (Node.cells) i hk hJ with ⟨m, hm, hlt, hb, hw, he⟩ | ⟨hb, he⟩)
  | refine qdf rfl ?_
  | refine qar rfl rfl ?_
  | (refine qbo (i + 1) ?_ ?_ ?_ ?_; (· exact ⟨by omega, by simp_all⟩); (· omega); (· simp [leFT, leV, leOs, leO, leC, rho, AV.ren, AV.ren1, AV.un, AV.un1, AV.closed, hw]); (· simp [leFT, leV, leOs, leO, leC, rho, AV.ren, AV.ren1, AV.un, AV.un1, AV.closed]))
  | (refine qk ?_ ?_; (· simp only [hb]))
  | (refine ql ?_ ?_; (· simp only [hb]))
  | (refine qn ?_ ?_; (· simp only [hb]))
  | (refine qm ?_ ?_; (· simp only [hb]))
  | (refine qx ?_ ?_; (· simp only [hb]))
  | (refine qy ?_ ?_; (· simp only [hb]))
  | refine qdq env rfl rfl rfl rfl rfl (qgf hm) ?_
  | refine qr (qnc _ _ _) ?_
  | refine qq (fun h => ?_) (fun h => ?_)
  | refine qu (fun h => ?_) (fun h => ?_)
  | refine qi (fun h => ?_) (fun h => ?_)
  | refine yc env rfl rfl (za ?_)
  | refine jc env rfl (za ?_)
 all_goals refine Zr ?_
 all_goals simp_all [Qz, qag, Prod.ext_iff]
 all_goals omega
def Q8 (v : ByteArray) : Nat → List ByteArray → Int
 | _, [] => -1
 | i, w :: l => if v = w then i else Q8 v (i + 1) l
theorem qs4 (v : ByteArray) : ∀ (l : List ByteArray) (i : Nat), decide (0 ≤ Q8 v i l) = memB v l
 | [], i => by simp [Q8, memB]
 | w :: l, i => by
   simp only [Q8]
   split
   ·rename_i h; subst h; simp [memB]
   rename_i h; rw [qs4 v l (i + 1)]; simp [memB, h]
theorem qw8 (v : ByteArray) (l : List ByteArray) (i : Nat) (hl : l.length ≤ 9223372036854775807) (hJ : i ≤ l.length ∧ Q8 v 0 l = Q8 v i (l.drop i)) :
 (∃ m, (l.map sc)[i]? = some [.str m] ∧ i < l.length ∧ decide ((i : Int) < ((l.map sc).length : Int)) = true ∧ IntKind.i64.wrap ((i : Int) + 1) = ((i + 1 : Nat) : Int) ∧
   ((decide (v = m) = true ∧ Q8 v 0 l = i) ∨ (decide (v = m) = false ∧ Q8 v 0 l = Q8 v (i + 1) (l.drop (i + 1))))) ∨
 (decide ((i : Int) < ((l.map sc).length : Int)) = false ∧ Q8 v 0 l = -1) := by
 rcases Nat.lt_or_ge i l.length with h | h
 ·refine .inl ⟨l[i], by rw [List.getElem?_map, List.getElem?_eq_getElem h]; rfl, h, by simpa using h, wt (by omega) (by omega), ?_⟩
  have e : Q8 v i (l.drop i) = if v = l[i] then (i : Int) else Q8 v (i + 1) (l.drop (i + 1)) := by rw [List.drop_eq_getElem_cons h]; rfl
  rw [hJ.2, e]
  by_cases hv : v = l[i]
  ·exact .inl ⟨decide_eq_true hv, if_pos hv⟩
  exact .inr ⟨decide_eq_false hv, if_neg hv⟩
 refine .inr ⟨by simpa using h, ?_⟩
 rw [hJ.2, List.drop_of_length_le h]; rfl
set_option maxHeartbeats 4000000 in
theorem qmo (l : List ByteArray) (v : ByteArray) (hl : l.length ≤ 9223372036854775807) : Fn Tryd.prog G 75 [.sl 1 false (l.map sc), .str v] (.int .i64 (Q8 v 0 l)) := by
 refine jj (T := tt) (N := 19) (rs := [.tmp 4]) (fun vs w => by simp) Tryd.func75 rfl rfl rfl rfl (by kernel_rfl) (jb rfl) (q8 _ rfl) ?_
 repeat' first
  | refine yo env rfl ?_
  | (refine qdg (α := Nat) (fun i => i ≤ l.length ∧ Q8 v 0 l = Q8 v i (l.drop i)) (fun i => l.length - i) (fun i => [(8, .int .i64 i)]) (fun _ => []) (0) (fun _ => rfl) (fun _ => rfl) (⟨Nat.zero_le _, rfl⟩) ?_ ?_ (fun i hJ => ?_); (· simp [leFT, leV, leOs, leO, leC, rho, AV.ren, AV.ren1, AV.un, AV.un1, AV.closed]); (· simp [leFT, leV, leOs, leO, leC, rho, AV.ren, AV.ren1, AV.un, AV.un1, AV.closed]); rcases qw8 v l i hl hJ with ⟨m, hm, hlt, hb, hw, ⟨g1, he⟩ | ⟨g1, he⟩⟩ | ⟨hb, he⟩)
  | refine qdf rfl ?_
  | refine qar rfl rfl ?_
  | (refine qbo (i + 1) ?_ ?_ ?_ ?_; (· exact ⟨by omega, he⟩); (· omega); (· (simp only [hw]; simp [leFT, leV, leOs, leO, leC, rho, AV.ren, AV.ren1, AV.un, AV.un1, AV.closed])); (· simp [leFT, leV, leOs, leO, leC, rho, AV.ren, AV.ren1, AV.un, AV.un1, AV.closed]))
  | (refine qk ?_ ?_; (· simp only [hb]))
  | (refine ql ?_ ?_; (· simp only [hb]))
  | (refine qn ?_ ?_; (· simp only [hb]))
  | (refine qm ?_ ?_; (· simp only [hb]))
  | (refine qx ?_ ?_; (· simp only [hb]))
  | (refine qy ?_ ?_; (· simp only [hb]))
  | (refine qk ?_ ?_; (· simp only [g1]))
  | (refine ql ?_ ?_; (· simp only [g1]))
  | (refine qn ?_ ?_; (· simp only [g1]))
  | (refine qm ?_ ?_; (· simp only [g1]))
  | (refine qx ?_ ?_; (· simp only [g1]))
  | (refine qy ?_ ?_; (· simp only [g1]))
  | refine qdq env rfl rfl rfl rfl rfl hm ?_
  | refine qq (fun h => ?_) (fun h => ?_)
  | refine qu (fun h => ?_) (fun h => ?_)
  | refine qi (fun h => ?_) (fun h => ?_)
  | refine yc env rfl rfl (za ?_)
  | refine jc env rfl (za ?_)
 all_goals refine qbj ?_
 all_goals simp only [he]
set_option maxHeartbeats 4000000 in
theorem qhn (l : List ByteArray) (v : ByteArray) (hl : l.length ≤ 9223372036854775807) : Fn Tryd.prog G 65 [.sl 1 false (l.map sc), .str v] (.bool (memB v l)) := by
 refine jj (T := tt) (N := 9) (rs := [.tmp 4]) (fun vs w => by simp) Tryd.func65 rfl rfl rfl rfl (by kernel_rfl) (jb rfl) (q8 _ rfl) ?_
 repeat' first
  | refine yo env rfl ?_
  | refine qr (qmo _ _ hl) ?_
  | refine qq (fun h => ?_) (fun h => ?_)
  | refine qu (fun h => ?_) (fun h => ?_)
  | refine qi (fun h => ?_) (fun h => ?_)
  | refine yc env rfl rfl (za ?_)
  | refine jc env rfl (za ?_)
 all_goals refine Zr ?_
 all_goals exact qs4 v l 0
theorem qt1 : ∀ k : Nat, k < 27 → (shapes.getD k ⟨[], (0, 0), 0, [], 0⟩).words.length ≤ 8 := by decide
set_option maxHeartbeats 4000000 in
theorem Ze (n : Node) (hkn : known n.kind = true) : Fn Tryd.prog G 55 [.agg (zu n)] (.bool (spelledOk n)) := by
 have kb := Yd hkn
 have h0 : 0 ≤ n.kind := by omega
 have h2 : n.kind.toNat < 27 := by omega
 have hg := qff n.kind h2
 have hw : (zq n.kind).words.length ≤ 9223372036854775807 := Nat.le_trans (qt1 n.kind.toNat h2) (by decide)
 refine jj (T := tt) (N := 22) (rs := [.tmp 2]) (fun vs w => by simp) Tryd.func55 rfl rfl rfl rfl (by kernel_rfl) (jb rfl) (q8 _ rfl) ?_
 repeat' first
  | refine yo env rfl ?_
  | refine qgr env rfl rfl rfl rfl h0 h2 hg ?_
  | refine qr (qhn _ _ hw) ?_
  | refine qq (fun h => ?_) (fun h => ?_)
  | refine qu (fun h => ?_) (fun h => ?_)
  | refine qi (fun h => ?_) (fun h => ?_)
  | refine yc env rfl rfl (za ?_)
  | refine jc env rfl (za ?_)
 all_goals refine Zr ?_
 all_goals simp_all [spelledOk]
set_option maxHeartbeats 4000000 in
theorem K5 (n : Node) (hkn : known n.kind = true) : Fn Tryd.prog G 57 [.agg (zu n)] (.bool (calledOk n)) := by
 have kb := Yd hkn
 have h0 : 0 ≤ n.kind := by omega
 have h2 : n.kind.toNat < 27 := by omega
 have hg := qff n.kind h2
 refine jj (T := tt) (N := 23) (rs := [.tmp 2]) (fun vs w => by simp) Tryd.func57 rfl rfl rfl rfl (by kernel_rfl) (jb rfl) (q8 _ rfl) ?_
 repeat' first
  | refine yo env rfl ?_
  | refine qgr env rfl rfl rfl rfl h0 h2 hg ?_
  | refine qr (qi9 _) ?_
  | refine qr (qhp _) ?_
  | refine qq (fun h => ?_) (fun h => ?_)
  | refine qu (fun h => ?_) (fun h => ?_)
  | refine qi (fun h => ?_) (fun h => ?_)
  | refine yc env rfl rfl (za ?_)
  | refine jc env rfl (za ?_)
 all_goals refine Zr ?_
 all_goals simp_all [calledOk]
theorem qux : ∀ k : Nat, k < 27 → (k = 24 → (shapes.getD k ⟨[], (0, 0), 0, [], 0⟩).first.length = 2) ∧ (k = 25 ∨ k = 21 → (shapes.getD k ⟨[], (0, 0), 0, [], 0⟩).first.length = 1) := by decide
theorem qbh (n : Node) (h : Qz n = true) (hkn : known n.kind = true) : (n.kind = 24 → ∃ a b, n.kids[0]? = some a ∧ n.kids[1]? = some b ∧ kid n 0 = a ∧ kid n 1 = b) ∧ (n.kind = 25 ∨ n.kind = 21 → ∃ a, n.kids[0]? = some a ∧ kid n 0 = a) := by
 have kb := Yd hkn
 have hf := qux n.kind.toNat (by omega)
 have hk : n.kind ≠ 14 → (zq n.kind).first.length ≤ n.kids.length := by
  intro hne
  unfold Qz at h
  rw [if_neg (by omega)] at h
  split at h
  ·cases h
  omega
 have hs : (zq n.kind).first = (shapes.getD n.kind.toNat ⟨[], (0, 0), 0, [], 0⟩).first := rfl
 constructor
 ·intro hk24
  have h2 := hk (by omega)
  rw [hs, hf.1 (by omega)] at h2
  refine ⟨n.kids[0], n.kids[1], List.getElem?_eq_getElem (by omega), List.getElem?_eq_getElem (by omega), ?_, ?_⟩
  ·unfold kid; rw [List.getD_eq_getElem?_getD, List.getElem?_eq_getElem (by omega)]; rfl
  unfold kid; rw [List.getD_eq_getElem?_getD, List.getElem?_eq_getElem (by omega)]; rfl
 intro hk2
 have h2 := hk (by omega)
 rw [hs, hf.2 (by omega)] at h2
 refine ⟨n.kids[0], List.getElem?_eq_getElem (by omega), ?_⟩
 unfold kid; rw [List.getD_eq_getElem?_getD, List.getElem?_eq_getElem (by omega)]; rfl
set_option maxHeartbeats 4000000 in
theorem Ye (n : Node) (hk0 : (n.kind = 24 → ∃ a b, n.kids[0]? = some a ∧ n.kids[1]? = some b ∧ kid n 0 = a ∧ kid n 1 = b) ∧ (n.kind = 25 ∨ n.kind = 21 → ∃ a, n.kids[0]? = some a ∧ kid n 0 = a)) : Fn Tryd.prog G 56 [.agg (zu n)] (.bool (levelsOk n)) := by
 by_cases hb : n.kind = 24
 case pos =>
  obtain ⟨a, b, ha, hb2, ea, eb⟩ := hk0.1 hb
  have d1 : decide (n.kind = 24) = true := decide_eq_true hb
  refine jj (T := tt) (N := 51) (rs := [.tmp 2]) (fun vs w => by simp) Tryd.func56 rfl rfl rfl rfl (by kernel_rfl) (jb rfl) (q8 _ rfl) ?_
  repeat' first
   | refine yo env rfl ?_
   | (refine qk ?_ ?_; (· simp only [d1]))
   | (refine ql ?_ ?_; (· simp only [d1]))
   | (refine qn ?_ ?_; (· simp only [d1]))
   | (refine qm ?_ ?_; (· simp only [d1]))
   | (refine qx ?_ ?_; (· simp only [d1]))
   | (refine qy ?_ ?_; (· simp only [d1]))
   | refine qdq env rfl rfl rfl rfl (m := 0) rfl (qgf ha) ?_
   | refine qdq env rfl rfl rfl rfl (m := 1) rfl (qgf hb2) ?_
   | refine qr (Wz _) ?_
   | refine qq (fun h => ?_) (fun h => ?_)
   | refine qu (fun h => ?_) (fun h => ?_)
   | refine qi (fun h => ?_) (fun h => ?_)
   | refine yc env rfl rfl (za ?_)
   | refine jc env rfl (za ?_)
  all_goals refine Zr ?_
  all_goals (simp_all [levelsOk])
  all_goals (try omega)
 have d1 : decide (n.kind = 24) = false := decide_eq_false hb
 by_cases hu : n.kind = 25 ∨ n.kind = 21
 case pos =>
  obtain ⟨a, ha, ea⟩ := hk0.2 hu
  refine jj (T := tt) (N := 51) (rs := [.tmp 2]) (fun vs w => by simp) Tryd.func56 rfl rfl rfl rfl (by kernel_rfl) (jb rfl) (q8 _ rfl) ?_
  repeat' first
   | refine yo env rfl ?_
   | (refine qk ?_ ?_; (· simp only [d1]))
   | (refine ql ?_ ?_; (· simp only [d1]))
   | (refine qn ?_ ?_; (· simp only [d1]))
   | (refine qm ?_ ?_; (· simp only [d1]))
   | (refine qx ?_ ?_; (· simp only [d1]))
   | (refine qy ?_ ?_; (· simp only [d1]))
   | refine qdq env rfl rfl rfl rfl (m := 0) rfl (qgf ha) ?_
   | refine qr (Wz _) ?_
   | refine qq (fun h => ?_) (fun h => ?_)
   | refine qu (fun h => ?_) (fun h => ?_)
   | refine qi (fun h => ?_) (fun h => ?_)
   | refine yc env rfl rfl (za ?_)
   | refine jc env rfl (za ?_)
  all_goals refine Zr ?_
  all_goals (simp_all [levelsOk])
  all_goals (try omega)
 have d2 : decide (n.kind = 25) = false := decide_eq_false (fun e => hu (.inl e))
 have d3 : decide (n.kind = 21) = false := decide_eq_false (fun e => hu (.inr e))
 refine jj (T := tt) (N := 51) (rs := [.tmp 2]) (fun vs w => by simp) Tryd.func56 rfl rfl rfl rfl (by kernel_rfl) (jb rfl) (q8 _ rfl) ?_
 repeat' first
  | refine yo env rfl ?_
  | (refine qk ?_ ?_; (· simp only [d1]))
  | (refine ql ?_ ?_; (· simp only [d1]))
  | (refine qn ?_ ?_; (· simp only [d1]))
  | (refine qm ?_ ?_; (· simp only [d1]))
  | (refine qx ?_ ?_; (· simp only [d1]))
  | (refine qy ?_ ?_; (· simp only [d1]))
  | (refine qk ?_ ?_; (· simp only [d2]))
  | (refine ql ?_ ?_; (· simp only [d2]))
  | (refine qn ?_ ?_; (· simp only [d2]))
  | (refine qm ?_ ?_; (· simp only [d2]))
  | (refine qx ?_ ?_; (· simp only [d2]))
  | (refine qy ?_ ?_; (· simp only [d2]))
  | (refine qk ?_ ?_; (· simp only [d3]))
  | (refine ql ?_ ?_; (· simp only [d3]))
  | (refine qn ?_ ?_; (· simp only [d3]))
  | (refine qm ?_ ?_; (· simp only [d3]))
  | (refine qx ?_ ?_; (· simp only [d3]))
  | (refine qy ?_ ?_; (· simp only [d3]))
  | refine qr (Wz _) ?_
  | refine qq (fun h => ?_) (fun h => ?_)
  | refine qu (fun h => ?_) (fun h => ?_)
  | refine qi (fun h => ?_) (fun h => ?_)
  | refine yc env rfl rfl (za ?_)
  | refine jc env rfl (za ?_)
 all_goals refine Zr ?_
 all_goals (simp_all [levelsOk])
theorem qy9 {l : List ByteArray} {i : Nat} {g : ByteArray} (h : l[i]? = some g) : g ∈ l := List.mem_of_getElem? h
set_option maxHeartbeats 4000000 in
theorem qfc (n : Node) (hk : n.gaps.length ≤ 9223372036854775807) (hkk : n.kids.length ≤ 9223372036854775807) (hs : ∀ g ∈ n.gaps, g.size ≤ 9223372036854775807) : Fn Tryd.prog G 58 [.agg (zu n)] (.bool (qcn n)) := by
 refine jj (T := tt) (N := 26) (rs := [.tmp 2]) (fun vs w => by simp) Tryd.func58 rfl rfl rfl rfl (by kernel_rfl) (jb rfl) (q8 _ rfl) ?_
 repeat' first
  | refine yo env rfl ?_
  | (refine qdg (α := Nat) (fun i => i ≤ (n.gaps).length ∧ vd (fun _ g => trivValid g) 0 (n.gaps) = vd (fun _ g => trivValid g) i ((n.gaps).drop i)) (fun i => (n.gaps).length - i) (fun i => [(12, .int .i64 i)]) (fun _ => []) (0) (fun _ => rfl) (fun _ => rfl) (⟨Nat.zero_le _, rfl⟩) ?_ ?_ (fun i hJ => ?_); (· simp [leFT, leV, leOs, leO, leC, rho, AV.ren, AV.ren1, AV.un, AV.un1, AV.closed]); (· simp [leFT, leV, leOs, leO, leC, rho, AV.ren, AV.ren1, AV.un, AV.un1, AV.closed]); rcases qp6 (fun _ g => trivValid g) (n.gaps) (sc) i hk hJ with ⟨m, hm, hlt, hb, hw, he⟩ | ⟨hb, he⟩)
  | refine qdf rfl ?_
  | refine qar rfl rfl ?_
  | (refine qbo (i + 1) ?_ ?_ ?_ ?_; (· exact ⟨by omega, by simp_all⟩); (· omega); (· simp [leFT, leV, leOs, leO, leC, rho, AV.ren, AV.ren1, AV.un, AV.un1, AV.closed, hw]); (· simp [leFT, leV, leOs, leO, leC, rho, AV.ren, AV.ren1, AV.un, AV.un1, AV.closed]))
  | (refine qk ?_ ?_; (· simp only [hb]))
  | (refine ql ?_ ?_; (· simp only [hb]))
  | (refine qn ?_ ?_; (· simp only [hb]))
  | (refine qm ?_ ?_; (· simp only [hb]))
  | (refine qx ?_ ?_; (· simp only [hb]))
  | (refine qy ?_ ?_; (· simp only [hb]))
  | refine qdq env rfl rfl rfl rfl rfl (q01 hm) ?_
  | refine qr (qmi _ (hs _ (qy9 hm))) ?_
  | refine qr (qpg _ hkk) ?_
  | refine qq (fun h => ?_) (fun h => ?_)
  | refine qu (fun h => ?_) (fun h => ?_)
  | refine qi (fun h => ?_) (fun h => ?_)
  | refine yc env rfl rfl (za ?_)
  | refine jc env rfl (za ?_)
 all_goals refine Zr ?_
 all_goals simp_all [qcn, qnf]
end Go.Proofs.YtigmilhpeodhbaaDoorW.Ex.Gr
