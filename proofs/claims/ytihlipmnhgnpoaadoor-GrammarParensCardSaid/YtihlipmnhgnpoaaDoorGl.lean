/- The statements about parts and operators return true. Conditions: those of the trees that come in (Wf). -/
import Derived.Test.YtihlipmnhgnpoaaDoorGi
import Derived.KernelRfl
namespace Go.Proofs.YtihlipmnhgnpoaaDoorW.Ex.Gr
open Go Go.Proofs.YtihlipmnhgnpoaaDoorW.Ex
set_option linter.all false
set_option maxRecDepth 100000
mutual
theorem size_mono : ∀ (n : Node) (d s : Nat), size? n d = some s → size? n (d + 1) = some s
  | .mk k t g l, 0, s, h => by simp [size?] at h
  | .mk k t g l, d + 1, s, h => by
    rw [size_succ] at h ⊢
    split at h
    · cases h
    · rename_i hm
      rw [if_neg hm]
      simp only [Option.map_eq_some_iff] at h ⊢
      obtain ⟨a, ha, rfl⟩ := h
      exact ⟨a, sizeL_mono l d a ha, rfl⟩
theorem sizeL_mono : ∀ (l : List Node) (d s : Nat), sizeL? l d = some s → sizeL? l (d + 1) = some s
  | [], d, s, h => h
  | n :: l, d, s, h => by
    rw [sizeL_cons] at h ⊢
    cases ha : size? n d with
    | none => rw [ha] at h; cases h
    | some a =>
      cases hb : sizeL? l d with
      | none => rw [ha, hb] at h; cases h
      | some b =>
        rw [ha, hb] at h
        rw [size_mono n d a ha, sizeL_mono l d b hb]
        exact h
end
theorem sizeL_mem : ∀ (l : List Node) (d s : Nat), sizeL? l d = some s → ∀ m ∈ l, ∃ a, size? m d = some a ∧ a ≤ s
  | [], d, s, h, m, hm => by cases hm
  | n :: l, d, s, h, m, hm => by
    rw [sizeL_cons] at h
    cases ha : size? n d with
    | none => rw [ha] at h; cases h
    | some a =>
      cases hb : sizeL? l d with
      | none => rw [ha, hb] at h; cases h
      | some b =>
        rw [ha, hb] at h
        simp only [Option.some.injEq] at h
        rcases List.mem_cons.1 hm with rfl | hm
        · exact ⟨a, ha, by omega⟩
        · obtain ⟨c, hc, hle⟩ := sizeL_mem l d b hb m hm
          exact ⟨c, hc, by omega⟩
theorem firstL_mem : ∀ (l : List Node), firstErrL l = 0 → ∀ m ∈ l, firstErr m = 0
  | [], h, m, hm => by cases hm
  | n :: l, h, m, hm => by
    rw [firstErrL] at h
    split at h
    · rename_i h0
      rcases List.mem_cons.1 hm with rfl | hm
      · exact h0
      · exact firstL_mem l h m hm
    · rename_i h0; exact absurd h h0
theorem check_ok {n : Node} (h : checkErr n = 0) : ∃ k, size? n 60 = some k ∧ k ≤ 4000 ∧ firstErr n = 0 := by
  unfold checkErr at h
  split at h
  · rename_i k hk
    split at h
    · rename_i hle; exact ⟨k, hk, hle, h⟩
    · cases h
  · cases h
theorem check_of {n : Node} {k : Nat} (h1 : size? n 60 = some k) (h2 : k ≤ 4000) (h3 : firstErr n = 0) : checkErr n = 0 := by
  unfold checkErr
  rw [h1]
  simp only [if_pos h2, h3]
theorem node_ok {n : Node} (h : nodeErr n = 0) : known n.kind = true ∧ kidsOk n = true ∧ spelledOk n = true ∧ levelsOk n = true ∧ calledOk n = true ∧ gapsOk n = true := by
  unfold nodeErr at h
  split at h
  · cases h
  · rename_i h1
    split at h
    · cases h
    · rename_i h2
      split at h
      · cases h
      · rename_i h3
        have h1 : shapeOk n = true := by simpa using h1
        simp only [shapeOk, Bool.and_eq_true] at h1
        exact ⟨h1.1.1.1, h1.1.1.2, h1.1.2, h1.2, by simpa using h2, by simpa using h3⟩
theorem first_ok {n : Node} (h : firstErr n = 0) : nodeErr n = 0 ∧ ∀ m ∈ n.kids, firstErr m = 0 := by
  rw [firstErr_eq] at h
  split at h
  · rename_i h0; exact ⟨h0, firstL_mem _ h⟩
  · rename_i h0; exact absurd h h0
theorem most_le (k : Int) : most k ≤ 200 := by unfold most; split <;> (try split) <;> omega
theorem parts (n : Node) (h : checkErr n = 0) : n.kids.length ≤ 200 ∧ (n.gaps = [] ∨ (n.gaps.length : Int) = own n) ∧ ∀ (i : Nat) (m : Node), n.kids[i]? = some m → checkErr m = 0 ∧ fits n.kind i m.kind = true := by
  obtain ⟨k, h1, h2, h3⟩ := check_ok h
  obtain ⟨h4, h5⟩ := first_ok h3
  obtain ⟨k0, k1, k2, k3, k4, k5⟩ := node_ok h4
  rw [size_succ] at h1
  have hm := most_le n.kind
  split at h1
  · cases h1
  · rename_i hmost
    simp only [Option.map_eq_some_iff] at h1
    obtain ⟨a, ha, rfl⟩ := h1
    refine ⟨by omega, ?_, fun i m hi => ?_⟩
    · unfold gapsOk at k5
      simp only [Bool.or_eq_true, Bool.and_eq_true, decide_eq_true_eq] at k5
      exact k5.imp id (fun h => h.2)
    · obtain ⟨b, hb, hle⟩ := sizeL_mem _ _ _ ha m (List.mem_of_getElem? hi)
      refine ⟨check_of (size_mono m 59 b hb) (by omega) (h5 m (List.mem_of_getElem? hi)), ?_⟩
      have hk := kids_eq n k0
      rw [k1] at hk
      simp only [Bool.true_eq, Bool.and_eq_true] at hk
      have := all_at _ n.kids 0 hk.2 i m hi
      simpa using this
theorem parts_turn (n : Node) (i : Nat) (hk : n.kids.length ≤ 200) (hi : i ≤ n.kids.length) (hp : ∀ (i : Nat) (m : Node), n.kids[i]? = some m → checkErr m = 0 ∧ fits n.kind i m.kind = true) :
    (∃ m, n.kids[i]? = some m ∧ m ∈ n.kids ∧ i < n.kids.length ∧ decide ((i : Int) < ((n.kids.map Node.cells).length : Int)) = true ∧ IntKind.i64.wrap ((i : Int) + 1) = ((i + 1 : Nat) : Int) ∧ decide (checkErr m = 0) = true ∧ fits n.kind i m.kind = true) ∨
    decide ((i : Int) < ((n.kids.map Node.cells).length : Int)) = false := by
  rcases Nat.lt_or_ge i n.kids.length with h | h
  · have := hp i _ (List.getElem?_eq_getElem h)
    exact .inl ⟨n.kids[i], List.getElem?_eq_getElem h, List.getElem_mem h, h, by simpa using h, wrap_id (by omega) (by omega), decide_eq_true this.1, this.2⟩
  · exact .inr (by simpa using h)
set_option maxHeartbeats 4000000 in
/-- GrammarParts -/
theorem L7_GrammarParts (n : Node) (hwf : Wf n) : Fn Tryd.prog G 6 [.agg (cellsN n)] (.bool true) := by
  have hsub : n.kids.length ≤ 9223372036854775807 ∧ ∀ m ∈ n.kids, Wf m := by cases hwf; exact ⟨by assumption, by assumption⟩
  by_cases hc : checkErr n = 0
  case neg =>
    have e : decide (checkErr n = 0) = false := decide_eq_false hc
    refine Fn_run (T := tt) (N := 54) (rs := [.tmp 2]) (fun vs w => by simp) Tryd.func6 rfl rfl rfl rfl (by kernel_rfl) (all_pure rfl) (closed2_pure _ rfl) ?_
    repeat' first
      | refine Ok_run env rfl ?_
      | (refine Ok_guard_t1 ?_ ?_; (· simp only [e, Bool.not_true, Bool.not_false]))
      | (refine Ok_guard_t0 ?_ ?_; (· simp only [e, Bool.not_true, Bool.not_false]))
      | (refine Ok_guard_f0 ?_ ?_; (· simp only [e, Bool.not_true, Bool.not_false]))
      | (refine Ok_guard_f1 ?_ ?_; (· simp only [e, Bool.not_true, Bool.not_false]))
      | (refine Ok_cond_t ?_ ?_; (· simp only [e, Bool.not_true, Bool.not_false]))
      | (refine Ok_cond_f ?_ ?_; (· simp only [e, Bool.not_true, Bool.not_false]))
      | refine Ok_call (grammar_Check n hwf) ?_
      | refine Ok_call (L7_awake) ?_
      | refine Ok_guard_t (fun h => ?_) (fun h => ?_)
      | refine Ok_guard_f (fun h => ?_) (fun h => ?_)
      | refine Ok_cond (fun h => ?_) (fun h => ?_)
      | refine Ok_fin env rfl rfl (told_eq ?_)
      | refine Ok_fin_n env rfl (told_eq ?_)
    all_goals rfl
  have e : decide (checkErr n = 0) = true := decide_eq_true hc
  obtain ⟨hlen, hgp, hparts⟩ := parts n hc
  have a1 : decide (200 < ((n.kids.map Node.cells).length : Int)) = false := by rw [List.length_map]; exact decide_eq_false (by omega)
  have a2 : decide (0 < ((n.gaps.map sc).length : Int)) = false ∨ (decide (0 < ((n.gaps.map sc).length : Int)) = true ∧ decide (((n.gaps.map sc).length : Int) = own n) = true) := by
    rw [List.length_map]
    rcases hgp with h | h
    · left; rw [h]; rfl
    · by_cases h0 : 0 < (n.gaps.length : Int)
      · exact .inr ⟨decide_eq_true h0, decide_eq_true h⟩
      · exact .inl (decide_eq_false h0)
  rcases a2 with a2 | ⟨a2, a3⟩
  all_goals
    refine Fn_run (T := tt) (N := 54) (rs := [.tmp 2]) (fun vs w => by simp) Tryd.func6 rfl rfl rfl rfl (by kernel_rfl) (all_pure rfl) (closed2_pure _ rfl) ?_
    repeat' first
      | refine Ok_run env rfl ?_
      | (refine Ok_loop (α := Nat) (fun i => i ≤ n.kids.length) (fun i => n.kids.length - i) (fun i => [(3, .int .i64 i)]) (fun _ => []) (0) (fun _ => rfl) (fun _ => rfl) (Nat.zero_le _) ?_ ?_ (fun i hJ => ?_); (· simp [leFT, leV, leOs, leO, leC, rho, AV.ren, AV.ren1, AV.un, AV.un1, AV.closed]); (· simp [leFT, leV, leOs, leO, leC, rho, AV.ren, AV.ren1, AV.un, AV.un1, AV.closed]); rcases parts_turn n i hlen hJ hparts with ⟨m, hm, hmem, hlt, hb, hw, g1, g2⟩ | hb)
      | refine Ok_lret rfl ?_
      | refine Ok_lexit rfl rfl ?_
      | (refine Ok_back (i + 1) ?_ ?_ ?_ ?_; (· omega); (· omega); (· (simp only [hw]; simp [leFT, leV, leOs, leO, leC, rho, AV.ren, AV.ren1, AV.un, AV.un1, AV.closed])); (· simp [leFT, leV, leOs, leO, leC, rho, AV.ren, AV.ren1, AV.un, AV.un1, AV.closed]))
      | refine Ok_ix env rfl rfl rfl rfl rfl (kid_at hm) ?_
      | (refine Ok_guard_t1 ?_ ?_; (· simp only [e, Bool.not_true, Bool.not_false]))
      | (refine Ok_guard_t0 ?_ ?_; (· simp only [e, Bool.not_true, Bool.not_false]))
      | (refine Ok_guard_f0 ?_ ?_; (· simp only [e, Bool.not_true, Bool.not_false]))
      | (refine Ok_guard_f1 ?_ ?_; (· simp only [e, Bool.not_true, Bool.not_false]))
      | (refine Ok_cond_t ?_ ?_; (· simp only [e, Bool.not_true, Bool.not_false]))
      | (refine Ok_cond_f ?_ ?_; (· simp only [e, Bool.not_true, Bool.not_false]))
      | (refine Ok_guard_t1 ?_ ?_; (· simp only [a1, Bool.not_true, Bool.not_false]))
      | (refine Ok_guard_t0 ?_ ?_; (· simp only [a1, Bool.not_true, Bool.not_false]))
      | (refine Ok_guard_f0 ?_ ?_; (· simp only [a1, Bool.not_true, Bool.not_false]))
      | (refine Ok_guard_f1 ?_ ?_; (· simp only [a1, Bool.not_true, Bool.not_false]))
      | (refine Ok_cond_t ?_ ?_; (· simp only [a1, Bool.not_true, Bool.not_false]))
      | (refine Ok_cond_f ?_ ?_; (· simp only [a1, Bool.not_true, Bool.not_false]))
      | (refine Ok_guard_t1 ?_ ?_; (· simp only [a2, Bool.not_true, Bool.not_false]))
      | (refine Ok_guard_t0 ?_ ?_; (· simp only [a2, Bool.not_true, Bool.not_false]))
      | (refine Ok_guard_f0 ?_ ?_; (· simp only [a2, Bool.not_true, Bool.not_false]))
      | (refine Ok_guard_f1 ?_ ?_; (· simp only [a2, Bool.not_true, Bool.not_false]))
      | (refine Ok_cond_t ?_ ?_; (· simp only [a2, Bool.not_true, Bool.not_false]))
      | (refine Ok_cond_f ?_ ?_; (· simp only [a2, Bool.not_true, Bool.not_false]))
      | (refine Ok_guard_t1 ?_ ?_; (· simp only [a3, Bool.not_true, Bool.not_false]))
      | (refine Ok_guard_t0 ?_ ?_; (· simp only [a3, Bool.not_true, Bool.not_false]))
      | (refine Ok_guard_f0 ?_ ?_; (· simp only [a3, Bool.not_true, Bool.not_false]))
      | (refine Ok_guard_f1 ?_ ?_; (· simp only [a3, Bool.not_true, Bool.not_false]))
      | (refine Ok_cond_t ?_ ?_; (· simp only [a3, Bool.not_true, Bool.not_false]))
      | (refine Ok_cond_f ?_ ?_; (· simp only [a3, Bool.not_true, Bool.not_false]))
      | (refine Ok_guard_t1 ?_ ?_; (· simp only [hb, Bool.not_true, Bool.not_false]))
      | (refine Ok_guard_t0 ?_ ?_; (· simp only [hb, Bool.not_true, Bool.not_false]))
      | (refine Ok_guard_f0 ?_ ?_; (· simp only [hb, Bool.not_true, Bool.not_false]))
      | (refine Ok_guard_f1 ?_ ?_; (· simp only [hb, Bool.not_true, Bool.not_false]))
      | (refine Ok_cond_t ?_ ?_; (· simp only [hb, Bool.not_true, Bool.not_false]))
      | (refine Ok_cond_f ?_ ?_; (· simp only [hb, Bool.not_true, Bool.not_false]))
      | (refine Ok_guard_t1 ?_ ?_; (· simp only [g1, Bool.not_true, Bool.not_false]))
      | (refine Ok_guard_t0 ?_ ?_; (· simp only [g1, Bool.not_true, Bool.not_false]))
      | (refine Ok_guard_f0 ?_ ?_; (· simp only [g1, Bool.not_true, Bool.not_false]))
      | (refine Ok_guard_f1 ?_ ?_; (· simp only [g1, Bool.not_true, Bool.not_false]))
      | (refine Ok_cond_t ?_ ?_; (· simp only [g1, Bool.not_true, Bool.not_false]))
      | (refine Ok_cond_f ?_ ?_; (· simp only [g1, Bool.not_true, Bool.not_false]))
      | (refine Ok_guard_t1 ?_ ?_; (· simp only [g2, Bool.not_true, Bool.not_false]))
      | (refine Ok_guard_t0 ?_ ?_; (· simp only [g2, Bool.not_true, Bool.not_false]))
      | (refine Ok_guard_f0 ?_ ?_; (· simp only [g2, Bool.not_true, Bool.not_false]))
      | (refine Ok_guard_f1 ?_ ?_; (· simp only [g2, Bool.not_true, Bool.not_false]))
      | (refine Ok_cond_t ?_ ?_; (· simp only [g2, Bool.not_true, Bool.not_false]))
      | (refine Ok_cond_f ?_ ?_; (· simp only [g2, Bool.not_true, Bool.not_false]))
      | refine Ok_call (grammar_Check n hwf) ?_
      | refine Ok_call (grammar_Check m (hsub.2 m hmem)) ?_
      | refine Ok_call (grammar_Own n hsub.1) ?_
      | refine Ok_call (grammar_Fits _ _ _) ?_
      | refine Ok_call (L7_awake) ?_
      | refine Ok_guard_t (fun h => ?_) (fun h => ?_)
      | refine Ok_guard_f (fun h => ?_) (fun h => ?_)
      | refine Ok_cond (fun h => ?_) (fun h => ?_)
      | refine Ok_fin env rfl rfl (told_eq ?_)
      | refine Ok_fin_n env rfl (told_eq ?_)
    all_goals rfl
theorem level_bin (op : ByteArray) (a b : Node) : level (binaryN op a b) = opLevel op := rfl
theorem opLevel_rng (t : ByteArray) : 0 ≤ opLevel t ∧ opLevel t ≤ 5 := by unfold opLevel; (repeat' split) <;> omega
theorem spelled_bin (op : ByteArray) (a b : Node) : spelledOk (binaryN op a b) = decide (0 < opLevel op) := by
  have h := spelled_eq (binaryN op a b) rfl
  rw [h]; rfl
theorem number_ok (s : ByteArray) (h : Go.Proofs.YtihlipmnhgnpoaaDoorW.Plain.integerB s.data.toList = true) : firstErr (numberN s) = 0 := by
  have e : nodeErr (numberN s) = 0 := by
    have h1 : shapeOk (numberN s) = true := rfl
    have h2 : calledOk (numberN s) = true := h
    have h3 : gapsOk (numberN s) = true := rfl
    simp [nodeErr, h1, h2, h3]
  rw [firstErr_eq, e]; rfl
theorem levels_bin (op : ByteArray) (a b : Node) : levelsOk (binaryN op a b) = (!(decide (level a < opLevel op) || (decide (level a = opLevel op) && decide (opLevel op = 3))) && decide (opLevel op < level b)) := rfl
theorem known_of_group {k : Int} (h : group k = 3) : known k = true := by
  rw [group3] at h
  simp only [known, Bool.and_eq_true, decide_eq_true_eq]; omega
theorem bin_err (op : ByteArray) (a b : Node) (ha : group a.kind = 3) (hb : group b.kind = 3) :
    nodeErr (binaryN op a b) = if (decide (0 < opLevel op) && (!(decide (level a < opLevel op) || (decide (level a = opLevel op) && decide (opLevel op = 3))) && decide (opLevel op < level b))) = true then 0 else 7 := by
  have hk : kidsOk (binaryN op a b) = true := by
    have ka := known_of_group ha
    have kb := known_of_group hb
    rw [kids_eq _ rfl]
    show (!decide ((2 : Int) < 2) && (fits 24 0 a.kind && (fits 24 1 b.kind && true))) = true
    have e1 : fits 24 0 a.kind = true := by
      rw [← rfits_eq]; unfold rfits; simp [ha]
    have e2 : fits 24 1 b.kind = true := by
      rw [← rfits_eq]; unfold rfits; simp [hb]
    rw [e1, e2]; rfl
  have hs : shapeOk (binaryN op a b) = (decide (0 < opLevel op) && (!(decide (level a < opLevel op) || (decide (level a = opLevel op) && decide (opLevel op = 3))) && decide (opLevel op < level b))) := by
    unfold shapeOk
    rw [hk, spelled_bin, levels_bin]; rfl
  have hc : calledOk (binaryN op a b) = true := rfl
  have hg : gapsOk (binaryN op a b) = true := rfl
  unfold nodeErr
  rw [hs, hc, hg]
  cases (decide (0 < opLevel op) && (!(decide (level a < opLevel op) || (decide (level a = opLevel op) && decide (opLevel op = 3))) && decide (opLevel op < level b))) <;> simp
theorem firstErr_bin (op : ByteArray) (a b : Node) : firstErr (binaryN op a b) = if nodeErr (binaryN op a b) = 0 then (if firstErr a = 0 then firstErr b else firstErr a) else nodeErr (binaryN op a b) := by
  rw [firstErr_eq]
  show (if nodeErr (binaryN op a b) = 0 then firstErrL [a, b] else _) = _
  have : firstErrL [a, b] = if firstErr a = 0 then firstErr b else firstErr a := by
    rw [firstErrL, firstErrL, firstErrL]
    split
    · split <;> simp_all
    · rfl
  rw [this]
theorem check_small {n : Node} {k : Nat} (h : size? n 60 = some k) (h2 : k ≤ 4000) : checkErr n = firstErr n := by
  unfold checkErr
  rw [h]
  simp only [if_pos h2]
theorem num1 : firstErr (numberN ⟨#[49]⟩) = 0 := number_ok _ (by decide)
theorem num2 : firstErr (numberN ⟨#[50]⟩) = 0 := number_ok _ (by decide)
theorem num3 : firstErr (numberN ⟨#[51]⟩) = 0 := number_ok _ (by decide)
theorem num4 : firstErr (numberN ⟨#[52]⟩) = 0 := number_ok _ (by decide)
def twoOk (op : ByteArray) : Bool := decide (0 < opLevel op)
theorem flat_check (op x y : ByteArray) (hx : firstErr (numberN x) = 0) (hy : firstErr (numberN y) = 0) : checkErr (binaryN op (numberN x) (numberN y)) = if 0 < opLevel op then 0 else 7 := by
  have hr := opLevel_rng op
  rw [check_small (k := 3) rfl (by decide), firstErr_bin, bin_err op _ _ rfl rfl, hx, hy]
  have l1 : level (numberN x) = 7 := rfl
  have l2 : level (numberN y) = 7 := rfl
  rw [l1, l2]
  have a1 : ¬ (7 : Int) < opLevel op := by omega
  have a2 : ¬ (7 : Int) = opLevel op := by omega
  have a3 : opLevel op < 7 := by omega
  by_cases h : 0 < opLevel op <;> simp [h, a1, a2, a3]
theorem right_check (f s : ByteArray) (hf : 0 < opLevel f) (hs : 0 < opLevel s) : decide (checkErr (binaryN f (numberN ⟨#[49]⟩) (binaryN s (numberN ⟨#[51]⟩) (numberN ⟨#[52]⟩))) = 0) = decide (opLevel f < opLevel s) := by
  have hr := opLevel_rng f
  have hr2 := opLevel_rng s
  rw [check_small (k := 5) rfl (by decide), firstErr_bin, bin_err f _ _ rfl rfl, num1]
  have e : firstErr (binaryN s (numberN ⟨#[51]⟩) (numberN ⟨#[52]⟩)) = 0 := by
    have h := flat_check s _ _ num3 num4
    rw [if_pos hs, check_small (k := 3) rfl (by decide)] at h
    exact h
  rw [e, level_bin]
  have l1 : level (numberN ⟨#[49]⟩) = 7 := rfl
  rw [l1]
  have a1 : ¬ (7 : Int) < opLevel f := by omega
  have a2 : ¬ (7 : Int) = opLevel f := by omega
  by_cases h : opLevel f < opLevel s <;> simp [h, hf, a1, a2]
theorem left_check (f s : ByteArray) (hf : 0 < opLevel f) (hs : 0 < opLevel s) : decide (checkErr (binaryN f (binaryN s (numberN ⟨#[51]⟩) (numberN ⟨#[52]⟩)) (numberN ⟨#[49]⟩)) = 0) = (decide (opLevel f < opLevel s) || (decide (opLevel s = opLevel f) && !decide (opLevel f = 3))) := by
  have hr := opLevel_rng f
  have hr2 := opLevel_rng s
  rw [check_small (k := 5) rfl (by decide), firstErr_bin, bin_err f _ _ rfl rfl, num1]
  have e : firstErr (binaryN s (numberN ⟨#[51]⟩) (numberN ⟨#[52]⟩)) = 0 := by
    have h := flat_check s _ _ num3 num4
    rw [if_pos hs, check_small (k := 3) rfl (by decide)] at h
    exact h
  rw [e, level_bin]
  have l1 : level (numberN ⟨#[49]⟩) = 7 := rfl
  rw [l1]
  have a3 : opLevel f < 7 := by omega
  by_cases h : opLevel f < opLevel s
  · simp [h, hf, a3, show ¬ opLevel s < opLevel f by omega, show ¬ opLevel s = opLevel f by omega]
  · by_cases h2 : opLevel s = opLevel f
    · simp [h2, hf, a3]
    · simp [h, h2, hf, a3, show opLevel s < opLevel f by omega]
set_option maxHeartbeats 4000000 in
/-- GrammarOperators -/
theorem L7_GrammarOperators (a : ByteArray) (ha0 : a.size ≤ 140737488351232) (b : ByteArray) (hb0 : b.size ≤ 140737488351232) : Fn Tryd.prog G 9 [.str a, .str b] (.bool true) := by
  have ha : a.size ≤ 9223372036854775807 := by omega
  have hb : b.size ≤ 9223372036854775807 := by omega
  have wa : Wf (binaryN a (numberN ⟨#[49]⟩) (numberN ⟨#[50]⟩)) := wf_binary ha (wf_number (by decide)) (wf_number (by decide))
  have wb : Wf (binaryN b (numberN ⟨#[51]⟩) (numberN ⟨#[52]⟩)) := wf_binary hb (wf_number (by decide)) (wf_number (by decide))
  have fa := flat_check a _ _ num1 num2
  have fb := flat_check b _ _ num3 num4
  have ra := opLevel_rng a
  have rb := opLevel_rng b
  by_cases la : 0 < opLevel a <;> by_cases lb : 0 < opLevel b
  case pos =>
    have e1 : decide (level (binaryN a (numberN ⟨#[49]⟩) (numberN ⟨#[50]⟩)) = 0) = false := decide_eq_false (by rw [level_bin]; omega)
    have e2 : decide (level (binaryN b (numberN ⟨#[51]⟩) (numberN ⟨#[52]⟩)) = 0) = false := decide_eq_false (by rw [level_bin]; omega)
    have e3 := right_check a b la lb
    have e4 := left_check a b la lb
    have r1 : (decide (checkErr (binaryN a (numberN ⟨#[49]⟩) (binaryN b (numberN ⟨#[51]⟩) (numberN ⟨#[52]⟩))) = 0) == decide (level (binaryN a (numberN ⟨#[49]⟩) (numberN ⟨#[50]⟩)) < level (binaryN b (numberN ⟨#[51]⟩) (numberN ⟨#[52]⟩)))) = true := by rw [e3]; exact beq_self_eq_true _
    by_cases g1 : opLevel a < opLevel b
    case pos =>
      have d1 : decide (level (binaryN a (numberN ⟨#[49]⟩) (numberN ⟨#[50]⟩)) < level (binaryN b (numberN ⟨#[51]⟩) (numberN ⟨#[52]⟩))) = true := decide_eq_true g1
      have d4 : decide (checkErr (binaryN a (binaryN b (numberN ⟨#[51]⟩) (numberN ⟨#[52]⟩)) (numberN ⟨#[49]⟩)) = 0) = true := by rw [e4, decide_eq_true g1]; rfl
      refine Fn_run (T := tt) (N := 84) (rs := [.tmp 4]) (fun vs w => by simp) Tryd.func9 rfl rfl rfl rfl (by kernel_rfl) (all_pure rfl) (closed2_pure _ rfl) ?_
      repeat' first
        | refine Ok_run env rfl ?_
        | (refine Ok_guard_t1 ?_ ?_; (· simp only [e1, Bool.not_true, Bool.not_false]))
        | (refine Ok_guard_t0 ?_ ?_; (· simp only [e1, Bool.not_true, Bool.not_false]))
        | (refine Ok_guard_f0 ?_ ?_; (· simp only [e1, Bool.not_true, Bool.not_false]))
        | (refine Ok_guard_f1 ?_ ?_; (· simp only [e1, Bool.not_true, Bool.not_false]))
        | (refine Ok_cond_t ?_ ?_; (· simp only [e1, Bool.not_true, Bool.not_false]))
        | (refine Ok_cond_f ?_ ?_; (· simp only [e1, Bool.not_true, Bool.not_false]))
        | (refine Ok_guard_t1 ?_ ?_; (· simp only [e2, Bool.not_true, Bool.not_false]))
        | (refine Ok_guard_t0 ?_ ?_; (· simp only [e2, Bool.not_true, Bool.not_false]))
        | (refine Ok_guard_f0 ?_ ?_; (· simp only [e2, Bool.not_true, Bool.not_false]))
        | (refine Ok_guard_f1 ?_ ?_; (· simp only [e2, Bool.not_true, Bool.not_false]))
        | (refine Ok_cond_t ?_ ?_; (· simp only [e2, Bool.not_true, Bool.not_false]))
        | (refine Ok_cond_f ?_ ?_; (· simp only [e2, Bool.not_true, Bool.not_false]))
        | (refine Ok_guard_t1 ?_ ?_; (· simp only [r1, Bool.not_true, Bool.not_false]))
        | (refine Ok_guard_t0 ?_ ?_; (· simp only [r1, Bool.not_true, Bool.not_false]))
        | (refine Ok_guard_f0 ?_ ?_; (· simp only [r1, Bool.not_true, Bool.not_false]))
        | (refine Ok_guard_f1 ?_ ?_; (· simp only [r1, Bool.not_true, Bool.not_false]))
        | (refine Ok_cond_t ?_ ?_; (· simp only [r1, Bool.not_true, Bool.not_false]))
        | (refine Ok_cond_f ?_ ?_; (· simp only [r1, Bool.not_true, Bool.not_false]))
        | (refine Ok_guard_t1 ?_ ?_; (· simp only [d1, Bool.not_true, Bool.not_false]))
        | (refine Ok_guard_t0 ?_ ?_; (· simp only [d1, Bool.not_true, Bool.not_false]))
        | (refine Ok_guard_f0 ?_ ?_; (· simp only [d1, Bool.not_true, Bool.not_false]))
        | (refine Ok_guard_f1 ?_ ?_; (· simp only [d1, Bool.not_true, Bool.not_false]))
        | (refine Ok_cond_t ?_ ?_; (· simp only [d1, Bool.not_true, Bool.not_false]))
        | (refine Ok_cond_f ?_ ?_; (· simp only [d1, Bool.not_true, Bool.not_false]))
        | (refine Ok_guard_t1 ?_ ?_; (· simp only [d4, decide_true, decide_false, beq_self_eq_true, Bool.not_true, Bool.not_false, Bool.beq_true, Bool.beq_false, Bool.not_true, Bool.not_false]))
        | (refine Ok_guard_t0 ?_ ?_; (· simp only [d4, decide_true, decide_false, beq_self_eq_true, Bool.not_true, Bool.not_false, Bool.beq_true, Bool.beq_false, Bool.not_true, Bool.not_false]))
        | (refine Ok_guard_f0 ?_ ?_; (· simp only [d4, decide_true, decide_false, beq_self_eq_true, Bool.not_true, Bool.not_false, Bool.beq_true, Bool.beq_false, Bool.not_true, Bool.not_false]))
        | (refine Ok_guard_f1 ?_ ?_; (· simp only [d4, decide_true, decide_false, beq_self_eq_true, Bool.not_true, Bool.not_false, Bool.beq_true, Bool.beq_false, Bool.not_true, Bool.not_false]))
        | (refine Ok_cond_t ?_ ?_; (· simp only [d4, decide_true, decide_false, beq_self_eq_true, Bool.not_true, Bool.not_false, Bool.beq_true, Bool.beq_false, Bool.not_true, Bool.not_false]))
        | (refine Ok_cond_f ?_ ?_; (· simp only [d4, decide_true, decide_false, beq_self_eq_true, Bool.not_true, Bool.not_false, Bool.beq_true, Bool.beq_false, Bool.not_true, Bool.not_false]))
        | refine Ok_call (L7_number ⟨#[49]⟩) ?_
        | refine Ok_call (L7_number ⟨#[50]⟩) ?_
        | refine Ok_call (L7_number ⟨#[51]⟩) ?_
        | refine Ok_call (L7_number ⟨#[52]⟩) ?_
        | refine Ok_call (L7_binary a (numberN ⟨#[49]⟩) (numberN ⟨#[50]⟩)) ?_
        | refine Ok_call (L7_binary b (numberN ⟨#[51]⟩) (numberN ⟨#[52]⟩)) ?_
        | refine Ok_call (L7_binary a (numberN ⟨#[49]⟩) (binaryN b (numberN ⟨#[51]⟩) (numberN ⟨#[52]⟩))) ?_
        | refine Ok_call (L7_binary a (binaryN b (numberN ⟨#[51]⟩) (numberN ⟨#[52]⟩)) (numberN ⟨#[49]⟩)) ?_
        | refine Ok_call (grammar_Level (binaryN a (numberN ⟨#[49]⟩) (numberN ⟨#[50]⟩))) ?_
        | refine Ok_call (grammar_Level (binaryN b (numberN ⟨#[51]⟩) (numberN ⟨#[52]⟩))) ?_
        | refine Ok_call (grammar_Check (binaryN a (numberN ⟨#[49]⟩) (numberN ⟨#[50]⟩)) wa) ?_
        | refine Ok_call (grammar_Check (binaryN b (numberN ⟨#[51]⟩) (numberN ⟨#[52]⟩)) wb) ?_
        | refine Ok_call (grammar_Check (binaryN a (numberN ⟨#[49]⟩) (binaryN b (numberN ⟨#[51]⟩) (numberN ⟨#[52]⟩))) (wf_binary ha (wf_number (by decide)) wb)) ?_
        | refine Ok_call (grammar_Check (binaryN a (binaryN b (numberN ⟨#[51]⟩) (numberN ⟨#[52]⟩)) (numberN ⟨#[49]⟩)) (wf_binary ha wb (wf_number (by decide)))) ?_
        | refine Ok_call (L7_awake) ?_
        | refine Ok_guard_t (fun h => ?_) (fun h => ?_)
        | refine Ok_guard_f (fun h => ?_) (fun h => ?_)
        | refine Ok_cond (fun h => ?_) (fun h => ?_)
        | refine Ok_fin env rfl rfl (told_eq ?_)
        | refine Ok_fin_n env rfl (told_eq ?_)
      all_goals (first | rfl | (refine bool_eq ?_; simp_all))
    have d1 : decide (level (binaryN a (numberN ⟨#[49]⟩) (numberN ⟨#[50]⟩)) < level (binaryN b (numberN ⟨#[51]⟩) (numberN ⟨#[52]⟩))) = false := decide_eq_false g1
    by_cases g2 : opLevel b = opLevel a
    case neg =>
      have d2 : decide (level (binaryN b (numberN ⟨#[51]⟩) (numberN ⟨#[52]⟩)) = level (binaryN a (numberN ⟨#[49]⟩) (numberN ⟨#[50]⟩))) = false := decide_eq_false g2
      have d4 : decide (checkErr (binaryN a (binaryN b (numberN ⟨#[51]⟩) (numberN ⟨#[52]⟩)) (numberN ⟨#[49]⟩)) = 0) = false := by rw [e4, decide_eq_false g1, decide_eq_false g2]; rfl
      refine Fn_run (T := tt) (N := 84) (rs := [.tmp 4]) (fun vs w => by simp) Tryd.func9 rfl rfl rfl rfl (by kernel_rfl) (all_pure rfl) (closed2_pure _ rfl) ?_
      repeat' first
        | refine Ok_run env rfl ?_
        | (refine Ok_guard_t1 ?_ ?_; (· simp only [e1, Bool.not_true, Bool.not_false]))
        | (refine Ok_guard_t0 ?_ ?_; (· simp only [e1, Bool.not_true, Bool.not_false]))
        | (refine Ok_guard_f0 ?_ ?_; (· simp only [e1, Bool.not_true, Bool.not_false]))
        | (refine Ok_guard_f1 ?_ ?_; (· simp only [e1, Bool.not_true, Bool.not_false]))
        | (refine Ok_cond_t ?_ ?_; (· simp only [e1, Bool.not_true, Bool.not_false]))
        | (refine Ok_cond_f ?_ ?_; (· simp only [e1, Bool.not_true, Bool.not_false]))
        | (refine Ok_guard_t1 ?_ ?_; (· simp only [e2, Bool.not_true, Bool.not_false]))
        | (refine Ok_guard_t0 ?_ ?_; (· simp only [e2, Bool.not_true, Bool.not_false]))
        | (refine Ok_guard_f0 ?_ ?_; (· simp only [e2, Bool.not_true, Bool.not_false]))
        | (refine Ok_guard_f1 ?_ ?_; (· simp only [e2, Bool.not_true, Bool.not_false]))
        | (refine Ok_cond_t ?_ ?_; (· simp only [e2, Bool.not_true, Bool.not_false]))
        | (refine Ok_cond_f ?_ ?_; (· simp only [e2, Bool.not_true, Bool.not_false]))
        | (refine Ok_guard_t1 ?_ ?_; (· simp only [r1, Bool.not_true, Bool.not_false]))
        | (refine Ok_guard_t0 ?_ ?_; (· simp only [r1, Bool.not_true, Bool.not_false]))
        | (refine Ok_guard_f0 ?_ ?_; (· simp only [r1, Bool.not_true, Bool.not_false]))
        | (refine Ok_guard_f1 ?_ ?_; (· simp only [r1, Bool.not_true, Bool.not_false]))
        | (refine Ok_cond_t ?_ ?_; (· simp only [r1, Bool.not_true, Bool.not_false]))
        | (refine Ok_cond_f ?_ ?_; (· simp only [r1, Bool.not_true, Bool.not_false]))
        | (refine Ok_guard_t1 ?_ ?_; (· simp only [d1, Bool.not_true, Bool.not_false]))
        | (refine Ok_guard_t0 ?_ ?_; (· simp only [d1, Bool.not_true, Bool.not_false]))
        | (refine Ok_guard_f0 ?_ ?_; (· simp only [d1, Bool.not_true, Bool.not_false]))
        | (refine Ok_guard_f1 ?_ ?_; (· simp only [d1, Bool.not_true, Bool.not_false]))
        | (refine Ok_cond_t ?_ ?_; (· simp only [d1, Bool.not_true, Bool.not_false]))
        | (refine Ok_cond_f ?_ ?_; (· simp only [d1, Bool.not_true, Bool.not_false]))
        | (refine Ok_guard_t1 ?_ ?_; (· simp only [d2, Bool.not_true, Bool.not_false]))
        | (refine Ok_guard_t0 ?_ ?_; (· simp only [d2, Bool.not_true, Bool.not_false]))
        | (refine Ok_guard_f0 ?_ ?_; (· simp only [d2, Bool.not_true, Bool.not_false]))
        | (refine Ok_guard_f1 ?_ ?_; (· simp only [d2, Bool.not_true, Bool.not_false]))
        | (refine Ok_cond_t ?_ ?_; (· simp only [d2, Bool.not_true, Bool.not_false]))
        | (refine Ok_cond_f ?_ ?_; (· simp only [d2, Bool.not_true, Bool.not_false]))
        | (refine Ok_guard_t1 ?_ ?_; (· simp only [d4, decide_true, decide_false, beq_self_eq_true, Bool.not_true, Bool.not_false, Bool.beq_true, Bool.beq_false, Bool.not_true, Bool.not_false]))
        | (refine Ok_guard_t0 ?_ ?_; (· simp only [d4, decide_true, decide_false, beq_self_eq_true, Bool.not_true, Bool.not_false, Bool.beq_true, Bool.beq_false, Bool.not_true, Bool.not_false]))
        | (refine Ok_guard_f0 ?_ ?_; (· simp only [d4, decide_true, decide_false, beq_self_eq_true, Bool.not_true, Bool.not_false, Bool.beq_true, Bool.beq_false, Bool.not_true, Bool.not_false]))
        | (refine Ok_guard_f1 ?_ ?_; (· simp only [d4, decide_true, decide_false, beq_self_eq_true, Bool.not_true, Bool.not_false, Bool.beq_true, Bool.beq_false, Bool.not_true, Bool.not_false]))
        | (refine Ok_cond_t ?_ ?_; (· simp only [d4, decide_true, decide_false, beq_self_eq_true, Bool.not_true, Bool.not_false, Bool.beq_true, Bool.beq_false, Bool.not_true, Bool.not_false]))
        | (refine Ok_cond_f ?_ ?_; (· simp only [d4, decide_true, decide_false, beq_self_eq_true, Bool.not_true, Bool.not_false, Bool.beq_true, Bool.beq_false, Bool.not_true, Bool.not_false]))
        | refine Ok_call (L7_number ⟨#[49]⟩) ?_
        | refine Ok_call (L7_number ⟨#[50]⟩) ?_
        | refine Ok_call (L7_number ⟨#[51]⟩) ?_
        | refine Ok_call (L7_number ⟨#[52]⟩) ?_
        | refine Ok_call (L7_binary a (numberN ⟨#[49]⟩) (numberN ⟨#[50]⟩)) ?_
        | refine Ok_call (L7_binary b (numberN ⟨#[51]⟩) (numberN ⟨#[52]⟩)) ?_
        | refine Ok_call (L7_binary a (numberN ⟨#[49]⟩) (binaryN b (numberN ⟨#[51]⟩) (numberN ⟨#[52]⟩))) ?_
        | refine Ok_call (L7_binary a (binaryN b (numberN ⟨#[51]⟩) (numberN ⟨#[52]⟩)) (numberN ⟨#[49]⟩)) ?_
        | refine Ok_call (grammar_Level (binaryN a (numberN ⟨#[49]⟩) (numberN ⟨#[50]⟩))) ?_
        | refine Ok_call (grammar_Level (binaryN b (numberN ⟨#[51]⟩) (numberN ⟨#[52]⟩))) ?_
        | refine Ok_call (grammar_Check (binaryN a (numberN ⟨#[49]⟩) (numberN ⟨#[50]⟩)) wa) ?_
        | refine Ok_call (grammar_Check (binaryN b (numberN ⟨#[51]⟩) (numberN ⟨#[52]⟩)) wb) ?_
        | refine Ok_call (grammar_Check (binaryN a (numberN ⟨#[49]⟩) (binaryN b (numberN ⟨#[51]⟩) (numberN ⟨#[52]⟩))) (wf_binary ha (wf_number (by decide)) wb)) ?_
        | refine Ok_call (grammar_Check (binaryN a (binaryN b (numberN ⟨#[51]⟩) (numberN ⟨#[52]⟩)) (numberN ⟨#[49]⟩)) (wf_binary ha wb (wf_number (by decide)))) ?_
        | refine Ok_call (L7_awake) ?_
        | refine Ok_guard_t (fun h => ?_) (fun h => ?_)
        | refine Ok_guard_f (fun h => ?_) (fun h => ?_)
        | refine Ok_cond (fun h => ?_) (fun h => ?_)
        | refine Ok_fin env rfl rfl (told_eq ?_)
        | refine Ok_fin_n env rfl (told_eq ?_)
      all_goals (first | rfl | (refine bool_eq ?_; simp_all))
    have d2 : decide (level (binaryN b (numberN ⟨#[51]⟩) (numberN ⟨#[52]⟩)) = level (binaryN a (numberN ⟨#[49]⟩) (numberN ⟨#[50]⟩))) = true := decide_eq_true g2
    by_cases g3 : opLevel a = 3
    case pos =>
      have d3 : decide (level (binaryN a (numberN ⟨#[49]⟩) (numberN ⟨#[50]⟩)) = 3) = true := decide_eq_true g3
      have d4 : decide (checkErr (binaryN a (binaryN b (numberN ⟨#[51]⟩) (numberN ⟨#[52]⟩)) (numberN ⟨#[49]⟩)) = 0) = false := by rw [e4, decide_eq_false g1, decide_eq_true g2, decide_eq_true g3]; rfl
      refine Fn_run (T := tt) (N := 84) (rs := [.tmp 4]) (fun vs w => by simp) Tryd.func9 rfl rfl rfl rfl (by kernel_rfl) (all_pure rfl) (closed2_pure _ rfl) ?_
      repeat' first
        | refine Ok_run env rfl ?_
        | (refine Ok_guard_t1 ?_ ?_; (· simp only [e1, Bool.not_true, Bool.not_false]))
        | (refine Ok_guard_t0 ?_ ?_; (· simp only [e1, Bool.not_true, Bool.not_false]))
        | (refine Ok_guard_f0 ?_ ?_; (· simp only [e1, Bool.not_true, Bool.not_false]))
        | (refine Ok_guard_f1 ?_ ?_; (· simp only [e1, Bool.not_true, Bool.not_false]))
        | (refine Ok_cond_t ?_ ?_; (· simp only [e1, Bool.not_true, Bool.not_false]))
        | (refine Ok_cond_f ?_ ?_; (· simp only [e1, Bool.not_true, Bool.not_false]))
        | (refine Ok_guard_t1 ?_ ?_; (· simp only [e2, Bool.not_true, Bool.not_false]))
        | (refine Ok_guard_t0 ?_ ?_; (· simp only [e2, Bool.not_true, Bool.not_false]))
        | (refine Ok_guard_f0 ?_ ?_; (· simp only [e2, Bool.not_true, Bool.not_false]))
        | (refine Ok_guard_f1 ?_ ?_; (· simp only [e2, Bool.not_true, Bool.not_false]))
        | (refine Ok_cond_t ?_ ?_; (· simp only [e2, Bool.not_true, Bool.not_false]))
        | (refine Ok_cond_f ?_ ?_; (· simp only [e2, Bool.not_true, Bool.not_false]))
        | (refine Ok_guard_t1 ?_ ?_; (· simp only [r1, Bool.not_true, Bool.not_false]))
        | (refine Ok_guard_t0 ?_ ?_; (· simp only [r1, Bool.not_true, Bool.not_false]))
        | (refine Ok_guard_f0 ?_ ?_; (· simp only [r1, Bool.not_true, Bool.not_false]))
        | (refine Ok_guard_f1 ?_ ?_; (· simp only [r1, Bool.not_true, Bool.not_false]))
        | (refine Ok_cond_t ?_ ?_; (· simp only [r1, Bool.not_true, Bool.not_false]))
        | (refine Ok_cond_f ?_ ?_; (· simp only [r1, Bool.not_true, Bool.not_false]))
        | (refine Ok_guard_t1 ?_ ?_; (· simp only [d1, Bool.not_true, Bool.not_false]))
        | (refine Ok_guard_t0 ?_ ?_; (· simp only [d1, Bool.not_true, Bool.not_false]))
        | (refine Ok_guard_f0 ?_ ?_; (· simp only [d1, Bool.not_true, Bool.not_false]))
        | (refine Ok_guard_f1 ?_ ?_; (· simp only [d1, Bool.not_true, Bool.not_false]))
        | (refine Ok_cond_t ?_ ?_; (· simp only [d1, Bool.not_true, Bool.not_false]))
        | (refine Ok_cond_f ?_ ?_; (· simp only [d1, Bool.not_true, Bool.not_false]))
        | (refine Ok_guard_t1 ?_ ?_; (· simp only [d2, Bool.not_true, Bool.not_false]))
        | (refine Ok_guard_t0 ?_ ?_; (· simp only [d2, Bool.not_true, Bool.not_false]))
        | (refine Ok_guard_f0 ?_ ?_; (· simp only [d2, Bool.not_true, Bool.not_false]))
        | (refine Ok_guard_f1 ?_ ?_; (· simp only [d2, Bool.not_true, Bool.not_false]))
        | (refine Ok_cond_t ?_ ?_; (· simp only [d2, Bool.not_true, Bool.not_false]))
        | (refine Ok_cond_f ?_ ?_; (· simp only [d2, Bool.not_true, Bool.not_false]))
        | (refine Ok_guard_t1 ?_ ?_; (· simp only [d3, Bool.not_true, Bool.not_false]))
        | (refine Ok_guard_t0 ?_ ?_; (· simp only [d3, Bool.not_true, Bool.not_false]))
        | (refine Ok_guard_f0 ?_ ?_; (· simp only [d3, Bool.not_true, Bool.not_false]))
        | (refine Ok_guard_f1 ?_ ?_; (· simp only [d3, Bool.not_true, Bool.not_false]))
        | (refine Ok_cond_t ?_ ?_; (· simp only [d3, Bool.not_true, Bool.not_false]))
        | (refine Ok_cond_f ?_ ?_; (· simp only [d3, Bool.not_true, Bool.not_false]))
        | (refine Ok_guard_t1 ?_ ?_; (· simp only [d4, decide_true, decide_false, beq_self_eq_true, Bool.not_true, Bool.not_false, Bool.beq_true, Bool.beq_false, Bool.not_true, Bool.not_false]))
        | (refine Ok_guard_t0 ?_ ?_; (· simp only [d4, decide_true, decide_false, beq_self_eq_true, Bool.not_true, Bool.not_false, Bool.beq_true, Bool.beq_false, Bool.not_true, Bool.not_false]))
        | (refine Ok_guard_f0 ?_ ?_; (· simp only [d4, decide_true, decide_false, beq_self_eq_true, Bool.not_true, Bool.not_false, Bool.beq_true, Bool.beq_false, Bool.not_true, Bool.not_false]))
        | (refine Ok_guard_f1 ?_ ?_; (· simp only [d4, decide_true, decide_false, beq_self_eq_true, Bool.not_true, Bool.not_false, Bool.beq_true, Bool.beq_false, Bool.not_true, Bool.not_false]))
        | (refine Ok_cond_t ?_ ?_; (· simp only [d4, decide_true, decide_false, beq_self_eq_true, Bool.not_true, Bool.not_false, Bool.beq_true, Bool.beq_false, Bool.not_true, Bool.not_false]))
        | (refine Ok_cond_f ?_ ?_; (· simp only [d4, decide_true, decide_false, beq_self_eq_true, Bool.not_true, Bool.not_false, Bool.beq_true, Bool.beq_false, Bool.not_true, Bool.not_false]))
        | (refine Ok_guard_t1 ?_ ?_; (· simp only [d3, d4, decide_true, decide_false, beq_self_eq_true, Bool.not_true, Bool.not_false, Bool.beq_true, Bool.beq_false, Bool.not_true, Bool.not_false]))
        | (refine Ok_guard_t0 ?_ ?_; (· simp only [d3, d4, decide_true, decide_false, beq_self_eq_true, Bool.not_true, Bool.not_false, Bool.beq_true, Bool.beq_false, Bool.not_true, Bool.not_false]))
        | (refine Ok_guard_f0 ?_ ?_; (· simp only [d3, d4, decide_true, decide_false, beq_self_eq_true, Bool.not_true, Bool.not_false, Bool.beq_true, Bool.beq_false, Bool.not_true, Bool.not_false]))
        | (refine Ok_guard_f1 ?_ ?_; (· simp only [d3, d4, decide_true, decide_false, beq_self_eq_true, Bool.not_true, Bool.not_false, Bool.beq_true, Bool.beq_false, Bool.not_true, Bool.not_false]))
        | (refine Ok_cond_t ?_ ?_; (· simp only [d3, d4, decide_true, decide_false, beq_self_eq_true, Bool.not_true, Bool.not_false, Bool.beq_true, Bool.beq_false, Bool.not_true, Bool.not_false]))
        | (refine Ok_cond_f ?_ ?_; (· simp only [d3, d4, decide_true, decide_false, beq_self_eq_true, Bool.not_true, Bool.not_false, Bool.beq_true, Bool.beq_false, Bool.not_true, Bool.not_false]))
        | refine Ok_call (L7_number ⟨#[49]⟩) ?_
        | refine Ok_call (L7_number ⟨#[50]⟩) ?_
        | refine Ok_call (L7_number ⟨#[51]⟩) ?_
        | refine Ok_call (L7_number ⟨#[52]⟩) ?_
        | refine Ok_call (L7_binary a (numberN ⟨#[49]⟩) (numberN ⟨#[50]⟩)) ?_
        | refine Ok_call (L7_binary b (numberN ⟨#[51]⟩) (numberN ⟨#[52]⟩)) ?_
        | refine Ok_call (L7_binary a (numberN ⟨#[49]⟩) (binaryN b (numberN ⟨#[51]⟩) (numberN ⟨#[52]⟩))) ?_
        | refine Ok_call (L7_binary a (binaryN b (numberN ⟨#[51]⟩) (numberN ⟨#[52]⟩)) (numberN ⟨#[49]⟩)) ?_
        | refine Ok_call (grammar_Level (binaryN a (numberN ⟨#[49]⟩) (numberN ⟨#[50]⟩))) ?_
        | refine Ok_call (grammar_Level (binaryN b (numberN ⟨#[51]⟩) (numberN ⟨#[52]⟩))) ?_
        | refine Ok_call (grammar_Check (binaryN a (numberN ⟨#[49]⟩) (numberN ⟨#[50]⟩)) wa) ?_
        | refine Ok_call (grammar_Check (binaryN b (numberN ⟨#[51]⟩) (numberN ⟨#[52]⟩)) wb) ?_
        | refine Ok_call (grammar_Check (binaryN a (numberN ⟨#[49]⟩) (binaryN b (numberN ⟨#[51]⟩) (numberN ⟨#[52]⟩))) (wf_binary ha (wf_number (by decide)) wb)) ?_
        | refine Ok_call (grammar_Check (binaryN a (binaryN b (numberN ⟨#[51]⟩) (numberN ⟨#[52]⟩)) (numberN ⟨#[49]⟩)) (wf_binary ha wb (wf_number (by decide)))) ?_
        | refine Ok_call (L7_awake) ?_
        | refine Ok_guard_t (fun h => ?_) (fun h => ?_)
        | refine Ok_guard_f (fun h => ?_) (fun h => ?_)
        | refine Ok_cond (fun h => ?_) (fun h => ?_)
        | refine Ok_fin env rfl rfl (told_eq ?_)
        | refine Ok_fin_n env rfl (told_eq ?_)
      all_goals (first | rfl | (refine bool_eq ?_; simp_all))
    case neg =>
      have d3 : decide (level (binaryN a (numberN ⟨#[49]⟩) (numberN ⟨#[50]⟩)) = 3) = false := decide_eq_false g3
      have d4 : decide (checkErr (binaryN a (binaryN b (numberN ⟨#[51]⟩) (numberN ⟨#[52]⟩)) (numberN ⟨#[49]⟩)) = 0) = true := by rw [e4, decide_eq_false g1, decide_eq_true g2, decide_eq_false g3]; rfl
      refine Fn_run (T := tt) (N := 84) (rs := [.tmp 4]) (fun vs w => by simp) Tryd.func9 rfl rfl rfl rfl (by kernel_rfl) (all_pure rfl) (closed2_pure _ rfl) ?_
      repeat' first
        | refine Ok_run env rfl ?_
        | (refine Ok_guard_t1 ?_ ?_; (· simp only [e1, Bool.not_true, Bool.not_false]))
        | (refine Ok_guard_t0 ?_ ?_; (· simp only [e1, Bool.not_true, Bool.not_false]))
        | (refine Ok_guard_f0 ?_ ?_; (· simp only [e1, Bool.not_true, Bool.not_false]))
        | (refine Ok_guard_f1 ?_ ?_; (· simp only [e1, Bool.not_true, Bool.not_false]))
        | (refine Ok_cond_t ?_ ?_; (· simp only [e1, Bool.not_true, Bool.not_false]))
        | (refine Ok_cond_f ?_ ?_; (· simp only [e1, Bool.not_true, Bool.not_false]))
        | (refine Ok_guard_t1 ?_ ?_; (· simp only [e2, Bool.not_true, Bool.not_false]))
        | (refine Ok_guard_t0 ?_ ?_; (· simp only [e2, Bool.not_true, Bool.not_false]))
        | (refine Ok_guard_f0 ?_ ?_; (· simp only [e2, Bool.not_true, Bool.not_false]))
        | (refine Ok_guard_f1 ?_ ?_; (· simp only [e2, Bool.not_true, Bool.not_false]))
        | (refine Ok_cond_t ?_ ?_; (· simp only [e2, Bool.not_true, Bool.not_false]))
        | (refine Ok_cond_f ?_ ?_; (· simp only [e2, Bool.not_true, Bool.not_false]))
        | (refine Ok_guard_t1 ?_ ?_; (· simp only [r1, Bool.not_true, Bool.not_false]))
        | (refine Ok_guard_t0 ?_ ?_; (· simp only [r1, Bool.not_true, Bool.not_false]))
        | (refine Ok_guard_f0 ?_ ?_; (· simp only [r1, Bool.not_true, Bool.not_false]))
        | (refine Ok_guard_f1 ?_ ?_; (· simp only [r1, Bool.not_true, Bool.not_false]))
        | (refine Ok_cond_t ?_ ?_; (· simp only [r1, Bool.not_true, Bool.not_false]))
        | (refine Ok_cond_f ?_ ?_; (· simp only [r1, Bool.not_true, Bool.not_false]))
        | (refine Ok_guard_t1 ?_ ?_; (· simp only [d1, Bool.not_true, Bool.not_false]))
        | (refine Ok_guard_t0 ?_ ?_; (· simp only [d1, Bool.not_true, Bool.not_false]))
        | (refine Ok_guard_f0 ?_ ?_; (· simp only [d1, Bool.not_true, Bool.not_false]))
        | (refine Ok_guard_f1 ?_ ?_; (· simp only [d1, Bool.not_true, Bool.not_false]))
        | (refine Ok_cond_t ?_ ?_; (· simp only [d1, Bool.not_true, Bool.not_false]))
        | (refine Ok_cond_f ?_ ?_; (· simp only [d1, Bool.not_true, Bool.not_false]))
        | (refine Ok_guard_t1 ?_ ?_; (· simp only [d2, Bool.not_true, Bool.not_false]))
        | (refine Ok_guard_t0 ?_ ?_; (· simp only [d2, Bool.not_true, Bool.not_false]))
        | (refine Ok_guard_f0 ?_ ?_; (· simp only [d2, Bool.not_true, Bool.not_false]))
        | (refine Ok_guard_f1 ?_ ?_; (· simp only [d2, Bool.not_true, Bool.not_false]))
        | (refine Ok_cond_t ?_ ?_; (· simp only [d2, Bool.not_true, Bool.not_false]))
        | (refine Ok_cond_f ?_ ?_; (· simp only [d2, Bool.not_true, Bool.not_false]))
        | (refine Ok_guard_t1 ?_ ?_; (· simp only [d3, Bool.not_true, Bool.not_false]))
        | (refine Ok_guard_t0 ?_ ?_; (· simp only [d3, Bool.not_true, Bool.not_false]))
        | (refine Ok_guard_f0 ?_ ?_; (· simp only [d3, Bool.not_true, Bool.not_false]))
        | (refine Ok_guard_f1 ?_ ?_; (· simp only [d3, Bool.not_true, Bool.not_false]))
        | (refine Ok_cond_t ?_ ?_; (· simp only [d3, Bool.not_true, Bool.not_false]))
        | (refine Ok_cond_f ?_ ?_; (· simp only [d3, Bool.not_true, Bool.not_false]))
        | (refine Ok_guard_t1 ?_ ?_; (· simp only [d4, decide_true, decide_false, beq_self_eq_true, Bool.not_true, Bool.not_false, Bool.beq_true, Bool.beq_false, Bool.not_true, Bool.not_false]))
        | (refine Ok_guard_t0 ?_ ?_; (· simp only [d4, decide_true, decide_false, beq_self_eq_true, Bool.not_true, Bool.not_false, Bool.beq_true, Bool.beq_false, Bool.not_true, Bool.not_false]))
        | (refine Ok_guard_f0 ?_ ?_; (· simp only [d4, decide_true, decide_false, beq_self_eq_true, Bool.not_true, Bool.not_false, Bool.beq_true, Bool.beq_false, Bool.not_true, Bool.not_false]))
        | (refine Ok_guard_f1 ?_ ?_; (· simp only [d4, decide_true, decide_false, beq_self_eq_true, Bool.not_true, Bool.not_false, Bool.beq_true, Bool.beq_false, Bool.not_true, Bool.not_false]))
        | (refine Ok_cond_t ?_ ?_; (· simp only [d4, decide_true, decide_false, beq_self_eq_true, Bool.not_true, Bool.not_false, Bool.beq_true, Bool.beq_false, Bool.not_true, Bool.not_false]))
        | (refine Ok_cond_f ?_ ?_; (· simp only [d4, decide_true, decide_false, beq_self_eq_true, Bool.not_true, Bool.not_false, Bool.beq_true, Bool.beq_false, Bool.not_true, Bool.not_false]))
        | (refine Ok_guard_t1 ?_ ?_; (· simp only [d3, d4, decide_true, decide_false, beq_self_eq_true, Bool.not_true, Bool.not_false, Bool.beq_true, Bool.beq_false, Bool.not_true, Bool.not_false]))
        | (refine Ok_guard_t0 ?_ ?_; (· simp only [d3, d4, decide_true, decide_false, beq_self_eq_true, Bool.not_true, Bool.not_false, Bool.beq_true, Bool.beq_false, Bool.not_true, Bool.not_false]))
        | (refine Ok_guard_f0 ?_ ?_; (· simp only [d3, d4, decide_true, decide_false, beq_self_eq_true, Bool.not_true, Bool.not_false, Bool.beq_true, Bool.beq_false, Bool.not_true, Bool.not_false]))
        | (refine Ok_guard_f1 ?_ ?_; (· simp only [d3, d4, decide_true, decide_false, beq_self_eq_true, Bool.not_true, Bool.not_false, Bool.beq_true, Bool.beq_false, Bool.not_true, Bool.not_false]))
        | (refine Ok_cond_t ?_ ?_; (· simp only [d3, d4, decide_true, decide_false, beq_self_eq_true, Bool.not_true, Bool.not_false, Bool.beq_true, Bool.beq_false, Bool.not_true, Bool.not_false]))
        | (refine Ok_cond_f ?_ ?_; (· simp only [d3, d4, decide_true, decide_false, beq_self_eq_true, Bool.not_true, Bool.not_false, Bool.beq_true, Bool.beq_false, Bool.not_true, Bool.not_false]))
        | refine Ok_call (L7_number ⟨#[49]⟩) ?_
        | refine Ok_call (L7_number ⟨#[50]⟩) ?_
        | refine Ok_call (L7_number ⟨#[51]⟩) ?_
        | refine Ok_call (L7_number ⟨#[52]⟩) ?_
        | refine Ok_call (L7_binary a (numberN ⟨#[49]⟩) (numberN ⟨#[50]⟩)) ?_
        | refine Ok_call (L7_binary b (numberN ⟨#[51]⟩) (numberN ⟨#[52]⟩)) ?_
        | refine Ok_call (L7_binary a (numberN ⟨#[49]⟩) (binaryN b (numberN ⟨#[51]⟩) (numberN ⟨#[52]⟩))) ?_
        | refine Ok_call (L7_binary a (binaryN b (numberN ⟨#[51]⟩) (numberN ⟨#[52]⟩)) (numberN ⟨#[49]⟩)) ?_
        | refine Ok_call (grammar_Level (binaryN a (numberN ⟨#[49]⟩) (numberN ⟨#[50]⟩))) ?_
        | refine Ok_call (grammar_Level (binaryN b (numberN ⟨#[51]⟩) (numberN ⟨#[52]⟩))) ?_
        | refine Ok_call (grammar_Check (binaryN a (numberN ⟨#[49]⟩) (numberN ⟨#[50]⟩)) wa) ?_
        | refine Ok_call (grammar_Check (binaryN b (numberN ⟨#[51]⟩) (numberN ⟨#[52]⟩)) wb) ?_
        | refine Ok_call (grammar_Check (binaryN a (numberN ⟨#[49]⟩) (binaryN b (numberN ⟨#[51]⟩) (numberN ⟨#[52]⟩))) (wf_binary ha (wf_number (by decide)) wb)) ?_
        | refine Ok_call (grammar_Check (binaryN a (binaryN b (numberN ⟨#[51]⟩) (numberN ⟨#[52]⟩)) (numberN ⟨#[49]⟩)) (wf_binary ha wb (wf_number (by decide)))) ?_
        | refine Ok_call (L7_awake) ?_
        | refine Ok_guard_t (fun h => ?_) (fun h => ?_)
        | refine Ok_guard_f (fun h => ?_) (fun h => ?_)
        | refine Ok_cond (fun h => ?_) (fun h => ?_)
        | refine Ok_fin env rfl rfl (told_eq ?_)
        | refine Ok_fin_n env rfl (told_eq ?_)
      all_goals (first | rfl | (refine bool_eq ?_; simp_all))
  all_goals
    have c1 : decide (level (binaryN a (numberN ⟨#[49]⟩) (numberN ⟨#[50]⟩)) = 0) = !decide (0 < opLevel a) := by rw [level_bin]; by_cases h : 0 < opLevel a <;> simp [h] <;> omega
    have c2 : decide (level (binaryN b (numberN ⟨#[51]⟩) (numberN ⟨#[52]⟩)) = 0) = !decide (0 < opLevel b) := by rw [level_bin]; by_cases h : 0 < opLevel b <;> simp [h] <;> omega
    have c3 : decide (0 < level (binaryN a (numberN ⟨#[49]⟩) (numberN ⟨#[50]⟩))) = decide (0 < opLevel a) := rfl
    have c4 : decide (0 < level (binaryN b (numberN ⟨#[51]⟩) (numberN ⟨#[52]⟩))) = decide (0 < opLevel b) := rfl
    have c5 : decide (checkErr (binaryN a (numberN ⟨#[49]⟩) (numberN ⟨#[50]⟩)) = 7) = !decide (0 < opLevel a) := by rw [fa]; by_cases h : 0 < opLevel a <;> simp [h]
    have c6 : decide (checkErr (binaryN b (numberN ⟨#[51]⟩) (numberN ⟨#[52]⟩)) = 7) = !decide (0 < opLevel b) := by rw [fb]; by_cases h : 0 < opLevel b <;> simp [h]
    simp only [la, lb, decide_true, decide_false, Bool.not_true, Bool.not_false] at c1 c2 c3 c4 c5 c6
    refine Fn_run (T := tt) (N := 84) (rs := [.tmp 4]) (fun vs w => by simp) Tryd.func9 rfl rfl rfl rfl (by kernel_rfl) (all_pure rfl) (closed2_pure _ rfl) ?_
    repeat' first
      | refine Ok_run env rfl ?_
      | (refine Ok_guard_t1 ?_ ?_; (· simp only [c1, Bool.not_true, Bool.not_false]))
      | (refine Ok_guard_t0 ?_ ?_; (· simp only [c1, Bool.not_true, Bool.not_false]))
      | (refine Ok_guard_f0 ?_ ?_; (· simp only [c1, Bool.not_true, Bool.not_false]))
      | (refine Ok_guard_f1 ?_ ?_; (· simp only [c1, Bool.not_true, Bool.not_false]))
      | (refine Ok_cond_t ?_ ?_; (· simp only [c1, Bool.not_true, Bool.not_false]))
      | (refine Ok_cond_f ?_ ?_; (· simp only [c1, Bool.not_true, Bool.not_false]))
      | (refine Ok_guard_t1 ?_ ?_; (· simp only [c2, Bool.not_true, Bool.not_false]))
      | (refine Ok_guard_t0 ?_ ?_; (· simp only [c2, Bool.not_true, Bool.not_false]))
      | (refine Ok_guard_f0 ?_ ?_; (· simp only [c2, Bool.not_true, Bool.not_false]))
      | (refine Ok_guard_f1 ?_ ?_; (· simp only [c2, Bool.not_true, Bool.not_false]))
      | (refine Ok_cond_t ?_ ?_; (· simp only [c2, Bool.not_true, Bool.not_false]))
      | (refine Ok_cond_f ?_ ?_; (· simp only [c2, Bool.not_true, Bool.not_false]))
      | (refine Ok_guard_t1 ?_ ?_; (· simp only [c3, Bool.not_true, Bool.not_false]))
      | (refine Ok_guard_t0 ?_ ?_; (· simp only [c3, Bool.not_true, Bool.not_false]))
      | (refine Ok_guard_f0 ?_ ?_; (· simp only [c3, Bool.not_true, Bool.not_false]))
      | (refine Ok_guard_f1 ?_ ?_; (· simp only [c3, Bool.not_true, Bool.not_false]))
      | (refine Ok_cond_t ?_ ?_; (· simp only [c3, Bool.not_true, Bool.not_false]))
      | (refine Ok_cond_f ?_ ?_; (· simp only [c3, Bool.not_true, Bool.not_false]))
      | (refine Ok_guard_t1 ?_ ?_; (· simp only [c4, Bool.not_true, Bool.not_false]))
      | (refine Ok_guard_t0 ?_ ?_; (· simp only [c4, Bool.not_true, Bool.not_false]))
      | (refine Ok_guard_f0 ?_ ?_; (· simp only [c4, Bool.not_true, Bool.not_false]))
      | (refine Ok_guard_f1 ?_ ?_; (· simp only [c4, Bool.not_true, Bool.not_false]))
      | (refine Ok_cond_t ?_ ?_; (· simp only [c4, Bool.not_true, Bool.not_false]))
      | (refine Ok_cond_f ?_ ?_; (· simp only [c4, Bool.not_true, Bool.not_false]))
      | (refine Ok_guard_t1 ?_ ?_; (· simp only [c5, Bool.not_true, Bool.not_false]))
      | (refine Ok_guard_t0 ?_ ?_; (· simp only [c5, Bool.not_true, Bool.not_false]))
      | (refine Ok_guard_f0 ?_ ?_; (· simp only [c5, Bool.not_true, Bool.not_false]))
      | (refine Ok_guard_f1 ?_ ?_; (· simp only [c5, Bool.not_true, Bool.not_false]))
      | (refine Ok_cond_t ?_ ?_; (· simp only [c5, Bool.not_true, Bool.not_false]))
      | (refine Ok_cond_f ?_ ?_; (· simp only [c5, Bool.not_true, Bool.not_false]))
      | (refine Ok_guard_t1 ?_ ?_; (· simp only [c6, Bool.not_true, Bool.not_false]))
      | (refine Ok_guard_t0 ?_ ?_; (· simp only [c6, Bool.not_true, Bool.not_false]))
      | (refine Ok_guard_f0 ?_ ?_; (· simp only [c6, Bool.not_true, Bool.not_false]))
      | (refine Ok_guard_f1 ?_ ?_; (· simp only [c6, Bool.not_true, Bool.not_false]))
      | (refine Ok_cond_t ?_ ?_; (· simp only [c6, Bool.not_true, Bool.not_false]))
      | (refine Ok_cond_f ?_ ?_; (· simp only [c6, Bool.not_true, Bool.not_false]))
      | refine Ok_call (L7_number ⟨#[49]⟩) ?_
      | refine Ok_call (L7_number ⟨#[50]⟩) ?_
      | refine Ok_call (L7_number ⟨#[51]⟩) ?_
      | refine Ok_call (L7_number ⟨#[52]⟩) ?_
      | refine Ok_call (L7_binary a (numberN ⟨#[49]⟩) (numberN ⟨#[50]⟩)) ?_
      | refine Ok_call (L7_binary b (numberN ⟨#[51]⟩) (numberN ⟨#[52]⟩)) ?_
      | refine Ok_call (L7_binary a (numberN ⟨#[49]⟩) (binaryN b (numberN ⟨#[51]⟩) (numberN ⟨#[52]⟩))) ?_
      | refine Ok_call (L7_binary a (binaryN b (numberN ⟨#[51]⟩) (numberN ⟨#[52]⟩)) (numberN ⟨#[49]⟩)) ?_
      | refine Ok_call (grammar_Level (binaryN a (numberN ⟨#[49]⟩) (numberN ⟨#[50]⟩))) ?_
      | refine Ok_call (grammar_Level (binaryN b (numberN ⟨#[51]⟩) (numberN ⟨#[52]⟩))) ?_
      | refine Ok_call (grammar_Check (binaryN a (numberN ⟨#[49]⟩) (numberN ⟨#[50]⟩)) wa) ?_
      | refine Ok_call (grammar_Check (binaryN b (numberN ⟨#[51]⟩) (numberN ⟨#[52]⟩)) wb) ?_
      | refine Ok_call (grammar_Check (binaryN a (numberN ⟨#[49]⟩) (binaryN b (numberN ⟨#[51]⟩) (numberN ⟨#[52]⟩))) (wf_binary ha (wf_number (by decide)) wb)) ?_
      | refine Ok_call (grammar_Check (binaryN a (binaryN b (numberN ⟨#[51]⟩) (numberN ⟨#[52]⟩)) (numberN ⟨#[49]⟩)) (wf_binary ha wb (wf_number (by decide)))) ?_
      | refine Ok_call (L7_awake) ?_
      | refine Ok_guard_t (fun h => ?_) (fun h => ?_)
      | refine Ok_guard_f (fun h => ?_) (fun h => ?_)
      | refine Ok_cond (fun h => ?_) (fun h => ?_)
      | refine Ok_fin env rfl rfl (told_eq ?_)
      | refine Ok_fin_n env rfl (told_eq ?_)
    all_goals rfl
end Go.Proofs.YtihlipmnhgnpoaaDoorW.Ex.Gr
