/- Sizes of trees, and the tree to which a path leads: the program's functions and the reference's. Conditions: those of the trees that come in (Wf), sizes of at most a million. -/
import Derived.Test.YtimdjillcaichaaDoorGe
import Derived.Test.YtimdjillcaichaaDoorPa
import Derived.Test.YtimdjillcaichaaDoorEx10
namespace Go.Proofs.YtimdjillcaichaaDoorW.Ex.Gr
open Go Go.Proofs.YtimdjillcaichaaDoorW.Ex
set_option linter.all false
set_option maxRecDepth 100000
theorem sz_turn (l : List Node) (s i : Nat) (k : Int) (hs : s ≤ 1000000) (hl : l.length ≤ 9223372036854775807) (hJ : i ≤ l.length ∧ 0 ≤ k ∧ k + sizeNL (l.drop i) = s) :
    (∃ m, l[i]? = some m ∧ m ∈ l ∧ i < l.length ∧ decide ((i : Int) < ((l.map Node.cells).length : Int)) = true ∧ sizeN m ≤ 1000000 ∧ IntKind.i64.wrap ((i : Int) + 1) = ((i + 1 : Nat) : Int) ∧ IntKind.i64.wrap (k + sizeN m) = k + sizeN m ∧ (0 ≤ k + sizeN m ∧ (k + sizeN m) + sizeNL (l.drop (i + 1)) = s)) ∨
    (decide ((i : Int) < ((l.map Node.cells).length : Int)) = false ∧ k = s) := by
  obtain ⟨h1, h2, h3⟩ := hJ
  rcases Nat.lt_or_ge i l.length with h | h
  · rw [List.drop_eq_getElem_cons h, sizeNL] at h3
    exact .inl ⟨l[i], List.getElem?_eq_getElem h, List.getElem_mem h, h, by simpa using h, by omega, wrap_id (by omega) (by omega), wrap_id (by omega) (by omega), by omega, by omega⟩
  · rw [List.drop_of_length_le h, sizeNL] at h3
    exact .inr ⟨by simpa using h, by omega⟩
set_option maxHeartbeats 4000000 in
/-- tree_Size -/
theorem tree_Size : ∀ n : Node, Wf n → sizeN n ≤ 1000000 → Fn Tryd.prog G 52 [.agg (cellsN n)] (.int .i64 (sizeN n)) := by
  intro n hwf
  induction hwf with | mk n hk hg ht hs _ ih => ?_
  intro hsz
  refine Fn_run (T := tt) (N := 19) (rs := [.tmp 2]) (fun vs w => by simp) Tryd.func52 rfl rfl rfl rfl (by kernel_rfl) (all_pure rfl) (closed2_pure _ rfl) ?_
  repeat' first
    | refine Ok_run env rfl ?_
    | (refine Ok_loop (α := Nat × Int) (fun a => a.1 ≤ n.kids.length ∧ 0 ≤ a.2 ∧ a.2 + sizeNL (n.kids.drop a.1) = sizeN n) (fun a => n.kids.length - a.1) (fun a => [(9, .int .i64 a.1), (3, .int .i64 a.2)]) (fun _ => []) ((0, 1)) (fun _ => rfl) (fun _ => rfl) (⟨Nat.zero_le _, by decide, by rw [sizeN_eq]; simp; omega⟩) ?_ ?_ (fun ⟨i, k⟩ hJ => ?_); (· simp [leFT, leV, leOs, leO, leC, rho, AV.ren, AV.ren1, AV.un, AV.un1, AV.closed]); (· simp [leFT, leV, leOs, leO, leC, rho, AV.ren, AV.ren1, AV.un, AV.un1, AV.closed]); rcases sz_turn n.kids (sizeN n) i k hsz hk hJ with ⟨m, hm, hmem, hlt, hb, hs1, hw, hw2, hn⟩ | ⟨hb, he⟩)
    | refine Ok_lret rfl ?_
    | refine Ok_lexit rfl rfl ?_
    | refine Ok_ix env rfl rfl rfl rfl rfl (kid_at hm) ?_
    | (refine Ok_back ((i + 1, k + sizeN m)) ?_ ?_ ?_ ?_; (· exact ⟨by show i + 1 ≤ n.kids.length; omega, hn⟩); (· (show n.kids.length - (i + 1) < n.kids.length - i; omega)); (· (simp only [hw, hw2]; simp [leFT, leV, leOs, leO, leC, rho, AV.ren, AV.ren1, AV.un, AV.un1, AV.closed])); (· simp [leFT, leV, leOs, leO, leC, rho, AV.ren, AV.ren1, AV.un, AV.un1, AV.closed]))
    | (refine Ok_guard_t1 ?_ ?_; (· simp only [hb, Bool.not_true, Bool.not_false]))
    | (refine Ok_guard_t0 ?_ ?_; (· simp only [hb, Bool.not_true, Bool.not_false]))
    | (refine Ok_guard_f0 ?_ ?_; (· simp only [hb, Bool.not_true, Bool.not_false]))
    | (refine Ok_guard_f1 ?_ ?_; (· simp only [hb, Bool.not_true, Bool.not_false]))
    | (refine Ok_cond_t ?_ ?_; (· simp only [hb, Bool.not_true, Bool.not_false]))
    | (refine Ok_cond_f ?_ ?_; (· simp only [hb, Bool.not_true, Bool.not_false]))
    | refine Ok_call (ih m hmem hs1) ?_
    | refine Ok_guard_t (fun h => ?_) (fun h => ?_)
    | refine Ok_guard_f (fun h => ?_) (fun h => ?_)
    | refine Ok_cond (fun h => ?_) (fun h => ?_)
    | refine Ok_fin env rfl rfl (told_eq ?_)
    | refine Ok_fin_n env rfl (told_eq ?_)
  all_goals refine int_eq ?_
  all_goals exact he
set_option maxHeartbeats 4000000 in
/-- R6_Size -/
theorem R6_Size : ∀ n : Node, Wf n → sizeN n ≤ 1000000 → Fn Tryd.prog G 34 [.agg (cellsN n)] (.int .i64 (sizeN n)) := by
  intro n hwf
  induction hwf with | mk n hk hg ht hs _ ih => ?_
  intro hsz
  refine Fn_run (T := tt) (N := 21) (rs := [.tmp 2]) (fun vs w => by simp) Tryd.func34 rfl rfl rfl rfl (by kernel_rfl) (all_pure rfl) (closed2_pure _ rfl) ?_
  repeat' first
    | refine Ok_run env rfl ?_
    | (refine Ok_loop (α := Nat × Int) (fun a => a.1 ≤ n.kids.length ∧ 0 ≤ a.2 ∧ a.2 + sizeNL (n.kids.drop a.1) = sizeN n) (fun a => n.kids.length - a.1) (fun a => [(4, .int .i64 a.1), (3, .int .i64 a.2)]) (fun _ => []) ((0, 1)) (fun _ => rfl) (fun _ => rfl) (⟨Nat.zero_le _, by decide, by rw [sizeN_eq]; simp; omega⟩) ?_ ?_ (fun ⟨i, k⟩ hJ => ?_); (· simp [leFT, leV, leOs, leO, leC, rho, AV.ren, AV.ren1, AV.un, AV.un1, AV.closed]); (· simp [leFT, leV, leOs, leO, leC, rho, AV.ren, AV.ren1, AV.un, AV.un1, AV.closed]); rcases sz_turn n.kids (sizeN n) i k hsz hk hJ with ⟨m, hm, hmem, hlt, hb, hs1, hw, hw2, hn⟩ | ⟨hb, he⟩)
    | refine Ok_lret rfl ?_
    | refine Ok_lexit rfl rfl ?_
    | refine Ok_ix env rfl rfl rfl rfl rfl (kid_at hm) ?_
    | (refine Ok_back ((i + 1, k + sizeN m)) ?_ ?_ ?_ ?_; (· exact ⟨by show i + 1 ≤ n.kids.length; omega, hn⟩); (· (show n.kids.length - (i + 1) < n.kids.length - i; omega)); (· (simp only [hw, hw2]; simp [leFT, leV, leOs, leO, leC, rho, AV.ren, AV.ren1, AV.un, AV.un1, AV.closed])); (· simp [leFT, leV, leOs, leO, leC, rho, AV.ren, AV.ren1, AV.un, AV.un1, AV.closed]))
    | (refine Ok_guard_t1 ?_ ?_; (· simp only [hb, Bool.not_true, Bool.not_false]))
    | (refine Ok_guard_t0 ?_ ?_; (· simp only [hb, Bool.not_true, Bool.not_false]))
    | (refine Ok_guard_f0 ?_ ?_; (· simp only [hb, Bool.not_true, Bool.not_false]))
    | (refine Ok_guard_f1 ?_ ?_; (· simp only [hb, Bool.not_true, Bool.not_false]))
    | (refine Ok_cond_t ?_ ?_; (· simp only [hb, Bool.not_true, Bool.not_false]))
    | (refine Ok_cond_f ?_ ?_; (· simp only [hb, Bool.not_true, Bool.not_false]))
    | refine Ok_call (ih m hmem hs1) ?_
    | refine Ok_guard_t (fun h => ?_) (fun h => ?_)
    | refine Ok_guard_f (fun h => ?_) (fun h => ?_)
    | refine Ok_cond (fun h => ?_) (fun h => ?_)
    | refine Ok_fin env rfl rfl (told_eq ?_)
    | refine Ok_fin_n env rfl (told_eq ?_)
  all_goals refine int_eq ?_
  all_goals exact he
def ic (k : Int) : List AV := [.int .i64 k]
def zeroC : List AV := [.int .i64 0, .str ⟨#[]⟩, .sl 0 true [], .sl 0 true []]
def getR (n : Node) (p : List Int) : AV := match getN n p with
  | some m => .tup [.agg (cellsN m), .bool true]
  | none => .tup [.agg zeroC, .bool false]
theorem pure_getR (n : Node) (p : List Int) : Pure (getR n p) := by
  unfold getR
  split <;> exact .tup _ (fun y hy => by
    rcases List.mem_cons.1 hy with rfl | hy
    · exact closed2_pure _ rfl
    · rcases List.mem_cons.1 hy with rfl | hy
      · exact closed2_pure _ rfl
      · cases hy)
theorem wf_kid {n m : Node} (h : Wf n) (hm : m ∈ n.kids) : Wf m := by cases h; rename_i h; exact h m hm
theorem get_turn (p : List Int) (j : Nat) (m : Node) (o : Option Node) (hp : p.length ≤ 9223372036854775807) (hJ : j ≤ p.length ∧ Wf m ∧ o = getN m (p.drop j)) :
    (∃ (i : Nat) (q : Node), (p.map ic)[j]? = some (ic (i : Int)) ∧ j < p.length ∧ m.kids[i]? = some q ∧ decide ((j : Int) < ((p.map ic).length : Int)) = true ∧ decide ((i : Int) < 0) = false ∧ decide (((m.kids.map Node.cells).length : Int) ≤ (i : Int)) = false ∧ IntKind.i64.wrap ((j : Int) + 1) = ((j + 1 : Nat) : Int) ∧ Wf q ∧ o = getN q (p.drop (j + 1))) ∨
    (∃ k : Int, (p.map ic)[j]? = some (ic k) ∧ decide ((j : Int) < ((p.map ic).length : Int)) = true ∧ decide (k < 0) = true ∧ o = none) ∨
    (∃ k : Int, (p.map ic)[j]? = some (ic k) ∧ decide ((j : Int) < ((p.map ic).length : Int)) = true ∧ decide (k < 0) = false ∧ decide (((m.kids.map Node.cells).length : Int) ≤ k) = true ∧ o = none) ∨
    (decide ((j : Int) < ((p.map ic).length : Int)) = false ∧ o = some m) := by
  obtain ⟨h1, h2, h3⟩ := hJ
  rcases Nat.lt_or_ge j p.length with h | h
  · have hd : decide ((j : Int) < ((p.map ic).length : Int)) = true := by simpa using h
    have hg : (p.map ic)[j]? = some (ic p[j]) := by rw [List.getElem?_map, List.getElem?_eq_getElem h]; rfl
    rw [List.drop_eq_getElem_cons h, getN] at h3
    by_cases c1 : p[j] < 0
    · exact .inr (.inl ⟨_, hg, hd, decide_eq_true c1, by rw [h3, if_neg (by omega)]⟩)
    · by_cases c2 : (m.kids.length : Int) ≤ p[j]
      · exact .inr (.inr (.inl ⟨_, hg, hd, decide_eq_false c1, by simpa using c2, by rw [h3, if_neg (by omega)]⟩))
      · have hi : p[j] = ((p[j].toNat : Nat) : Int) := by omega
        have hlt : p[j].toNat < m.kids.length := by omega
        rw [if_pos (by omega)] at h3
        refine .inl ⟨p[j].toNat, m.kids[p[j].toNat], by rw [← hi]; exact hg, h, List.getElem?_eq_getElem hlt, hd, decide_eq_false (by omega), decide_eq_false (by rw [List.length_map]; omega), wrap_id (by omega) (by omega), wf_kid h2 (List.getElem_mem hlt), ?_⟩
        rw [h3]
        simp only [kid, List.getD_eq_getElem?_getD, List.getElem?_eq_getElem hlt, Option.getD_some]
  · rw [List.drop_of_length_le h, getN] at h3
    exact .inr (.inr (.inr ⟨by simpa using h, h3⟩))
set_option maxHeartbeats 4000000 in
/-- path.get -/
theorem path_get (n : Node) (hwf : Wf n) (p : List Int) (hp : p.length ≤ 9223372036854775807) : Fn Tryd.prog G 54 [.agg (cellsN n), .sl 1 false (p.map ic)] (getR n p) := by
  refine Fn_run (T := tt) (N := 31) (rs := [.cell 4 25, .tmp 5]) (fun vs w => by simp) Tryd.func54 rfl rfl rfl rfl (by kernel_rfl) (all_pure rfl) (pure_getR n p) ?_
  repeat' first
    | refine Ok_run env rfl ?_
    | (refine Ok_loop (α := Nat × Node) (fun a => a.1 ≤ p.length ∧ Wf a.2 ∧ getN n p = getN a.2 (p.drop a.1)) (fun a => p.length - a.1) (fun a => [(10, .int .i64 a.1)]) (fun a => [(0, 0, .var 25 (cellsN a.2))]) ((0, n)) (fun _ => rfl) (fun _ => rfl) (⟨Nat.zero_le _, hwf, rfl⟩) ?_ ?_ (fun ⟨j, m⟩ hJ => ?_); (· simp [leFT, leV, leOs, leO, leC, rho, AV.ren, AV.ren1, AV.un, AV.un1, AV.closed]); (· simp [leFT, leV, leOs, leO, leC, rho, AV.ren, AV.ren1, AV.un, AV.un1, AV.closed]); rcases get_turn p j m _ hp hJ with ⟨i, q, hg, hlt, hq, hb, b1, b2, hw, hwq, he⟩ | ⟨k, hg, hb, b1, he⟩ | ⟨k, hg, hb, b1, b2, he⟩ | ⟨hb, he⟩)
    | refine Ok_lret rfl ?_
    | refine Ok_lexit rfl rfl ?_
    | refine Ok_ix env rfl rfl rfl rfl rfl hg ?_
    | refine Ok_ix env rfl rfl rfl rfl rfl (kid_at hq) ?_
    | (refine Ok_back ((j + 1, q)) ?_ ?_ ?_ ?_; (· exact ⟨by show j + 1 ≤ p.length; omega, hwq, he⟩); (· (show p.length - (j + 1) < p.length - j; omega)); (· (simp only [hw]; simp [leFT, leV, leOs, leO, leC, rho, AV.ren, AV.ren1, AV.un, AV.un1, AV.closed])); (· simp [leFT, leV, leOs, leO, leC, rho, AV.ren, AV.ren1, AV.un, AV.un1, AV.closed]))
    | (refine Ok_guard_t1 ?_ ?_; (· simp only [hb, Bool.not_true, Bool.not_false]))
    | (refine Ok_guard_t0 ?_ ?_; (· simp only [hb, Bool.not_true, Bool.not_false]))
    | (refine Ok_guard_f0 ?_ ?_; (· simp only [hb, Bool.not_true, Bool.not_false]))
    | (refine Ok_guard_f1 ?_ ?_; (· simp only [hb, Bool.not_true, Bool.not_false]))
    | (refine Ok_cond_t ?_ ?_; (· simp only [hb, Bool.not_true, Bool.not_false]))
    | (refine Ok_cond_f ?_ ?_; (· simp only [hb, Bool.not_true, Bool.not_false]))
    | (refine Ok_guard_t1 ?_ ?_; (· simp only [b1, Bool.not_true, Bool.not_false]))
    | (refine Ok_guard_t0 ?_ ?_; (· simp only [b1, Bool.not_true, Bool.not_false]))
    | (refine Ok_guard_f0 ?_ ?_; (· simp only [b1, Bool.not_true, Bool.not_false]))
    | (refine Ok_guard_f1 ?_ ?_; (· simp only [b1, Bool.not_true, Bool.not_false]))
    | (refine Ok_cond_t ?_ ?_; (· simp only [b1, Bool.not_true, Bool.not_false]))
    | (refine Ok_cond_f ?_ ?_; (· simp only [b1, Bool.not_true, Bool.not_false]))
    | (refine Ok_guard_t1 ?_ ?_; (· simp only [b2, Bool.not_true, Bool.not_false]))
    | (refine Ok_guard_t0 ?_ ?_; (· simp only [b2, Bool.not_true, Bool.not_false]))
    | (refine Ok_guard_f0 ?_ ?_; (· simp only [b2, Bool.not_true, Bool.not_false]))
    | (refine Ok_guard_f1 ?_ ?_; (· simp only [b2, Bool.not_true, Bool.not_false]))
    | (refine Ok_cond_t ?_ ?_; (· simp only [b2, Bool.not_true, Bool.not_false]))
    | (refine Ok_cond_f ?_ ?_; (· simp only [b2, Bool.not_true, Bool.not_false]))
    | refine Ok_guard_t (fun h => ?_) (fun h => ?_)
    | refine Ok_guard_f (fun h => ?_) (fun h => ?_)
    | refine Ok_cond (fun h => ?_) (fun h => ?_)
    | refine Ok_fin env rfl rfl (told_eq ?_)
    | refine Ok_fin_n env rfl (told_eq ?_)
  all_goals (simp only [getR, he]; first | rfl | skip)
end Go.Proofs.YtimdjillcaichaaDoorW.Ex.Gr
