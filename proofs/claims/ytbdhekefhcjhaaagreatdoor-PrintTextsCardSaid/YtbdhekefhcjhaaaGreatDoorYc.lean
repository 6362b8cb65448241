/- The reference's words, order, gaps, leads and levels of a node are those of its steps. Conditions: those in each theorem. -/
import Derived.Test.YtbdhekefhcjhaaaGreatDoorY0
import Derived.Test.YtbdhekefhcjhaaaGreatDoorYb
namespace Go.Proofs.YtbdhekefhcjhaaaGreatDoorW.Ex.Gr
open Go Go.Proofs.YtbdhekefhcjhaaaGreatDoorW.Ex
set_option linter.all false
set_option maxRecDepth 100000
theorem lists_l0 (v : Int) (t1 : Int) (h1 : t1 ≤ 1000000) : ∀ (r : Nat) (out : List BA) (t6 : Int), (t1 - t6).toNat = r → 1 ≤ t6 → t6 ≤ 1000001 → out.length + r ≤ 1000000 → F_R8_lists1_l0 t1 out t6 = some (out ++ wordsS (jr v false r))
 | 0, out, t6, h, h0, h2, h3 => by
   rw [F_R8_lists1_l0.eq_def, if_neg (by rw [decide_eq_true_eq]; omega), j4 (by simp only [List.length_singleton]; omega) (by decide), bs]; rfl
 | r + 1, out, t6, h, h0, h2, h3 => by
   rw [F_R8_lists1_l0.eq_def, if_pos (decide_eq_true (by omega)), j4 (by simp only [List.length_singleton]; omega) (by decide), bs]
   simp only [qa]
   rw [zq (by omega) (by omega), lists_l0 v t1 h1 r _ (t6 + 1) (by omega) (by omega) (by omega) (by rw [List.length_append, List.length_singleton]; omega), jr, wordsS, wordsS, List.append_assoc]; rfl
theorem lists_eq (v : Int) (out : List BA) (k : Int) (h0 : 0 ≤ k) (h1 : k ≤ 100000) (h2 : out.length ≤ 100000) : F_R8_lists1 out k = some (out ++ wordsS (jr v true k.toNat)) := by
 rw [F_R8_lists1.eq_def, Y6, lists_l0 v k (by omega) (k.toNat - 1) out 1 (by omega) (by omega) (by omega) (by omega)]
theorem alls_l0 (l : BA) (v : Int) (t2 : Int) (h1 : t2 ≤ 1000000) : ∀ (r : Nat) (out : List Int) (t8 : Int), (t2 - t8).toNat = r → 0 ≤ t8 → t8 ≤ 1000000 → out.length + r ≤ 1000000 → F_R8_alls2_l0 t2 out t8 = some (out ++ ordS (allS l v r) t8)
 | 0, out, t8, h, h0, h2, h3 => by
   rw [F_R8_alls2_l0.eq_def, if_neg (by rw [decide_eq_true_eq]; omega), allS, ordS, List.append_nil]
 | r + 1, out, t8, h, h0, h2, h3 => by
   rw [F_R8_alls2_l0.eq_def, if_pos (decide_eq_true (by omega)), j4 (by simp only [List.length_singleton]; omega) (by decide), bs]
   simp only [qa]
   rw [zq (by omega) (by omega), alls_l0 l v t2 h1 r _ (t8 + 1) (by omega) (by omega) (by omega) (by rw [List.length_append, List.length_singleton]; omega), allS, ordS, List.append_assoc]; rfl
theorem Qv (l : BA) (v : Int) (out : List Int) (a b : Int) (h0 : 0 ≤ a) (ha : a ≤ 1000000) (h1 : b ≤ 100000) (h2 : out.length ≤ 100000) : F_R8_alls2 out a b = some (out ++ ordS (allS l v (b - a).toNat) a) := by
 rw [F_R8_alls2.eq_def, alls_l0 l v b (by omega) (b - a).toNat out a rfl h0 ha (by omega)]
theorem commas_l0 (v : Int) (t1 t2 : Int) (h1 : t2 ≤ 100000) (h4 : 0 ≤ t1) : ∀ (r : Nat) (b : Bool) (out : List Int) (t8 : Int), (t2 - t8).toNat = r → (b = true → t8 = t1) → (b = false → t1 < t8) → t8 ≤ 1000000 → out.length + 2 * r ≤ 1000000 →
 (F_R8_commass2_l0 t1 t2 out t8 >>= fun x => app 8 x [-1]) = some (out ++ ordS (jr v b r) t8)
 | 0, b, out, t8, h, hb, hb2, h2, h3 => by
   rw [F_R8_commass2_l0.eq_def, if_neg (by rw [decide_eq_true_eq]; omega), bs, j4 (by simp only [List.length_singleton]; omega) (by decide)]
   cases b <;> rfl
 | r + 1, true, out, t8, h, hb, hb2, h2, h3 => by
   have e := hb rfl
   rw [F_R8_commass2_l0.eq_def, if_pos (decide_eq_true (by omega)), if_neg (by rw [decide_eq_true_eq]; omega), F_R8_commass2_t18.eq_def]
   simp only [qa]
   rw [j4 (by simp only [List.length_singleton]; omega) (by decide), bs, zq (by omega) (by omega), commas_l0 v t1 t2 h1 h4 r false _ (t8 + 1) (by omega) (by intro h; cases h) (by intro _; omega) (by omega) (by rw [List.length_append, List.length_singleton]; omega), jr, ordS, List.append_assoc]; rfl
 | r + 1, false, out, t8, h, hb, hb2, h2, h3 => by
   have e := hb2 rfl
   rw [F_R8_commass2_l0.eq_def, if_pos (decide_eq_true (by omega)), if_pos (decide_eq_true (by omega)), j4 (by simp only [List.length_singleton]; omega) (by decide), bs, F_R8_commass2_t18.eq_def]
   simp only [qa]
   rw [j4 (by simp only [List.length_append, List.length_singleton]; omega) (by decide), bs, zq (by omega) (by omega), commas_l0 v t1 t2 h1 h4 r false _ (t8 + 1) (by omega) (by intro h; cases h) (by intro _; omega) (by omega) (by simp only [List.length_append, List.length_singleton]; omega), jr, ordS, ordS, List.append_assoc, List.append_assoc]; rfl
theorem commas_eq (v : Int) (out : List Int) (a b : Int) (h0 : 0 ≤ a) (ha : a ≤ 1000) (h1 : b ≤ 100000) (h2 : out.length ≤ 100000) : (F_R8_commass2 out a b >>= fun x => app 8 x [-1]) = some (out ++ ordS (jr v true (b - a).toNat) a) := by
 rw [F_R8_commass2.eq_def]
 exact commas_l0 v a b h1 h0 (b - a).toNat true out a rfl (fun _ => rfl) (by intro h; cases h) (by omega) (by omega)
theorem rline_l0 (v : Int) (h1 : v ≤ 1000000) : ∀ (r : Nat) (s : List UInt8) (t4 : Int), (v - t4).toNat = r → 0 ≤ t4 → s.length + r ≤ 2000000 → F_R8_line_l0 v ⟨s.toArray⟩ t4 = some ⟨(s ++ List.replicate r 9).toArray⟩
 | 0, s, t4, h, h0, h2 => by rw [F_R8_line_l0.eq_def, if_neg (by rw [decide_eq_true_eq]; omega), List.replicate, List.append_nil]
 | r + 1, s, t4, h, h0, h2 => by
   rw [F_R8_line_l0.eq_def, if_pos (decide_eq_true (by omega)), Ku, bs]
   ·simp only [qa]
    rw [zq (by omega) (by omega), show (⟨s.toArray⟩ : BA) ++ (⟨#[9]⟩ : BA) = ⟨(s ++ [9]).toArray⟩ from mkBA_append s [9], rline_l0 v h1 r (s ++ [9]) (t4 + 1) (by omega) (by omega) (by rw [List.length_append, List.length_singleton]; omega), List.append_assoc]; rfl
   ·show s.toArray.size + 1 ≤ _
    rw [List.size_toArray]; omega
theorem rline_eq (v : Int) (h0 : 0 ≤ v) (h1 : v ≤ 1000000) : F_R8_line v = some (lineP v) := by
 rw [F_R8_line.eq_def]
 exact rline_l0 v h1 v.toNat [10] 0 (by omega) (by omega) (by simp only [List.length_singleton]; omega)
end Go.Proofs.YtbdhekefhcjhaaaGreatDoorW.Ex.Gr
