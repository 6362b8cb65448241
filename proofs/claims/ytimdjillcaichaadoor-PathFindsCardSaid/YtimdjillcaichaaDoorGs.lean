/- What comes in, with its sizes: a tree whose datum is not longer than memory is; paths. Conditions: none beside those in each theorem. -/
import Derived.Test.YtimdjillcaichaaDoorRa
import Derived.Test.YtimdjillcaichaaDoorGk
namespace Go.Proofs.YtimdjillcaichaaDoorW.Ex.Gr
open Go Go.RowKit Go.Proofs.YtimdjillcaichaaDoorW.Ex Go.Proofs.YtimdjillcaichaaDoor
set_option linter.all false
set_option maxRecDepth 100000
theorem rd_fixE {α : Type} {P : Program} {t : TypeId} {C : α → List AV} {Wf : α → Prop} {E : {H : Type} → DataW H → α → Prop} (step : ∀ n, Rd P n t C Wf E → Rd P (n + 1) t C Wf E) : ∀ n, Rd P n t C Wf E
  | 0 => fun H enc w held m cs x hm hx => by
    obtain rfl : m = 0 := by omega
    simp [DataW.trod] at hx
  | n + 1 => step n (rd_fixE step n)
theorem weights_all {H : Type} {P : Program} {e : TypeId} : ∀ {ds : List (DataW H)} {i : Nat} {d : DataW H}, ds[i]? = some d → ∀ m ∈ d.weights P e, m ∈ DataW.weightsAll P e ds
  | [], _, _, h, _, _ => by simp at h
  | a :: ds, 0, d, h, m, hm => by
    simp only [List.getElem?_cons_zero, Option.some.injEq] at h
    subst h
    rw [DataW.weightsAll]; exact List.mem_append_left _ hm
  | a :: ds, i + 1, d, h, m, hm => by
    simp only [List.getElem?_cons_succ] at h
    rw [DataW.weightsAll]; exact List.mem_append_right _ (weights_all h m hm)
/-- Not longer than memory is. -/
@[reducible] def Fits1 (t : TypeId) {H : Type} (d : DataW H) : Prop := ∀ m ∈ d.weights Tryd.prog t, m ≤ reachBytes
theorem slice_fits {α : Type} {t e : TypeId} {b : Nat} {E : {H : Type} → DataW H → α → Prop} (ht : Tryd.prog.underlying t = some (.slice e)) (hb : Tryd.prog.bytesOf e = b) {H : Type} {d : DataW H} {l : List α} (h : ES E d l) (hf : Fits1 t d) :
    l.length * b ≤ reachBytes ∧ ∀ (i : Nat) (a : α), l[i]? = some a → ∃ d' : DataW H, E d' a ∧ Fits1 e d' := by
  rcases h with ⟨rfl, rfl⟩ | ⟨ds, rest, rfl, hl, he⟩
  · exact ⟨by simp, fun i a h => by simp at h⟩
  · unfold Fits1 at hf
    rw [DataW.weights, ht] at hf
    refine ⟨?_, fun i a hi => ?_⟩
    · have := hf _ (List.mem_cons_self ..)
      rw [hb] at this
      rw [← hl]
      exact Nat.le_trans (Nat.mul_le_mul_right _ (Nat.le_add_right _ _)) this
    · have hd : ds[i]? = some (ds[i]'(by rw [hl]; exact (List.getElem?_eq_some_iff.1 hi).1)) := List.getElem?_eq_getElem _
      refine ⟨_, he i _ a hd hi, fun m hm => hf m ?_⟩
      exact List.mem_cons_of_mem _ (List.mem_append_left _ (weights_all hd m hm))
theorem rdNodeZ (n : Nat) : Rd Tryd.prog n 25 Node.cells Wf (fun d a => Fits1 25 d → Sz a) := by
  refine rd_fixE (E := fun d a => Fits1 25 d → Sz a) (fun n ih => ?_) n
  have h := rd_struct (P := Tryd.prog) Tryd.underlying25 (by kernel_rfl) (fr_cons (sz := 1) rfl (by kernel_rfl) (rd_int Tryd.underlying3 n) (fr_cons (sz := 1) rfl (by kernel_rfl) (rd_string Tryd.underlying9 n)
    (fr_cons (sz := 1) rfl (by kernel_rfl) (rd_slice (sz := 1) Tryd.underlying22 (by kernel_rfl) (by decide) (fun _ => rfl) (rd_string Tryd.underlying9 n)) (fr_one (sz := 1) rfl (by kernel_rfl) (rd_slice (sz := 4) Tryd.underlying23 (by kernel_rfl) (by decide) cells_len ih)))))
  refine rd_conv h (fun x => Node.mk x.1 x.2.1 x.2.2.1 x.2.2.2) (fun x => ?_) (fun x hx => ?_) (fun H d x he hf => ?_)
  · rw [cells_eq]; rfl
  · obtain ⟨_, h2, h3, h4⟩ := hx
    unfold maxLen at *
    exact .mk _ h4.1 h3.1 h2 h3.2 h4.2
  · obtain ⟨ds, rfl, d0, ds1, rfl, h0, d1, ds2, rfl, h1, d2, ds3, rfl, h2, d3, rfl, h3⟩ := he
    have hw : ∀ m ∈ DataW.weightsEach Tryd.prog [3, 9, 22, 23] [d0, d1, d2, d3], m ≤ reachBytes := by
      intro m hm
      refine hf m ?_
      rw [DataW.weights, Tryd.underlying25]
      exact hm
    have hr : reachBytes ≤ 9223372036854775807 := by decide
    have w1 : Fits1 9 d1 := fun m hm => hw m (DataW.weights_mem_each (j := 1) rfl rfl m hm)
    have w2 : Fits1 22 d2 := fun m hm => hw m (DataW.weights_mem_each (j := 2) rfl rfl m hm)
    have w3 : Fits1 23 d3 := fun m hm => hw m (DataW.weights_mem_each (j := 3) rfl rfl m hm)
    have str : ∀ (d : DataW H) (s : ByteArray), d = .lit (.string s.data.toList) → Fits1 9 d → s.size ≤ 9223372036854775807 := by
      rintro _ s rfl hs
      have := hs s.data.toList.length (by rw [DataW.weights]; exact List.mem_singleton.2 rfl)
      rw [Array.length_toList] at this
      exact Nat.le_trans this hr
    obtain ⟨l2, g2⟩ := slice_fits (b := 16) Tryd.underlying22 (by kernel_rfl) h2 w2
    obtain ⟨l3, g3⟩ := slice_fits (b := 72) Tryd.underlying23 (by kernel_rfl) h3 w3
    refine .mk _ (Nat.le_trans l2 (by decide)) (str d1 _ h1 w1) (fun g hg => ?_) (fun m hm => ?_)
    · obtain ⟨i, hi⟩ := List.getElem?_of_mem hg
      obtain ⟨d', he, hf'⟩ := g2 i g hi
      exact str d' g he hf'
    · obtain ⟨i, hi⟩ := List.getElem?_of_mem hm
      obtain ⟨d', he, hf'⟩ := g3 i m hi
      exact he hf'
theorem rdInts (n : Nat) : Rd Tryd.prog n 26 (fun l : List Int => [.sl 1 false (l.map Ex.ic)]) (fun l => l.length ≤ maxLen ∧ ∀ a ∈ l, (Lit.int .i64 a).wf = true) (fun d l => True) :=
  rd_imp (rd_slice (sz := 1) Tryd.underlying26 (by kernel_rfl) (by decide) (fun _ => rfl) (rd_int Tryd.underlying3 n)) (fun _ h => h) (fun _ _ _ _ => trivial)
theorem rc_sl {w : World} {x : AV} {v : Value} (h : RC w [x] [v]) : ∀ β n, RV w (· < w.heap.size) β n x v := fun β n => by
  obtain ⟨_, v', hv, hR⟩ := h.2 0 x rfl
  simp only [List.getElem?_cons_zero, Option.some.injEq] at hv
  subst hv
  exact hR β n
end Go.Proofs.YtimdjillcaichaaDoorW.Ex.Gr
