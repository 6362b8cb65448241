/- Canonical gaps are vf; trees without gaps. Conditions: those in each theorem. -/
import Derived.Test.YtimcdpioclioiaaGreatDoorHh
namespace Go.Proofs.YtimcdpioclioiaaGreatDoorW.Ex.Gr
open Go Go.Proofs.YtimcdpioclioiaaGreatDoorW.Ex Go.Proofs.YtimcdpioclioiaaGreatDoorW.Plain Tk
set_option linter.all false
set_option maxRecDepth 100000
theorem rest_blank : ∀ (l : List UInt8), (∀ c ∈ l, c = 32 ∨ c = 9 ∨ c = 10) → yw l.length l = []
 | [], _ => rfl
 | c :: l, h => by
   rw [List.length_cons, yw]
   have e : jk (c :: l) = some l := by
    show (if c = 32 ∨ c = 9 ∨ c = 10 then some l else _) = _
    rw [if_pos (h c (List.mem_cons_self ..))]
   rw [e]
   exact rest_blank l (fun x hx => h x (List.mem_cons_of_mem _ hx))
def vf (s : BA) : Prop := ∀ c ∈ L s, c = 32 ∨ c = 9 ∨ c = 10
theorem valid_blank (s : BA) (h : vf s) : ye s = true := by
 unfold ye
 rw [show (0 : Int) = ((0 : Nat) : Int) from rfl, J5 (Nat.zero_le _)]
 refine decide_eq_true ?_
 unfold z8 zk
 rw [List.drop_zero, rest_blank _ h]; rfl
def okC : Step → Prop
 | .own c _ => vf c
 | .kid l _ => vf l
theorem b_e0 : vf e0 := fun c h => by cases h
theorem b_sp : vf sp := fun c h => .inl (List.mem_singleton.1 (show c ∈ [32] from h))
theorem b_nl : vf ⟨#[10]⟩ := fun c h => .inr (.inr (List.mem_singleton.1 (show c ∈ [10] from h)))
theorem b_nn : vf ⟨#[10, 10]⟩ := fun c h => by
 have h : c ∈ [10, 10] := h
 simp at h; exact .inr (.inr h)
theorem b_line (v : Int) : vf (lineP v) := fun c h => by
 have h : c ∈ 10 :: List.replicate v.toNat 9 := h
 rcases List.mem_cons.1 h with h | h
 ·exact .inr (.inr h)
 ·exact .inr (.inl (List.eq_of_mem_replicate h))
theorem bc_rest (v : Int) : ∀ (r : Nat) (b : Bool), ∀ s ∈ jf v b r, okC s
 | 0, true, s, h => by rw [jf, List.mem_singleton] at h; subst h; exact b_e0
 | 0, false, s, h => by rw [jf, List.mem_singleton] at h; subst h; exact b_e0
 | r + 1, true, s, h => by
   rw [jf] at h
   rcases List.mem_cons.1 h with rfl | h
   ·exact b_e0
   ·exact bc_rest v r false s h
 | r + 1, false, s, h => by
   rw [jf] at h
   rcases List.mem_cons.1 h with rfl | h
   ·exact b_e0
   ·rcases List.mem_cons.1 h with rfl | h
    ·exact b_sp
    ·exact bc_rest v r false s h
theorem bc_all {l : BA} (hl : vf l) (v : Int) : ∀ (r : Nat), ∀ s ∈ allS l v r, okC s
 | 0, s, h => by cases h
 | r + 1, s, h => by
   rw [allS] at h
   rcases List.mem_cons.1 h with rfl | h
   ·exact hl
   ·exact bc_all hl v r s h
theorem bc_file (v : Int) : ∀ (r : Nat) {l : BA} (hl : vf l), ∀ s ∈ yj v l r, okC s
 | 0, l, hl, s, h => by cases h
 | r + 1, l, hl, s, h => by
   rw [yj] at h
   rcases List.mem_cons.1 h with rfl | h
   ·exact hl
   ·exact bc_file v r b_nn s h
theorem bc_steps {d k : Int} {t : BA} {nk : Nat} {l : BA} {v : Int} (hk : known k = true) (hl : vf l) : ∀ s ∈ stepsOf d k t nk l v, okC s := by
 have hfe : vf (yt l nk) := by unfold yt; split; exact b_nl; exact hl
 have hbe : ∀ f, vf (Za v f nk) := by intro f; unfold Za; split; exact b_line v; exact b_e0
 intro s hs
 rcases kinds hk with rfl | rfl | rfl | rfl | rfl | rfl | rfl | rfl | rfl | rfl | rfl | rfl | rfl | rfl | rfl | rfl | rfl | rfl | rfl | rfl | rfl | rfl | rfl | rfl | rfl | rfl
 case' inr.inr.inr.inr.inr.inr.inr.inl => by_cases c : t = e0 <;> simp [stepsOf, c] at hs
 case' inr.inr.inr.inr.inr.inr.inr.inr.inr.inr.inr.inr.inr.inl => by_cases c : nk = 0 <;> simp [stepsOf, c] at hs
 all_goals try simp only [stepsOf, Int.reduceEq, ite_false, ite_true, List.mem_append, List.mem_cons, List.not_mem_nil, or_false, false_or, wl, ke] at hs
 all_goals (repeat' (refine Or.elim hs (fun hs => ?_) (fun hs => ?_)))
 all_goals first
  | (subst hs; exact hl)
  | (subst hs; exact b_e0)
  | (subst hs; exact b_sp)
  | (subst hs; exact hfe)
  | (subst hs; exact hbe _)
  | exact bc_rest _ _ _ s hs
  | exact bc_all b_sp _ _ s hs
  | exact bc_all (b_line _) _ _ s hs
  | exact bc_file _ _ hl s hs
mutual
theorem bare_like : ∀ n : Node, Like n (kv n)
 | .mk k t g l => by
   rw [kv]
   exact like_node rfl rfl (.inr rfl) (bareL_like l)
theorem bareL_like : ∀ l : List Node, LikeL l (kg l)
 | [] => by rw [kg]; exact .nil
 | n :: l => by rw [kg]; exact .cons (bare_like n) (bareL_like l)
end
theorem bareL_len : ∀ l : List Node, (kg l).length = l.length
 | [] => by rw [kg]
 | n :: l => by rw [kg, List.length_cons, List.length_cons, bareL_len l]
end Go.Proofs.YtimcdpioclioiaaGreatDoorW.Ex.Gr
