/- A symbolic executor for the machine's code, part 10: variables that do not change any more, told as memory that is only read. General over the program; no conditions beside those in each theorem. -/
import Derived.Test.YtigmilhpeodhbaaDoorExV
namespace Go.Proofs.YtigmilhpeodhbaaDoorW.Ex
set_option linter.all false
open Go
variable {D : List Deferred}
variable {G : Nat → List AV} {P : Program} {N p : Nat}
def frzL (f : Fr) (objs : Objs) (ids : List Nat) : List (Nat × AV) → Prop
 | [] => True
 | q :: ps => (∃ (id s : Nat) (t : TypeId) (cs : List AV), f q.1 = .ptr id s 0 ∧ q.2 = .rptr cs ∧ id ∈ ids ∧ objs[id]? = some (s, .var t cs) ∧ ∀ z ∈ cs, z.closed = true) ∧ frzL f objs ids ps
theorem qpm {f : Fr} {objs : Objs} {ids : List Nat} : ∀ (ps : List (Nat × AV)), frzL f objs ids ps → ∀ q ∈ ps, ∃ (id s : Nat) (t : TypeId) (cs : List AV), f q.1 = .ptr id s 0 ∧ q.2 = .rptr cs ∧ id ∈ ids ∧ objs[id]? = some (s, .var t cs) ∧ ∀ z ∈ cs, z.closed = true
 | [], _, q, hq => by cases hq
 | a :: ps, h, q, hq => by
   rcases List.mem_cons.1 hq with rfl | hq
   ·exact h.1
   exact qpm ps h.2 q hq
def qhi (ids : List Nat) : Nat → Objs → Objs → Prop
 | _, _, [] => True
 | j, (s, o) :: l, (s', o') :: l' => (s' = s ∧ (o' = .dead ∨ (o' = o ∧ j ∉ ids))) ∧ qhi ids (j + 1) l l'
 | _, [], _ :: _ => False
theorem Qi {ids : List Nat} : ∀ (l l' : Objs) (j : Nat), qhi ids j l l' → ∀ (i s : Nat) (o : Obj), l'[i]? = some (s, o) → ∃ o1, l[i]? = some (s, o1) ∧ (o = .dead ∨ (o = o1 ∧ j + i ∉ ids))
 | _, [], _, _, i, s, o, h => by simp at h
 | [], _ :: _, _, h, _, _, _, _ => h.elim
 | (s1, o1) :: l, (s2, o2) :: l', j, h, 0, s, o, hi => by
   simp only [List.getElem?_cons_zero, Option.some.injEq, Prod.mk.injEq] at hi
   obtain ⟨rfl, rfl⟩ := hi
   exact ⟨o1, by rw [h.1.1]; rfl, h.1.2⟩
 | (s1, o1) :: l, (s2, o2) :: l', j, h, i + 1, s, o, hi => by
   obtain ⟨o3, h1, h2⟩ := Qi l l' (j + 1) h.2 i s o (by simpa using hi)
   exact ⟨o3, by simpa using h1, by rwa [show j + (i + 1) = j + 1 + i by omega]⟩
theorem qsk {w : World} {S : Nat → Prop} {β : Nat → Nat} {n : Nat} {g : Nat → Value} : ∀ (ps : List (Nat × AV)) (f : Fr), (∀ t, RV w S β n (f t) (g t)) → (∀ q ∈ ps, RV w S β n q.2 (g q.1)) → ∀ t, RV w S β n (puts ps f t) (g t)
 | [], f, h, _, t => h t
 | q :: ps, f, h, hq, t => by
   refine qsk ps _ (fun t => ?_) (fun q' hq' => hq q' (List.mem_cons_of_mem _ hq')) t
   rw [uw]
   split
   ·rename_i e; subst e; exact hq q (List.mem_cons_self ..)
   exact h t
theorem qo8 {f : Fr} {n : Nat} {objs objs' : Objs} (ps : List (Nat × AV)) (ids : List Nat) (hps : frzL f objs ids ps) (ho : qhi ids 0 objs objs') : Less G N p f ⟨n, objs⟩ (puts ps f) ⟨n, objs'⟩ := by
 unfold Less
 intro D w S F β a hp hH hf
 have hS : ∀ k, S k → (fun k => S k ∨ ∃ (id s : Nat) (t : TypeId) (cs : List AV), id ∈ ids ∧ objs[id]? = some (s, .var t cs) ∧ β s = k) k := fun k h => .inl h
 have rv : ∀ x v, RV w S β n x v → RV w (fun k => S k ∨ ∃ (id s : Nat) (t : TypeId) (cs : List AV), id ∈ ids ∧ objs[id]? = some (s, .var t cs) ∧ β s = k) β n x v := fun x v h => h.to (Nat.le_refl _) (fun _ _ => rfl) hS (fun _ _ => rfl) (fun _ _ _ h => h)
 refine ⟨fun k => S k ∨ ∃ (id s : Nat) (t : TypeId) (cs : List AV), id ∈ ids ∧ objs[id]? = some (s, .var t cs) ∧ β s = k, β, ⟨rfl, rfl, rfl, Nat.le_refl _, Nat.le_refl _, fun _ _ => rfl, hS, ?_, fun _ _ => rfl, fun _ _ => rfl, fun _ _ h => h⟩, hp, ⟨?_, hH.ltf, fun g => ⟨rv _ _ (hH.glob g).rv, (hH.glob g).sh⟩, fun i s o hi => ?_, fun i j si sj oi oj hi hj hne h1 h2 => ?_, fun i s o hi => ?_⟩, ⟨hf.size, hf.defers, qsk ps f (fun t => rv _ _ (hf.val t)) (fun q hq => ?_)⟩⟩
 ·rintro k (h | ⟨id, s, t, cs, _, hi, rfl⟩)
  ·exact .inl h
  exact .inr ((hH.obj id s _ hi).notS rfl).2
 ·rintro k (h | ⟨id, s, t, cs, _, hi, rfl⟩)
  ·exact hH.lts k h
  exact (hH.obj id s _ hi).lt rfl
 ·obtain ⟨o1, h1, _⟩ := Qi _ _ 0 ho i s o hi
  exact hH.ltn i s o1 h1
 ·obtain ⟨o1, a1, a2⟩ := Qi _ _ 0 ho i si oi hi
  obtain ⟨o2, b1, b2⟩ := Qi _ _ 0 ho j sj oj hj
  rcases a2 with rfl | ⟨rfl, _⟩
  ·cases h1
  rcases b2 with rfl | ⟨rfl, _⟩
  ·cases h2
  exact hH.inj i j si sj _ _ a1 b1 hne h1 h2
 ·obtain ⟨o1, a1, a2⟩ := Qi _ _ 0 ho i s o hi
  rcases a2 with rfl | ⟨rfl, hni⟩
  ·trivial
  rw [Nat.zero_add] at hni
  have hor := hH.obj i s _ a1
  cases hl : o.live with
  | false =>
    cases o with
    | dead => trivial
    | var t cs => cases hl
    | row t cs => exact OR.nil hl
    | froz t cs =>
      have h2 := hor
      obtain ⟨_, _, _, _, h2, _⟩ := h2
      exact hor.to rv rfl (fun h => absurd h2 h) (hS _) (fun h => h)
  | true =>
    refine hor.to rv rfl (fun hn hS' => ?_) (hS _) (fun h => h)
    rcases hS' with h | ⟨id, s2, t, cs, hid, hi2, e⟩
    ·exact hn h
    exact hH.inj i id s s2 _ _ a1 hi2 (fun e => hni (e ▸ hid)) hl rfl e.symm
 obtain ⟨id, s, t, cs, h1, h2, h3, h4, h5⟩ := qpm ps hps q hq
 have hv := hf.val q.1
 rw [h1] at hv
 rw [h2]
 obtain ⟨c, e1, e2, e3, e4, e5⟩ := hH.obj id s _ h4
 generalize a.tmps.getD q.1 Go.undef = v at hv ⊢
 cases hv with
 | ptr _ _ _ hs =>
   refine .rptr cs (β s) 0 (fun i => c.getD i Go.undef) (fun _ => .inr ⟨id, s, t, cs, h3, h4, rfl⟩) (fun i x hi => (e5 i x hi).1) (fun i x hi => ?_) (fun i x hi => (rv _ _ (e5 i x hi).2).pure (jy x (h5 x (List.mem_of_getElem? hi))))
   have hlt := (List.getElem?_eq_some_iff.1 hi).1
   simp only [World.cell?, e1, Nat.zero_add]
   exact Jd (by omega)
end Go.Proofs.YtigmilhpeodhbaaDoorW.Ex
