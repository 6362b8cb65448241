/- Trees without the free text, with more of it, and with one part in parentheses: plain facts. No conditions beside those in each theorem. -/
import Derived.Test.YtihlipmnhgnpoaaDoorGl
import Derived.Test.YtihlipmnhgnpoaaDoorExW
namespace Go.Proofs.YtihlipmnhgnpoaaDoorW.Ex.Gr
open Go Go.Proofs.YtihlipmnhgnpoaaDoorW.Ex
set_option linter.all false
set_option maxRecDepth 100000
theorem Fn_less {P : Program} {G : Nat → List AV} {f : FuncId} {xs : List AV} {x y : AV} (h : Fn P G f xs x) (hw : wkT x y) : Fn P G f xs y := by
  intro w S β n vs hH hv
  refine (h w S β n vs hH hv).mono ?_
  rintro v w' ⟨S', hx, hlt, hR⟩
  exact ⟨S', hx, hlt, wkT_rv hw hR⟩
def rowOf (l : List Node) (i : Nat) : List AV := ((l.take i).map Node.cells).flatten
theorem row_zero (l : List Node) : rowOf l 0 = [] := by simp [rowOf]
theorem row_step {l : List Node} {m : Node} {i : Nat} (h : l[i]? = some m) : rowOf l i ++ List.flatten [cellsN m] = rowOf l (i + 1) := by
  have hl := (List.getElem?_eq_some_iff.1 h)
  obtain ⟨hi, rfl⟩ := hl
  simp only [rowOf, List.take_succ_eq_append_getElem hi, List.map_append, List.flatten_append, List.map_cons, List.map_nil, cells_eq]
theorem row_one {l : List Node} {m : Node} (h : l[0]? = some m) : List.flatten [cellsN m] = rowOf l 1 := by
  have := row_step h
  rwa [row_zero, List.nil_append] at this
theorem row_len : ∀ (l : List Node) (i : Nat), i ≤ l.length → (rowOf l i).length = i * 4
  | l, 0, _ => by rw [row_zero]; rfl
  | l, i + 1, h => by
    have hi : l[i]? = some (l[i]'(by omega)) := List.getElem?_eq_getElem _
    rw [← row_step hi, List.length_append, row_len l i (by omega)]
    simp [Nat.add_mul]
theorem cell_one (m : Node) : ∀ z ∈ m.cells, z.one = true ∧ z.closed = true := by
  rw [cells_eq]
  simp [AV.one, AV.closed]
theorem cells_len' (m : Node) : m.cells.length = 4 := by rw [cells_eq]; rfl
theorem row_view {objs : Objs} {id s : Nat} {e : TypeId} (l : List Node) (k : Nat) (hk : k = l.length) (h : objs[id]? = some (s, .row e (rowOf l k))) : view1 objs (.bs 4 id s 0 k) (.sl 4 false (l.map Node.cells)) := by
  subst hk
  refine ⟨rfl, rfl, e, _, h, by simp, ?_, ?_, ?_⟩
  · intro c hc
    obtain ⟨m, _, rfl⟩ := List.mem_map.1 hc
    exact cells_len' m
  · rw [List.drop_zero, List.take_of_length_le (by rw [row_len _ _ (Nat.le_refl _)]; exact Nat.le_refl _)]
    simp only [rowOf, List.take_length]
  · intro c hc z hz
    obtain ⟨m, _, rfl⟩ := List.mem_map.1 hc
    exact cell_one m z hz
/-! ### Nodes alike but for the free text -/
theorem all_map {α β : Type} (p : Nat → β → Bool) (f : α → β) : ∀ (l : List α) (i : Nat), allFrom p i (l.map f) = allFrom (fun i m => p i (f m)) i l
  | [], i => rfl
  | a :: l, i => by simp only [List.map_cons, allFrom, all_map p f l]
mutual
def bareN : Node → Node
  | .mk k t _ l => .mk k t [] (bareL l)
def bareL : List Node → List Node
  | [] => []
  | n :: l => bareN n :: bareL l
end
theorem bareL_map : ∀ l : List Node, bareL l = l.map bareN
  | [] => rfl
  | n :: l => by rw [bareL, bareL_map l, List.map_cons]
theorem bare_eq (n : Node) : bareN n = .mk n.kind n.text [] (n.kids.map bareN) := by
  cases n with
  | mk k t g l => rw [bareN, bareL_map]; rfl
theorem bare_kind (n : Node) : (bareN n).kind = n.kind := by rw [bare_eq]; rfl
theorem bare_text (n : Node) : (bareN n).text = n.text := by rw [bare_eq]; rfl
theorem bare_kids (n : Node) : (bareN n).kids = n.kids.map bareN := by rw [bare_eq]; rfl
theorem bare_gaps (n : Node) : (bareN n).gaps = [] := by rw [bare_eq]; rfl
/-- The node with these gaps over bare kids. -/
def barG (n : Node) (g : List ByteArray) : Node := .mk n.kind n.text g (n.kids.map bareN)
theorem barG_kids (n : Node) (g : List ByteArray) : (barG n g).kids = n.kids.map bareN := rfl
theorem barG_kind (n : Node) (g : List ByteArray) : (barG n g).kind = n.kind := rfl
theorem barG_text (n : Node) (g : List ByteArray) : (barG n g).text = n.text := rfl
theorem barG_gaps (n : Node) (g : List ByteArray) : (barG n g).gaps = g := rfl
theorem bare_level (n : Node) : level (bareN n) = level n := by unfold level; rw [bare_kind, bare_text]
theorem barG_kid (n : Node) (g : List ByteArray) (i : Nat) : kid (barG n g) i = if i < n.kids.length then bareN (kid n i) else nodeD := by
  simp only [kid, barG_kids, List.getD_eq_getElem?_getD, List.getElem?_map]
  by_cases h : i < n.kids.length
  · rw [if_pos h, List.getElem?_eq_getElem h]; rfl
  · rw [if_neg h, List.getElem?_eq_none (by omega)]; rfl
theorem barG_lev (n : Node) (g : List ByteArray) (i : Nat) : level (kid (barG n g) i) = level (kid n i) := by
  rw [barG_kid]
  by_cases h : i < n.kids.length
  · rw [if_pos h, bare_level]
  · rw [if_neg h]
    unfold kid
    rw [List.getD_eq_getElem?_getD, List.getElem?_eq_none (by omega)]; rfl
theorem barG_shape (n : Node) (g : List ByteArray) : shapeOk (barG n g) = shapeOk n := by
  have h1 : kidsOk (barG n g) = kidsOk n := by
    unfold kidsOk fitsFrom
    simp only [barG_kids, barG_kind, List.length_map]
    have : ∀ (k : Int) (l : List Node), allFrom (fun i m => fits k i m.kind) 0 (l.map bareN) = allFrom (fun i m => fits k i m.kind) 0 l := by
      intro k l
      rw [all_map]
      congr 1
      funext i m
      rw [bare_kind]
    simp only [this]
  have h2 : levelsOk (barG n g) = levelsOk n := by
    unfold levelsOk
    rw [barG_lev, barG_lev]; rfl
  unfold shapeOk
  rw [h1, h2]; rfl
theorem barG_called (n : Node) (g : List ByteArray) : calledOk (barG n g) = calledOk n := rfl
theorem barG_own (n : Node) (g : List ByteArray) : own (barG n g) = own n := by
  unfold own
  simp only [barG_kids, barG_kind, barG_text, List.length_map]
  rfl
mutual
theorem bare_size : ∀ (n : Node) (d : Nat), size? (bareN n) d = size? n d
  | .mk k t g l, 0 => by simp only [bareN, size?]
  | .mk k t g l, d + 1 => by
    simp only [bareN, size?]
    rw [bareL_size l d, bareL_map, List.length_map]
theorem bareL_size : ∀ (l : List Node) (d : Nat), sizeL? (bareL l) d = sizeL? l d
  | [], d => rfl
  | n :: l, d => by
    rw [bareL, sizeL_cons, sizeL_cons, bare_size n d, bareL_size l d]
end
theorem bare_node (n : Node) (h : nodeErr n = 0) : nodeErr (bareN n) = 0 := by
  obtain ⟨h1, h2, h3, h4, h5, h6⟩ := node_ok h
  have e : bareN n = barG n [] := bare_eq n
  have hs : shapeOk n = true := by simp [shapeOk, h1, h2, h3, h4]
  have hg : gapsOk (barG n []) = true := rfl
  rw [e]
  unfold nodeErr
  rw [barG_shape, barG_called, hs, h5, hg]; rfl
mutual
theorem bare_first : ∀ n : Node, firstErr n = 0 → firstErr (bareN n) = 0
  | .mk k t g l, h => by
    have h0 := first_ok h
    have h1 := bare_node _ h0.1
    rw [bareN] at h1 ⊢
    rw [firstErr, if_pos h1]
    exact bare_firstL l h0.2
theorem bare_firstL : ∀ l : List Node, (∀ m ∈ l, firstErr m = 0) → firstErrL (bareL l) = 0
  | [], _ => rfl
  | n :: l, h => by
    rw [bareL, firstErrL, if_pos (bare_first n (h n (List.mem_cons_self ..)))]
    exact bare_firstL l (fun m hm => h m (List.mem_cons_of_mem _ hm))
end
theorem bare_check (n : Node) (h : checkErr n = 0) : checkErr (bareN n) = 0 := by
  obtain ⟨k, h1, h2, h3⟩ := check_ok h
  exact check_of (by rw [bare_size]; exact h1) h2 (bare_first n h3)
theorem wf_bare (n : Node) (h : Wf n) : Wf (bareN n) := by
  induction h with | mk n hk hg ht hs _ ih => ?_
  refine .mk _ ?_ ?_ ?_ ?_ ?_
  · rw [bare_kids, List.length_map]; exact hk
  · rw [bare_gaps]; exact Nat.zero_le _
  · rw [bare_text]; exact ht
  · rw [bare_gaps]; simp
  · rw [bare_kids]
    intro m hm
    obtain ⟨a, ha, rfl⟩ := List.mem_map.1 hm
    exact ih a ha
def xs (i : Nat) : List ByteArray := List.replicate i ⟨#[120]⟩
theorem wf_xs (n : Node) (h : Wf n) (i : Nat) (hi : i ≤ 9223372036854775807) : Wf (barG n (xs i)) := by
  have hb := wf_bare n h
  cases h with | mk _ hk hg ht hs hh => ?_
  refine .mk _ ?_ ?_ ht ?_ ?_
  · rw [barG_kids, List.length_map]; exact hk
  · rw [barG_gaps, xs, List.length_replicate]; exact hi
  · intro g hg
    have := List.eq_of_mem_replicate (show g ∈ List.replicate i (⟨#[120]⟩ : ByteArray) from hg)
    rw [this]; decide
  · intro m hm
    obtain ⟨a, ha, rfl⟩ := List.mem_map.1 hm
    exact wf_bare a (hh a ha)
theorem triv_x : trivValid ⟨#[120]⟩ = false := by decide
theorem xs_check (n : Node) (h : checkErr n = 0) (i : Nat) (hi : 0 < i) : checkErr (barG n (xs i)) = 7 := by
  obtain ⟨k, h1, h2, h3⟩ := check_ok h
  have hs : size? (barG n (xs i)) 60 = some k := by
    rw [← h1, ← bare_size n 60, size_succ, size_succ]
    rw [bare_kids, bare_kind, barG_kids, barG_kind]
  rw [check_small hs h2, firstErr_eq]
  obtain ⟨h4, h5⟩ := first_ok h3
  obtain ⟨k0, k1, k2, k3, k4, k5⟩ := node_ok h4
  have e : nodeErr (barG n (xs i)) = 7 := by
    have hsh : shapeOk n = true := by simp [shapeOk, k0, k1, k2, k3]
    have hg : gapsOk (barG n (xs i)) = false := by
      cases i with
      | zero => omega
      | succ i =>
        unfold gapsOk gapsAll
        simp only [barG_gaps, xs, List.replicate_succ, allFrom, triv_x]
        simp
    unfold nodeErr
    rw [barG_shape, barG_called, hsh, k4, hg]; rfl
  rw [e]; rfl
theorem own_rng (n : Node) (h : n.kids.length ≤ 200) : 0 ≤ own n ∧ own n ≤ 300 := by
  have w1 : IntKind.i64.wrap (2 + max 0 ((n.kids.length : Int) - 1)) = 2 + max 0 ((n.kids.length : Int) - 1) := wrap_id (by omega) (by omega)
  have w2 : IntKind.i64.wrap (3 + max 0 ((n.kids.length : Int) - 1)) = 3 + max 0 ((n.kids.length : Int) - 1) := wrap_id (by omega) (by omega)
  have w3 : IntKind.i64.wrap (4 + max 0 ((n.kids.length : Int) - 2)) = 4 + max 0 ((n.kids.length : Int) - 2) := wrap_id (by omega) (by omega)
  unfold own ownN
  rw [w1, w2, w3]
  (repeat' split) <;> omega
/-! ### One part in parentheses -/
def parG (n : Node) (i : Nat) (m : Node) : Node := .mk n.kind n.text n.gaps (n.kids.set i (parenN m))
theorem parG_kids (n : Node) (i : Nat) (m : Node) : (parG n i m).kids = n.kids.set i (parenN m) := rfl
theorem parG_kind (n : Node) (i : Nat) (m : Node) : (parG n i m).kind = n.kind := rfl
theorem parG_text (n : Node) (i : Nat) (m : Node) : (parG n i m).text = n.text := rfl
theorem parG_gaps (n : Node) (i : Nat) (m : Node) : (parG n i m).gaps = n.gaps := rfl
theorem lev_paren (m : Node) : level (parenN m) = 7 := rfl
theorem tab_exact : ∀ k : Nat, k < 27 → (∀ p ∈ (shapes.getD k ⟨[], (0, 0), 0, [], 0⟩).first, p.1 < 17) ∧ (shapes.getD k ⟨[], (0, 0), 0, [], 0⟩).rest.1 < 17 := by decide
theorem part_exact (k pos : Int) (hk : known k = true) (hp : 0 ≤ pos) : (partAt k pos).1 < 17 := by
  have kb := known_in hk
  have ht := tab_exact k.toNat (by omega)
  unfold partAt
  split
  · rename_i h
    rw [List.getD_eq_getElem?_getD, List.getElem?_eq_getElem (by omega)]
    exact ht.1 _ (List.getElem_mem _)
  · exact ht.2
theorem fits_paren (k : Int) (i : Nat) (m : Node) (h : fits k i m.kind = true) (hg : group m.kind = 3) : fits k i (parenN m).kind = true := by
  have hx := hg
  rw [group3] at hx
  simp only [fits, Bool.and_eq_true] at h ⊢
  obtain ⟨⟨⟨h1, h2⟩, h3⟩, h4⟩ := h
  refine ⟨⟨⟨h1, h2⟩, rfl⟩, ?_⟩
  have he := part_exact k i h1 (by omega)
  split
  · rename_i h0
    rw [if_pos h0] at h4
    simp only [decide_eq_true_eq] at h4
    omega
  · rename_i h0
    rw [if_neg h0] at h4
    simp only [decide_eq_true_eq] at h4 ⊢
    rw [h4, hg]; rfl
theorem all_of {α : Type} (p : Nat → α → Bool) : ∀ (l : List α) (i : Nat), (∀ (j : Nat) (m : α), l[j]? = some m → p (i + j) m = true) → allFrom p i l = true
  | [], i, h => rfl
  | a :: l, i, h => by
    simp only [allFrom, Bool.and_eq_true]
    refine ⟨by simpa using h 0 a rfl, all_of p l (i + 1) (fun j m hj => ?_)⟩
    have := h (j + 1) m (by simpa using hj)
    rwa [show i + (j + 1) = i + 1 + j by omega] at this
theorem parG_kid (n : Node) (i j : Nat) (m : Node) (hm : n.kids[i]? = some m) : level (kid (parG n i m) j) = if j = i then 7 else level (kid n j) := by
  have hi := (List.getElem?_eq_some_iff.1 hm).1
  simp only [kid, parG_kids, List.getD_eq_getElem?_getD]
  rw [List.getElem?_set]
  by_cases h : j = i
  · subst h
    rw [if_pos rfl, if_pos hi, if_pos rfl]; rfl
  · rw [if_neg (fun e => h e.symm), if_neg h]
theorem paren_node (n : Node) (h : nodeErr n = 0) (i : Nat) (m : Node) (hm : n.kids[i]? = some m) (hg : group m.kind = 3) : nodeErr (parG n i m) = 0 := by
  obtain ⟨k0, k1, k2, k3, k4, k5⟩ := node_ok h
  have hi := (List.getElem?_eq_some_iff.1 hm).1
  have hk : kidsOk (parG n i m) = true := by
    have e1 := kids_eq n k0
    rw [k1] at e1
    rw [kids_eq (parG n i m) k0]
    simp only [Bool.true_eq, Bool.and_eq_true] at e1 ⊢
    refine ⟨?_, ?_⟩
    · have := e1.1
      rw [parG_kids, parG_kind, List.length_set]
      exact this
    · refine all_of _ _ 0 (fun j x hj => ?_)
      have hf := all_at _ n.kids 0 e1.2
      simp only [Nat.zero_add] at hf ⊢
      rw [parG_kids, List.getElem?_set] at hj
      split at hj
      · rename_i h2
        subst h2
        (try rw [if_pos hi] at hj)
        simp only [Option.some.injEq] at hj
        subst hj
        exact fits_paren n.kind i m (hf i m hm) hg
      · exact hf j x hj
  have hl : levelsOk (parG n i m) = true := by
    unfold levelsOk at k3 ⊢
    rw [parG_kid n i 0 m hm, parG_kid n i 1 m hm]
    have hr := opLevel_rng n.text
    simp only [show (parG n i m).kind = n.kind from rfl, show level (parG n i m) = level n from rfl]
    by_cases c1 : n.kind = 24
    · have hl : level n = opLevel n.text := by unfold level; rw [c1]; rfl
      rw [if_pos c1] at k3 ⊢
      rw [hl] at k3 ⊢
      simp only [Bool.and_eq_true, Bool.not_eq_true', Bool.or_eq_false_iff, decide_eq_true_eq, decide_eq_false_iff_not, Bool.and_eq_false_iff] at k3 ⊢
      refine ⟨⟨?_, ?_⟩, ?_⟩
      · split
        · omega
        · exact k3.1.1
      · split
        · left; omega
        · exact k3.1.2
      · split
        · omega
        · exact k3.2
    · rw [if_neg c1] at k3 ⊢
      by_cases c2 : n.kind = 25
      · rw [if_pos c2] at k3 ⊢
        simp only [decide_eq_true_eq] at k3 ⊢
        split
        · omega
        · exact k3
      · rw [if_neg c2] at k3 ⊢
        by_cases c3 : n.kind = 21
        · rw [if_pos c3] at k3 ⊢
          simp only [decide_eq_true_eq] at k3 ⊢
          split
          · rfl
          · exact k3
        · rw [if_neg c3]
  have ho : own (parG n i m) = own n := by
    unfold own
    simp only [parG_kids, parG_kind, parG_text, List.length_set]
    rfl
  have hga : gapsOk (parG n i m) = true := by
    unfold gapsOk at k5 ⊢
    rw [ho]; exact k5
  have hs : shapeOk (parG n i m) = true := by
    have a1 : known (parG n i m).kind = true := k0
    have a2 : spelledOk (parG n i m) = true := k2
    simp [shapeOk, a1, a2, hk, hl]
  have hc : calledOk (parG n i m) = true := k4
  simp [nodeErr, hs, hc, hga]
theorem paren_self (m : Node) (h : firstErr m = 0) (hg : group m.kind = 3) : firstErr (parenN m) = 0 := by
  have kk := known_of_group hg
  have e : nodeErr (parenN m) = 0 := by
    have a0 : fits 26 0 m.kind = true := by rw [← rfits_eq]; unfold rfits; simp [hg]
    have a1 : kidsOk (parenN m) = true := by
      rw [kids_eq _ rfl]
      show (!decide ((1 : Int) < 1) && (fits 26 0 m.kind && true)) = true
      rw [a0]; rfl
    have a2 : shapeOk (parenN m) = true := by
      have b1 : known (parenN m).kind = true := rfl
      have b2 : spelledOk (parenN m) = true := rfl
      have b3 : levelsOk (parenN m) = true := rfl
      simp [shapeOk, a1, b1, b2, b3]
    have a3 : calledOk (parenN m) = true := rfl
    have a4 : gapsOk (parenN m) = true := rfl
    simp [nodeErr, a2, a3, a4]
  rw [firstErr_eq, e, if_pos rfl]
  show firstErrL [m] = 0
  rw [firstErrL, if_pos h]; rfl
theorem firstL_of : ∀ (l : List Node), (∀ m ∈ l, firstErr m = 0) → firstErrL l = 0
  | [], _ => rfl
  | n :: l, h => by
    rw [firstErrL, if_pos (h n (List.mem_cons_self ..))]
    exact firstL_of l (fun m hm => h m (List.mem_cons_of_mem _ hm))
theorem paren_check (n : Node) (h : checkErr n = 0) (i : Nat) (m : Node) (hm : n.kids[i]? = some m) (hg : group m.kind = 3) : checkErr (parG n i m) = 0 ∨ checkErr (parG n i m) = 3 := by
  obtain ⟨k, h1, h2, h3⟩ := check_ok h
  obtain ⟨h4, h5⟩ := first_ok h3
  have hf : firstErr (parG n i m) = 0 := by
    rw [firstErr_eq, paren_node n h4 i m hm hg, if_pos rfl]
    refine firstL_of _ (fun x hx => ?_)
    rcases List.mem_or_eq_of_mem_set (show x ∈ n.kids.set i (parenN m) from hx) with hx | rfl
    · exact h5 x hx
    · exact paren_self m (h5 m (List.mem_of_getElem? hm)) hg
  unfold checkErr
  rw [hf]
  split
  · split
    · exact .inl rfl
    · exact .inr rfl
  · exact .inr rfl
theorem wf_par (n : Node) (h : Wf n) (i : Nat) (m : Node) (hm : n.kids[i]? = some m) : Wf (parG n i m) := by
  cases h with | mk _ hk hg ht hs hh => ?_
  refine .mk _ ?_ hg ht hs ?_
  · show (n.kids.set i (parenN m)).length ≤ _
    rw [List.length_set]; exact hk
  · intro x hx
    rcases List.mem_or_eq_of_mem_set (show x ∈ n.kids.set i (parenN m) from hx) with hx | rfl
    · exact hh x hx
    · exact wf_paren (hh m (List.mem_of_getElem? hm))
end Go.Proofs.YtihlipmnhgnpoaaDoorW.Ex.Gr
