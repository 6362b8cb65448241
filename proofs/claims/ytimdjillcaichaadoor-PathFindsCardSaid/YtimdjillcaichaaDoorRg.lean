/- The statements about paths return true. Conditions: those in each theorem. -/
import Derived.Test.YtimdjillcaichaaDoorRf
namespace Go.Proofs.YtimdjillcaichaaDoorW.Ex.Gr
open Go Go.Proofs.YtimdjillcaichaaDoorW.Ex
set_option linter.all false
set_option maxRecDepth 100000
theorem awk : (F_L10_awake >>= fun x => some x) = some true := by rw [P_awake]; rfl
theorem P_PathIndexes (n : Node) (i : Int) (z : Sz n) (hi : i ≤ 9223372036854775807) : F_L10_PathIndexes n i = some true := by
  obtain ⟨b, hb, hsz⟩ := P_small n
  rw [E_F_L10_PathIndexes, hb, bs]
  cases b with
  | false => rw [bnot_tt]; exact awk
  | true =>
    have hs := hsz rfl
    have hO := P_path_Of n (by omega) i hi
    rw [bnot_ff]
    by_cases c0 : 0 ≤ i
    · by_cases c1 : i < sizeN n
      · rw [if_pos ⟨c0, c1⟩] at hO
        rw [hO, bs, decide_eq_true c0, ite_tt, P_R6_Size n (by omega), bs, decide_eq_true c1]
        simp only [BEq.rfl, Bool.not_true, ite_ff]
        have sp := of_spec n i.toNat (by omega)
        have hI : indexE n ((ofL n i.toNat).map Int.ofNat) 0 = (i, true) := by
          unfold indexE
          rw [sp.2 0]
          simp only [Prod.mk.injEq, and_true]; omega
        have hG : getE n ((ofL n i.toNat).map Int.ofNat) = (nodeAt n i.toNat, 0) := by unfold getE; rw [sp.1]
        have hA := P_R6_At n i.toNat (by omega) (by omega)
        rw [Int.toNat_of_nonneg c0, if_pos (show i.toNat < sizeN n by omega)] at hA
        have hg := get_sz _ n _ sp.1 z
        rw [P_path_Index n _ (by omega), bs, P_path_Get n _ z (by omega), bs, hA, bs, hI, hG]
        simp only [decide_true, ite_tt]
        rw [eq_self hg.1 (by omega), bs, ite_tt]; exact awk
      · rw [if_neg (by omega)] at hO
        rw [hO, bs, decide_eq_true c0, ite_tt, P_R6_Size n (by omega), bs, decide_eq_false c1]
        exact awk
    · rw [if_neg (by omega)] at hO
      rw [hO, bs, decide_eq_false c0, ite_ff]
      exact awk
/-! ### Both return the same -/
def Good (r : Node × Int) : Prop := Sz r.1 ∧ sizeN r.1 ≤ 1000000
theorem size_zeroN : sizeN zeroN ≤ 1000000 := by decide
theorem good_zero (e : Int) : Good (zeroN, e) := ⟨sz_zero, size_zeroN⟩
theorem good_chk {n : Node} (z : Sz n) (h : sizeN n ≤ 1000000) : Good (chk n) := by
  unfold chk
  split
  · exact ⟨z, h⟩
  · exact good_zero 7
theorem up_some {n : Node} {q : List Int} {k : Int} {y : Node} (h : getN n (q ++ [k]) = some y) : ∃ m, getN n q = some m := ⟨_, (getN_up h).choose_spec.1⟩
theorem both_Replace (n : Node) (p : List Int) (x : Node) (z : Sz n) (zx : Sz x) (hs : sizeN n ≤ 10000) (hx : sizeN x ≤ 1000) (hp : p.length ≤ 9223372036854775807) : ∃ r, Good r ∧ F_path_Replace n p x = some r ∧ F_R10_Replace n p x = some r := by
  cases e : getN n p with
  | none => exact ⟨_, good_zero 5, P_Replace_none n p x e, P_R10_Replace_none n p x hp e⟩
  | some y =>
    rcases snoc_cases p with rfl | ⟨q, k, rfl⟩
    · exact ⟨_, good_chk zx (by omega), P_Replace_nil n x zx (by omega), P_R10_Replace_nil n x zx hs (by omega)⟩
    · obtain ⟨m, hm⟩ := up_some e
      refine ⟨_, ?_, P_Replace_snoc n q k x m y z zx hs hx hp hm e, P_R10_Replace_snoc n q k x m y z zx hs hx hp hm e⟩
      have h2 := size_modP (q ++ [k]) n y (fun _ => x) e
      split
      · exact good_chk (sz_modP _ n y _ e z zx) (by omega)
      · exact good_zero 7
theorem good_ins (n : Node) (q : List Int) (k : Int) (x m : Node) (z : Sz n) (zx : Sz x) (hs : sizeN n ≤ 10000) (hx : sizeN x ≤ 1000) (hm : getN n q = some m) : Good (insE n q k m x) := by
  have hg := get_sz q n m hm z
  have h2 := size_modP q n m (fun m => withK m (insK m k x)) hm
  simp only [sizeN_withK] at h2
  have h3 := size_Insert m k x
  have e1 := sizeN_eq m
  unfold insE
  split
  · exact good_zero 5
  · split
    · exact good_chk (sz_modP _ n m _ hm z (sz_withK hg.1 (sz_ins hg.1 zx))) (by unfold insK at h2 ⊢; omega)
    · exact good_zero 7
theorem both_Insert (n : Node) (p : List Int) (x : Node) (z : Sz n) (zx : Sz x) (hs : sizeN n ≤ 10000) (hx : sizeN x ≤ 1000) (hp : p.length ≤ 9223372036854775807) : ∃ r, Good r ∧ F_path_Insert n p x = some r ∧ F_R10_Insert n p x = some r := by
  rcases snoc_cases p with rfl | ⟨q, k, rfl⟩
  · exact ⟨_, good_zero 5, P_Insert_nil n x, P_R10_Insert_nil n x⟩
  · cases hm : getN n q with
    | none => exact ⟨_, good_zero 5, P_Insert_none n q k x hp hm, P_R10_Insert_none n q k x hp hm⟩
    | some m => exact ⟨_, good_ins n q k x m z zx hs hx hm, P_Insert_snoc n q k x m z zx hs hx hp hm, P_R10_Insert_snoc n q k x m z zx hs hx hp hm⟩
theorem both_Remove (n : Node) (p : List Int) (z : Sz n) (hs : sizeN n ≤ 10000) (hp : p.length ≤ 9223372036854775807) : ∃ r, Good r ∧ F_path_Remove n p = some r ∧ F_R10_Remove n p = some r := by
  rcases snoc_cases p with rfl | ⟨q, k, rfl⟩
  · exact ⟨_, good_zero 5, P_Remove_nil n, P_R10_Remove_nil n⟩
  · cases e : getN n (q ++ [k]) with
    | none => exact ⟨_, good_zero 5, P_Remove_none n _ e, P_R10_Remove_none n _ hp e⟩
    | some y =>
      obtain ⟨m, hm⟩ := up_some e
      refine ⟨_, ?_, P_Remove_snoc n q k m y z hs hp hm e, P_R10_Remove_snoc n q k m y z hs hp hm e⟩
      have hg := get_sz q n m hm z
      have h2 := size_modP q n m (fun m => withK m (remK m k)) hm
      simp only [sizeN_withK] at h2
      have h3 := size_Remove m k
      have e1 := sizeN_eq m
      exact good_chk (sz_modP _ n m _ hm z (sz_withK hg.1 (sz_rem hg.1))) (by unfold remK at h2 ⊢; omega)
theorem P_PathChanges (n : Node) (p : List Int) (x : Node) (z : Sz n) (zx : Sz x) (hp : p.length ≤ 9223372036854775807) : F_L10_PathChanges n p x = some true := by
  obtain ⟨b, hb, hsz⟩ := P_small n
  obtain ⟨b2, hb2, hsz2⟩ := P_small x
  rw [E_F_L10_PathChanges, hb, bs]
  cases b with
  | false => rw [bnot_tt]; exact awk
  | true =>
    rw [bnot_ff, hb2, bs]
    cases b2 with
    | false => rw [bnot_tt]; exact awk
    | true =>
      have hs := hsz rfl
      have hs2 := hsz2 rfl
      obtain ⟨r1, g1, e1, f1⟩ := both_Replace n p x z zx (by omega) (by omega) hp
      obtain ⟨r2, g2, e2, f2⟩ := both_Insert n p x z zx (by omega) (by omega) hp
      obtain ⟨r3, g3, e3, f3⟩ := both_Remove n p z (by omega) hp
      rw [bnot_ff, e1, bs, f1, bs, e2, bs, f2, bs, e3, bs, f3, bs]
      rw [decide_eq_true rfl, ite_tt, decide_eq_true rfl, ite_tt, decide_eq_true rfl, ite_tt, eq_self g1.1 g1.2, bs, ite_tt, eq_self g2.1 g2.2, bs, ite_tt, eq_self g3.1 g3.2, bs, ite_tt]
      exact awk
/-! ### A tree that is replaced -/
theorem chk_cases (n : Node) : (chk n = (n, 0) ∧ checkErr n = 0) ∨ chk n = (zeroN, 7) := by
  unfold chk
  split
  · rename_i h; exact .inl ⟨rfl, h⟩
  · exact .inr rfl
theorem rep_cases (n : Node) (p : List Int) (x : Node) (z : Sz n) (zx : Sz x) (hs : sizeN n ≤ 10000) (hx : sizeN x ≤ 1000) (hp : p.length ≤ 9223372036854775807) :
    F_path_Replace n p x = some (zeroN, 5) ∨ F_path_Replace n p x = some (zeroN, 7) ∨
    ∃ y, getN n p = some y ∧ F_path_Replace n p x = some (modP n p (fun _ => x), 0) ∧ checkErr (modP n p (fun _ => x)) = 0 := by
  cases e : getN n p with
  | none => exact .inl (P_Replace_none n p x e)
  | some y =>
    rcases snoc_cases p with rfl | ⟨q, k, rfl⟩
    · have := P_Replace_nil n x zx (by omega)
      rcases chk_cases x with ⟨h, c⟩ | h
      · exact .inr (.inr ⟨y, rfl, by rw [this, h]; rfl, c⟩)
      · exact .inr (.inl (by rw [this, h]))
    · obtain ⟨m, hm⟩ := up_some e
      have := P_Replace_snoc n q k x m y z zx hs hx hp hm e
      cases hf : fits m.kind k x.kind with
      | false => rw [hf] at this; exact .inr (.inl this)
      | true =>
        rw [hf, if_pos rfl] at this
        rcases chk_cases (modP n (q ++ [k]) (fun _ => x)) with ⟨h, c⟩ | h
        · exact .inr (.inr ⟨y, rfl, by rw [this, h], c⟩)
        · exact .inr (.inl (by rw [this, h]))
theorem P_PathReplaces (n : Node) (p : List Int) (x : Node) (r : List Int) (z : Sz n) (zx : Sz x) (hp : p.length ≤ 9223372036854775807) (hr : r.length ≤ 9223372036854775807) : F_L10_PathReplaces n p x r = some true := by
  obtain ⟨b, hb, hsz⟩ := P_small n
  obtain ⟨b2, hb2, hsz2⟩ := P_small x
  rw [E_F_L10_PathReplaces, hb, bs]
  cases b with
  | false => rw [bnot_tt]; exact awk
  | true =>
    rw [bnot_ff, hb2, bs]
    cases b2 with
    | false => rw [bnot_tt]; exact awk
    | true =>
      have hs := hsz rfl
      have hs2 := hsz2 rfl
      rw [bnot_ff]
      rcases rep_cases n p x z zx (by omega) (by omega) hp with e | e | ⟨y, hy, e, hc⟩
      · rw [e, bs]; exact awk
      · rw [e, bs]; exact awk
      · rw [e, bs]
        simp only [decide_true, Bool.not_true, ite_ff]
        have hsm := size_modP p n y (fun _ => x) hy
        have zm := sz_modP p n y (fun _ => x) hy z zx
        have hg := get_modP p n y (fun _ => x) hy
        obtain ⟨b3, hb3, hsz3⟩ := P_small (modP n p (fun _ => x))
        have hrest : (F_R7_Check (modP n p (fun _ => x)) >>= fun x8 => if (!decide (x8 = (0 : Int))) = true then some false else
            F_path_Get (modP n p (fun _ => x)) p >>= fun x9 => if (!decide (x9.2 = (0 : Int))) = true then some false else
            F_R6_Equal x9.1 x >>= fun x10 => if (!x10) = true then some false else
            F_L10_begins p r >>= fun x11 => if x11 = true then F_L10_awake >>= fun x18 => some x18 else
            F_L10_begins r p >>= fun x12 => if x12 = true then F_L10_awake >>= fun x13 => some x13 else
            F_path_Get n r >>= fun x14 => F_path_Get (modP n p (fun _ => x)) r >>= fun x15 => if (decide (x14.2 = x15.2)) = true then
            F_R6_Equal x14.1 x15.1 >>= fun x16 => if x16 = true then F_L10_awake >>= fun x17 => some x17 else some false else some false) = some true := by
          have hG : getE (modP n p (fun _ => x)) p = (x, 0) := by unfold getE; rw [hg]
          rw [P_R7_Check _ zm (by omega), bs, hc, decide_eq_true rfl, bnot_ff, P_path_Get _ p zm (by omega), bs, hG]
          simp only [decide_true, Bool.not_true, ite_ff]
          rw [eq_self zx (by omega), bs, bnot_ff, P_begins p r hp, bs]
          cases b4 : beg p r with
          | true => rw [ite_tt]; exact awk
          | false =>
            rw [ite_ff, P_begins r p hr, bs]
            cases b5 : beg r p with
            | true => rw [ite_tt]; exact awk
            | false =>
              have ho := get_other p r n y (fun _ => x) hy b4 b5
              have hE : getE (modP n p (fun _ => x)) r = getE n r := by unfold getE; rw [ho]
              rw [ite_ff, P_path_Get n r z (by omega), bs, P_path_Get _ r zm (by omega), bs, hE, decide_eq_true rfl, ite_tt]
              have hz : Sz (getE n r).1 ∧ sizeN (getE n r).1 ≤ 1000000 := by
                unfold getE
                cases e : getN n r with
                | none => exact ⟨sz_zero, by decide⟩
                | some m => have := get_sz r n m e z; exact ⟨this.1, by show sizeN m ≤ _; omega⟩
              rw [eq_self hz.1 hz.2, bs, ite_tt]; exact awk
        rw [hb3, bs]
        cases b3 with
        | true => rw [bnot_ff]; exact hrest
        | false =>
          rw [bnot_tt]
          cases p with
          | nil => rw [modP] at hb3; rw [hb3] at hb2; cases hb2
          | cons k p =>
            rw [decide_eq_false (show ¬ (((k :: p).map Ex.ic).length : Int) = 0 by rw [List.length_map, List.length_cons]; omega), ite_ff]
            exact hrest
theorem P_PathBack (n : Node) (i : Int) (x : Node) (z : Sz n) (zx : Sz x) (hi : i ≤ 9223372036854775807) : F_L10_PathBack n i x = some true := by
  obtain ⟨b, hb, hsz⟩ := P_small n
  obtain ⟨b2, hb2, hsz2⟩ := P_small x
  rw [E_F_L10_PathBack, hb, bs]
  cases b with
  | false => rw [bnot_tt]; exact awk
  | true =>
    rw [bnot_ff, hb2, bs]
    cases b2 with
    | false => rw [bnot_tt]; exact awk
    | true =>
      have hs := hsz rfl
      have hs2 := hsz2 rfl
      rw [bnot_ff, P_R7_Check n z (by omega), bs]
      by_cases hc : checkErr n = 0
      · rw [decide_eq_true hc, bnot_ff, P_path_Of n (by omega) i hi, bs]
        by_cases c : 0 ≤ i ∧ i < sizeN n
        · rw [if_pos c]
          have sp := (of_spec n i.toNat (by omega)).1
          generalize hp : (ofL n i.toNat).map Int.ofNat = p at sp
          generalize hm : nodeAt n i.toNat = m at sp
          have hl := get_len p n m sp
          have hG : getE n p = (m, 0) := by unfold getE; rw [sp]
          have hgz := get_sz p n m sp z
          simp only [Bool.not_true, ite_ff]
          rw [P_path_Get n p z (by omega), bs, hG]
          simp only
          rcases rep_cases n p x z zx (by omega) (by omega) (by omega) with e | e | ⟨y, hy, e, hc2⟩
          · rw [e, bs]; exact awk
          · rw [e, bs]; exact awk
          · rw [e, bs]
            simp only [decide_true, Bool.not_true, ite_ff]
            have hsm := size_modP p n y (fun _ => x) hy
            have zm := sz_modP p n y (fun _ => x) hy z zx
            have hg := get_modP p n y (fun _ => x) hy
            have hback : modP (modP n p (fun _ => x)) p (fun _ => m) = n := by
              rw [modP_modP p n y _ _ hy]; exact modP_self p n m sp
            have hrep : F_path_Replace (modP n p (fun _ => x)) p m = some (n, 0) := by
              rcases snoc_cases p with rfl | ⟨q, k, rfl⟩
              · rw [P_Replace_nil _ m hgz.1 (by omega)]
                cases sp
                rw [chk_of hc]
              · obtain ⟨pm, h1, h2, h3, h4⟩ := getN_up sp
                have hms := modP_snoc q n pm k (fun _ => x) h1 h2 h3
                have hq := get_modP q n pm (fun m => .mk m.kind m.text m.gaps (m.kids.take k.toNat ++ [x] ++ m.kids.drop (k.toNat + 1))) h1
                rw [← hms] at hq
                have hl2 : (q ++ [k]).length ≤ 9223372036854775807 := by omega
                rw [P_Replace_snoc _ q k m _ x zm hgz.1 (by omega) (by omega) hl2 hq hg]
                have hf : fits pm.kind k m.kind = true := by rw [h4]; exact kid_fits (get_check q n pm h1 hc) h2 h3
                show some (if fits pm.kind k m.kind = true then _ else _) = _
                rw [if_pos hf, hback, chk_of hc]
            rw [hrep, bs]
            simp only [decide_true, ite_tt]
            rw [eq_self z (by omega), bs, ite_tt]; exact awk
        · rw [if_neg c]; exact awk
      · rw [decide_eq_false hc, bnot_tt]; exact awk
theorem kid_ins {m : Node} {k : Int} {x : Node} (h0 : 0 ≤ k) (h1 : k ≤ (m.kids.length : Int)) : kid (withK m (insK m k x)) k.toNat = x := by
  have hl : (m.kids.take k.toNat).length = k.toNat := by rw [List.length_take]; omega
  unfold kid withK insK
  show (m.kids.take k.toNat ++ [x] ++ m.kids.drop k.toNat).getD k.toNat nodeD = x
  rw [List.getD_eq_getElem?_getD, List.append_assoc, List.getElem?_append_right (by omega), hl, Nat.sub_self]; rfl
theorem rem_ins {m : Node} {k : Int} {x : Node} (h0 : 0 ≤ k) (h1 : k ≤ (m.kids.length : Int)) : remK (withK m (insK m k x)) k = m.kids := by
  have hl : (m.kids.take k.toNat).length = k.toNat := by rw [List.length_take]; omega
  unfold remK withK insK
  show (m.kids.take k.toNat ++ [x] ++ m.kids.drop k.toNat).take k.toNat ++ (m.kids.take k.toNat ++ [x] ++ m.kids.drop k.toNat).drop (k.toNat + 1) = m.kids
  rw [List.drop_left' (by rw [List.length_append, hl, List.length_singleton]), List.append_assoc, List.take_left' hl, List.take_append_drop]
theorem len_ins {m : Node} {k : Int} {x : Node} (h0 : 0 ≤ k) (h1 : k ≤ (m.kids.length : Int)) : (withK m (insK m k x)).kids.length = m.kids.length + 1 := by
  unfold withK insK
  show (m.kids.take k.toNat ++ [x] ++ m.kids.drop k.toNat).length = _
  simp only [List.length_append, List.length_take, List.length_drop, List.length_singleton]; omega
theorem withK_kind (n : Node) (ks : List Node) : (withK n ks).kind = n.kind ∧ (withK n ks).text = n.text ∧ (withK n ks).kids = ks ∧ ((withK n ks).gaps = n.gaps ∨ (withK n ks).gaps = []) := by
  refine ⟨rfl, rfl, rfl, ?_⟩
  unfold withK
  show (if _ then n.gaps else []) = n.gaps ∨ (if _ then n.gaps else []) = []
  split
  · exact .inl rfl
  · exact .inr rfl
theorem P_PathRemoves (n : Node) (p : List Int) (x : Node) (z : Sz n) (zx : Sz x) (hp : p.length ≤ 9223372036854775807) : F_L10_PathRemoves n p x = some true := by
  obtain ⟨b, hb, hsz⟩ := P_small n
  obtain ⟨b2, hb2, hsz2⟩ := P_small x
  rw [E_F_L10_PathRemoves, hb, bs]
  cases b with
  | false => rw [bnot_tt]; exact awk
  | true =>
    rw [bnot_ff, hb2, bs]
    cases b2 with
    | false => rw [bnot_tt]; exact awk
    | true =>
      have hs := hsz rfl
      have hs2 := hsz2 rfl
      rw [bnot_ff, P_R7_Check n z (by omega), bs]
      by_cases hc : checkErr n = 0
      · rw [decide_eq_true hc, bnot_ff]
        rcases snoc_cases p with rfl | ⟨q, k, rfl⟩
        · rw [P_Insert_nil, bs]; exact awk
        · cases hm : getN n q with
          | none => rw [P_Insert_none n q k x hp hm, bs]; exact awk
          | some m =>
            rw [P_Insert_snoc n q k x m z zx (by omega) (by omega) hp hm, bs]
            unfold insE
            by_cases ck : k < 0 ∨ (m.kids.length : Int) < k
            · rw [if_pos ck]; exact awk
            · rw [if_neg ck]
              have k0 : 0 ≤ k := by omega
              have k1 : k ≤ (m.kids.length : Int) := by omega
              cases hf : fits m.kind k x.kind with
              | false => exact awk
              | true =>
                rw [if_pos rfl]
                rcases chk_cases (modP n q (fun m => withK m (insK m k x))) with ⟨h, hc2⟩ | h
                · rw [h]
                  simp only [decide_true, Bool.not_true, ite_ff]
                  have hg := get_sz q n m hm z
                  have h2 := size_modP q n m (fun m => withK m (insK m k x)) hm
                  simp only [sizeN_withK] at h2
                  have h3 : sizeNL (insK m k x) ≤ sizeNL m.kids + sizeN x := size_Insert m k x
                  have e1 := sizeN_eq m
                  have zn := sz_modP q n m (fun m => withK m (insK m k x)) hm z (sz_withK hg.1 (sz_ins hg.1 zx))
                  have hq := get_modP q n m (fun m => withK m (insK m k x)) hm
                  generalize hn : modP n q (fun m => withK m (insK m k x)) = n' at h2 zn hq hc2
                  have hqx : getN n' (q ++ [k]) = some x := by
                    rw [getN_snoc, hq, Option.bind_some, if_pos ⟨k0, by rw [len_ins k0 k1]; omega⟩, kid_ins k0 k1]
                  have hG : getE n' (q ++ [k]) = (x, 0) := by unfold getE; rw [hqx]
                  have hlike : Like m (withK (withK m (insK m k x)) (remK (withK m (insK m k x)) k)) ∧ sameN (withK (withK m (insK m k x)) (remK (withK m (insK m k x)) k)) m = true := by
                    have w1 := withK_kind m (insK m k x)
                    have w2 := withK_kind (withK m (insK m k x)) (remK (withK m (insK m k x)) k)
                    have hk : (withK (withK m (insK m k x)) (remK (withK m (insK m k x)) k)).kids = m.kids := by rw [w2.2.2.1, rem_ins k0 k1]
                    refine ⟨like_node (by rw [w2.1, w1.1]) (by rw [w2.2.1, w1.2.1]) ?_ (by rw [hk]; exact .refl _), ?_⟩
                    · rcases w2.2.2.2 with g | g
                      · rw [g]; exact w1.2.2.2
                      · exact .inr g
                    · rw [sameN_eq, hk, w2.1, w1.1, w2.2.1, w1.2.1, sameNL_refl]; simp
                  have hback : modP n' q (fun m => withK m (remK m k)) = modP n q (fun m => withK (withK m (insK m k x)) (remK (withK m (insK m k x)) k)) := by
                    rw [← hn]; exact modP_modP q n m _ _ hm
                  have hchk : checkErr (modP n' q (fun m => withK m (remK m k))) = 0 := by
                    rw [hback]; exact like_check (like_modP q n m _ hm hlike.1) hc
                  have hsame : sameN (modP n' q (fun m => withK m (remK m k))) n = true := by
                    rw [hback]; exact same_modP q n m _ hm hlike.2
                  have hsz3 := size_modP q n' _ (fun m => withK m (remK m k)) hq
                  simp only [sizeN_withK] at hsz3
                  have h4 : sizeNL (remK (withK m (insK m k x)) k) = sizeNL m.kids := by rw [rem_ins k0 k1]
                  rw [P_path_Get n' _ zn (by omega), bs, hG, P_Remove_snoc n' q k _ x zn (by omega) hp hq hqx, bs, chk_of hchk]
                  simp only [decide_true, ite_tt]
                  rw [eq_self zx (by omega), bs, ite_tt, P_R6_Same _ n (by omega), bs, hsame, ite_tt]
                  exact awk
                · rw [h]; exact awk
      · rw [decide_eq_false hc, bnot_tt]; exact awk
end Go.Proofs.YtimdjillcaichaaDoorW.Ex.Gr
