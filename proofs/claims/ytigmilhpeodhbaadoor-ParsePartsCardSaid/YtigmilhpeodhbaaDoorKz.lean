/- The law ParseParts on the printed functions. Conditions: those in each theorem. -/
/- What comes in for the rows of the layer, and their contracts. Conditions: none beside those in each theorem. -/
import Derived.Test.YtigmilhpeodhbaaDoorCf
import Derived.Test.YtigmilhpeodhbaaDoorGk
import Derived.Test.YtigmilhpeodhbaaDoorRows
import Derived.LaidMore
import Derived.Stop.Joined
import Derived.Stop.LaidErr
import Derived.MakeChecks
import Derived.LaidLaws
import Derived.Lib.LaidTab
namespace Go.Proofs.YtigmilhpeodhbaaDoorW.Ex.Gr
open Go Go.Proofs.YtigmilhpeodhbaaDoorW.Ex Go.Proofs.YtigmilhpeodhbaaDoorW.Plain
set_option linter.all false
set_option maxRecDepth 100000
namespace Ps
open Tk
mutual
theorem qsd : ∀ (a b : Node), sameN a b → wdN a = wdN b
 | .mk k t g l, .mk k2 t2 g2 l2, h => by
   rw [sameN] at h
   obtain ⟨h1, h2, h3⟩ := h
   have h1 : k = k2 := h1
   have h2 : t = t2 := h2
   have h3 : Qk l l2 := h3
   rw [wdN, wdN, h1, h2, Ku h3, qoo l l2 h3]
theorem qoo : ∀ (a b : List Node), Qk a b → wdL a = wdL b
 | [], b, h => by rw [Qk] at h; rw [h]
 | n :: a, [], h => by rw [Qk] at h; exact h.elim
 | n :: a, m :: b, h => by rw [Qk] at h; rw [wdL, wdL, qsd n m h.1, qoo a b h.2]
end
theorem qio (n : Node) (l : BA) (v : Int) : (toks 0 n l v).map (·.2) = wdN n := qr5 (Zv n) n (Nat.le_refl _) l v
theorem qum {a b : Node} (h : sameN a b) (l : BA) (v : Int) : (toks 0 a l v).length = (toks 0 b l v).length := by
 have h1 := congrArg List.length (qio a l v)
 have h2 := congrArg List.length (qio b l v)
 rw [List.length_map] at h1 h2
 rw [h1, h2, qsd a b h]
inductive KE : List Node → List Node → Prop
 | nil : KE [] []
 | cons {a b : Node} {us ws : List Node} (l : BA) (v : Int) : toks 0 a l v = toks 0 b l v → KE us ws → KE (a :: us) (b :: ws)
theorem qf6 : ∀ (S : List Step) (g g' : List BA) (ks ks' : List Node), g.length = (wordsS S).length → g'.length = (wordsS S).length → ks'.length = nkS S → Qk ks ks' → uz S g (Zd 0 ks) = uz S g' (Zd 0 ks') → g = g' ∧ KE ks ks'
 | [], g, g', ks, ks', h1, h2, h3, hs, h => by
   have e1 : g = [] := List.length_eq_zero_iff.1 h1
   have e2 : g' = [] := List.length_eq_zero_iff.1 h2
   have e3 : ks' = [] := List.length_eq_zero_iff.1 h3
   subst e3
   have e4 : ks = [] := List.length_eq_zero_iff.1 (Ku hs)
   subst e4
   exact ⟨by rw [e1, e2], .nil⟩
 | .own c w :: S, g, g', ks, ks', h1, h2, h3, hs, h => by
   rw [wordsS, List.length_cons] at h1 h2
   cases g with
   | nil => simp at h1
   | cons x g =>
     cases g' with
     | nil => simp at h2
     | cons x' g' =>
       rw [List.length_cons] at h1 h2
       rw [uz, uz] at h
       obtain ⟨e1, e2⟩ := List.cons.inj h
       obtain ⟨q1, q2⟩ := qf6 S g g' ks ks' (by omega) (by omega) h3 hs e2
       exact ⟨by rw [(Prod.mk.inj e1).1, q1], q2⟩
 | .kid l v :: S, g, g', ks, ks', h1, h2, h3, hs, h => by
   rw [wordsS] at h1 h2
   rw [nkS] at h3
   cases ks' with
   | nil => simp at h3
   | cons m' ks' =>
     cases ks with
     | nil => rw [Qk] at hs; exact absurd hs (by simp)
     | cons m ks =>
       rw [Qk] at hs
       rw [Zd, Zd, uz, uz] at h
       obtain ⟨e1, e2⟩ := List.append_inj h (qum hs.1 l v)
       rw [List.length_cons] at h3
       obtain ⟨q1, q2⟩ := qf6 S g g' ks ks' h1 h2 (by omega) hs.2 e2
       exact ⟨q1, .cons l v e1 q2⟩
theorem qwi {k : Int} {t : BA} {g g' : List BA} {l l' : List Node} (h : l.length = l'.length) : own (.mk k t g l) = own (.mk k t g' l') := by
 unfold own
 show (if known k = false then 0 else if k = 8 then (if t = ⟨#[]⟩ then 0 else 2) else if k = 14 then (if l.length = 0 then 0 else 1) else if k = 3 then IntKind.i64.wrap (2 + max 0 ((l.length : Int) - 1)) else if k = 20 then IntKind.i64.wrap (3 + max 0 ((l.length : Int) - 1)) else if k = 21 then IntKind.i64.wrap (4 + max 0 ((l.length : Int) - 2)) else ownN k) = _
 rw [h]; rfl
theorem uniq : ∀ (j : Nat) (a b : Node), Zv b ≤ j → checkErr b = 0 → sameN a b → fullN a → fullN b → ∀ l v, toks 0 a l v = toks 0 b l v → a = b
 | 0, a, b, h, _, _, _, _, _, _, _ => by have := W9 b; omega
 | j + 1, .mk k t g ks, .mk k' t' g' ks', h, hc, hs, ha, hb, l, v, ht => by
   have w := wn hc
   have hz := qaa (.mk k' t' g' ks')
   rw [sameN] at hs
   obtain ⟨e1, e2, e3⟩ := hs
   have e1 : k = k' := e1
   have e2 : t = t' := e2
   have e3 : Qk ks ks' := e3
   subst e1 e2
   have hlen := Ku e3
   rw [qc7, qc7] at ht
   have ht : uz (stepsOf 0 k t ks.length l v) g (Zd 0 ks) = uz (stepsOf 0 k t ks'.length l v) g' (Zd 0 ks') := ht
   rw [hlen] at ht
   rw [fullN] at ha hb
   have o : own (.mk k t g' ks') = ((wordsS (stepsOf 0 k t ks'.length l v)).length : Int) := qwj 0 l v w.kn w.nk (by have := w.le; omega)
   have ob : (g'.length : Int) = ((wordsS (stepsOf 0 k t ks'.length l v)).length : Int) := hb.1.trans o
   have oa : (g.length : Int) = ((wordsS (stepsOf 0 k t ks'.length l v)).length : Int) := (ha.1.trans (qwi hlen)).trans o
   obtain ⟨q1, q2⟩ := qf6 (stepsOf 0 k t ks'.length l v) g g' ks ks' (by omega) (by omega) (q10 0 t l v w.kn w.nk).symm e3 ht
   have kids : ∀ (us ws : List Node), (∀ m ∈ ws, m ∈ ks') → Qk us ws → qjk us → qjk ws → KE us ws → us = ws := by
    intro us ws hm hs fa fb hk
    induction hk with
    | nil => rfl
    | @cons a b us ws l v e _ ih =>
      rw [Qk] at hs
      rw [qjk] at fa fb
      have hb := hm b (List.mem_cons_self ..)
      rw [uniq j a b (by have := qcd hb; have hz' : Zv (.mk k t g' ks') = Z7 ks' + 1 := hz; omega) (w.kids b hb) hs.1 fa.1 fb.1 l v e, ih (fun m h => hm m (List.mem_cons_of_mem _ h)) hs.2 fa.2 fb.2]
   rw [q1, kids ks ks' (fun _ h => h) e3 ha.2 hb.2 q2]
theorem qyq : ∀ (T : List Token) (last : BA), Adj last T → sfx last (tw T) = vr T := fun T last h => by
 have h1 := qr9 T [] last h
 rw [qr8, List.nil_append, List.nil_append] at h1
 exact h1
theorem qow (S : Nat) : ∀ (T : List Token) (last : BA) (f : Nat), (∀ x ∈ tw T, qcm x) → Adj last T → (vr T).length < f → ∃ m x, Ju S f (vr T) = .ok (m ++ [x]) ∧ tw m = tw T ∧ x.Lead = ⟨#[]⟩
 | [], last, 0, h, _, hf => by omega
 | [], last, f + 1, h, _, hf => ⟨[], _, by show Ju S (f + 1) [] = _; rw [Ju, if_pos (show qt [] = [] from rfl)]; rfl, rfl, rfl⟩
 | y :: T, last, 0, h, _, hf => by omega
 | y :: T, last, f + 1, h, ha, hf => by
   have e : vr (y :: T) = L y.Lead ++ (L y.Text ++ vr T) := by
    show (L y.Lead ++ L y.Text) ++ vr T = _
    rw [List.append_assoc]
   obtain ⟨hg, h3⟩ := h _ (List.mem_cons_self ..)
   have hT : ∀ x ∈ tw T, qcm x := fun x hx => h x (List.mem_cons_of_mem _ hx)
   have hap : qa2 (L y.Text) (vr T) := by
    have := qu5 y.Text h3 (tw T) (qs9 _ hT)
    rw [qyq T y.Text ha.2] at this
    exact this
   have h1 : qt (vr (y :: T)) = L y.Text ++ vr T := by
    rw [e, qup _ _ hg, qv5 h3 hap]
   have hn := qwn h3 hap
   have hne := (Tk.kind_cases h3).1
   have hlen : (vr T).length < f := by
    rw [e, List.length_append, List.length_append] at hf
    have : 0 < (L y.Text).length := List.length_pos_iff.2 hne
    omega
   obtain ⟨m, x, hm, ht, hx⟩ := qow S T y.Text f hT ha.2 hlen
   have hlead : (vr (y :: T)).take ((vr (y :: T)).length - (L y.Text ++ vr T).length) = L y.Lead := by
    rw [e, List.length_append, Nat.add_sub_cancel, List.take_left']; rfl
   rw [Ju, h1, if_neg (show ¬ (L y.Text ++ vr T) = [] by intro q; exact hne (List.append_eq_nil_iff.1 q).1), hn, if_neg (by exact h3)]
   simp only
   rw [show (L y.Text ++ vr T).drop (L y.Text).length = vr T from List.drop_left, hm, hlead]
   refine ⟨_ :: m, x, rfl, ?_, hx⟩
   show (_, _) :: tw m = (y.Lead, y.Text) :: tw T
   rw [ht]
   simp only [List.take_left]
   rw [qsr, qsr]
theorem q07 {T : List Token} {a b : BA} (h : Adj a T) (hb : ∀ g w : List UInt8, J6 (L b) g w = false) : Adj b T := by
 cases T with
 | nil => trivial
 | cons x T => exact ⟨hb _ _, h.2⟩
theorem qka : ∀ {T : List Token} {last : BA} {y : Token}, Adj last T → (∀ l : List UInt8, J6 l (L y.Lead) (L y.Text) = false) → Adj last (T ++ [y])
 | [], last, y, _, hy => ⟨hy _, trivial⟩
 | x :: T, last, y, h, hy => ⟨h.1, qka h.2 hy⟩
theorem qsa (c : UInt8) (h1 : letC c = false) (h2 : c ≠ 61) (h3 : c ≠ 47) (l : List UInt8) : J6 l [] [c] = false := by
 unfold J6
 rw [if_pos rfl]
 unfold qlv
 by_cases h : l = [] ∨ [c] = []
 ·rw [if_pos h]
 rw [if_neg h, if_neg (by rw [show [c].headD 0 = c from rfl, h1]; simp), decide_eq_false (show ¬ [c] = [61] from fun e => h2 (List.cons.inj e).1), decide_eq_false (show ¬ [c] = [61, 61] from fun e => h2 (List.cons.inj e).1), decide_eq_false (show ¬ [c] = [47] from fun e => h3 (List.cons.inj e).1)]
 simp
theorem qyo (c : UInt8) (h1 : letC c = false) (h2 : c ≠ 61) (h3 : c ≠ 47) (g w : List UInt8) : J6 [c] g w = false := by
 unfold J6
 split
 ·unfold qlv
  by_cases h : [c] = [] ∨ w = []
  ·rw [if_pos h]
  rw [if_neg h, if_neg (by rw [show [c].getLastD 0 = c from rfl, h1]; simp), decide_eq_false (show ¬ [c] = [61] from fun e => h2 (List.cons.inj e).1), decide_eq_false (show ¬ [c] = [47] from fun e => h3 (List.cons.inj e).1)]
  simp
 rw [decide_eq_false (show ¬ [c] = [47] from fun e => h3 (List.cons.inj e).1)]; rfl
theorem qji : ∀ {T : List Token} {x : Token}, Good (T ++ [x]) → ∀ y ∈ tw T, qcm y
 | [], x, h, y, hy => by cases hy
 | z :: T, x, h, y, hy => by
   rcases h.2 with ⟨h1, _⟩ | ⟨_, h0, h2, _, h3⟩
   ·exact absurd h1 (by simp)
   rcases List.mem_cons.1 hy with e | hy
   ·rw [e]
    exact ⟨qqq _ h.1.2.2, by show Qs (L z.Text) ≠ 0; rw [← h2]; exact h0⟩
   exact qji h3 y hy
def mk1 (c : UInt8) : Token := ⟨3, ⟨#[]⟩, ⟨#[c]⟩, 0⟩
theorem qgh {a b : List Token} (ha : ∀ y ∈ tw a, qcm y) (hb : ∀ y ∈ tw b, qcm y) : ∀ y ∈ tw (a ++ b), qcm y := fun y hy => by
 rw [Qw] at hy
 rcases List.mem_append.1 hy with hy | hy
 ·exact ha y hy
 exact hb y hy
theorem qq8 {c : UInt8} (h : Qs [c] ≠ 0) : ∀ y ∈ tw [mk1 c], qcm y := fun y hy => by
 rw [show tw [mk1 c] = [(⟨#[]⟩, ⟨#[c]⟩)] from rfl, List.mem_singleton] at hy
 rw [hy]
 exact ⟨rfl, h⟩
theorem qnm {a b : BA} (h : a.size + b.size ≤ 1000000) : cat a b = some (a ++ b) := by unfold cat; rw [if_pos (by omega)]
theorem qkl (a b : BA) : L (a ++ b) = L a ++ L b := by
 show (a ++ b).data.toList = _
 rw [ByteArray.data_append, Array.toList_append]
theorem qz0 {T : List Token} {n : Node} (h : WF n T) : T.map (·.Text) = wdN n := by
 have := qio n e0 0
 rw [h.tk] at this
 unfold tw at this
 rw [List.map_map] at this
 exact this
theorem qz1 {a b : List Token} (h : tw a = tw b) : a.map (·.Text) = b.map (·.Text) := by
 have := congrArg (List.map (fun x : Tok => x.2)) h
 unfold tw at this
 rw [List.map_map, List.map_map] at this
 exact this
theorem qov {s : BA} {T : List Token} (hs : s.size ≤ 4000) (hj : vr T = L s) (ha : Adj e0 T) (hg : ∀ x ∈ tw T, qcm x) : ∃ m x, Ju s.size (s.size + 1) (L s) = .ok (m ++ [x]) ∧ Good (m ++ [x]) ∧ (m ++ [x]).length ≤ 65537 ∧ tw m = tw T ∧ Ty m ∧ x.Kind = 4 ∧ x.Text = ⟨#[]⟩ ∧ x.Lead = ⟨#[]⟩ := by
 obtain ⟨m, x, hm, ht, hx⟩ := qow s.size T e0 (s.size + 1) hg ha (by rw [hj, Jv]; omega)
 rw [hj] at hm
 obtain ⟨gd, gl⟩ := qdx _ _ _ _ hm (by rw [Jv]; omega) (by rw [Jv]; omega)
 obtain ⟨ty, h4⟩ := qlu gd
 have h5 : x.Text = ⟨#[]⟩ := by
  have : ∀ (T : List Token), Good (T ++ [x]) → x.Text = ⟨#[]⟩ := by
   intro T
   induction T with
   | nil => exact fun h => (qfd (r := []) h h4).2
   | cons y T ih =>
     intro h
     rcases h.2 with ⟨h1, _⟩ | ⟨_, _, _, _, h3⟩
     ·exact absurd h1 (by simp)
     exact ih h3
  exact this m gd
 exact ⟨m, x, hm, gd, by rw [Jv] at gl; omega, ht, ty, h4, h5, hx⟩
theorem qsf {s : BA} {m : List Token} (ht : Ju s.size (s.size + 1) (L s) = .ok m) (hs : s.size ≤ 65536) : Tk.resT s = (m, 0, 0) := by
 unfold Tk.resT
 rw [if_neg (show ¬ 65536 < s.size by omega), ht]
 rfl
section
variable {a : BA} {n : Node} {T : List Token} (hs : a.size ≤ 2000) (hj : vr T = L a) (hadj : Adj e0 T) (hg : ∀ y ∈ tw T, qcm y) (hwf : WF n T) (hgr : zy n.kind = 3) (hc : checkErr n = 0)
include hs hj hadj hg hwf hgr hc
theorem q0l : ∃ g, Wq qjx ((⟨#[40]⟩ : BA) ++ a ++ (⟨#[41]⟩ : BA)) = limV (.mk 26 ⟨#[]⟩ g [n]) := by
 have hsz : ((⟨#[40]⟩ : BA) ++ a ++ (⟨#[41]⟩ : BA)).size = a.size + 2 := by
  rw [← Jv, qkl, qkl, List.length_append, List.length_append, Jv]
  show 1 + a.size + 1 = _
  omega
 have hLs : L ((⟨#[40]⟩ : BA) ++ a ++ (⟨#[41]⟩ : BA)) = vr (mk1 40 :: (T ++ [mk1 41])) := by
  rw [qkl, qkl]
  show ([40] ++ L a) ++ [41] = ([] ++ [40]) ++ vr (T ++ [mk1 41])
  rw [qjf, hj]; rfl
 obtain ⟨m, x, hm, gd, gl, ht, ty, h4, h5, h6⟩ := qov (T := mk1 40 :: (T ++ [mk1 41])) (by omega) hLs.symm
  ⟨by decide, qka (q07 hadj (fun g w => qyo 40 (by decide) (by decide) (by decide) g w)) (fun l => qsa 41 (by decide) (by decide) (by decide) l)⟩
  (qgh (a := [mk1 40]) (qq8 (by decide)) (qgh hg (qq8 (by decide))))
 have hw1 : WF (.mk 26 ⟨#[]⟩ [(mk1 40).Lead, (mk1 41).Lead] [n]) (mk1 40 :: (T ++ [mk1 41])) := q0b rfl hwf hgr rfl rfl rfl
 obtain ⟨n1, c⟩ := qrv _ _ (Nat.le_refl _) hw1.fe rfl m ((qz1 ht).trans (qz0 hw1)) ty
 have hy : qjx (m ++ [x]) = .ok (n1, [x]) := qp4 (c.bin 1 [x] (by decide) (by decide) (by show (1 : Int) ≤ 7; decide) (qvt h5) _ (Nat.le_refl _)) h4 h6
 obtain ⟨T', x', hTx, _, _, _, ⟨hwf1, _⟩, _⟩ := qtd gd gl hy
 obtain ⟨rfl, _⟩ := List.append_inj' hTx rfl
 have hsm := c.same
 obtain ⟨k, t, g, ks⟩ := n1
 rw [sameN] at hsm
 obtain ⟨q1, q2, q3⟩ := hsm
 have q1 : k = 26 := q1
 have q2 : t = ⟨#[]⟩ := q2
 have q3 : Qk ks [n] := q3
 subst q1 q2
 have hl := Ku q3
 obtain ⟨k', rfl⟩ := List.length_eq_one_iff.1 hl
 rw [Qk] at q3
 have fu := hwf1.fu
 rw [fullN] at fu
 have hg2 : (g.length : Int) = 2 := fu.1
 obtain ⟨y1, y2, rfl⟩ := two (show g.length = 2 by omega)
 have e1 := hwf1.tk e0 0
 rw [qc7] at e1
 have e1 : (y1, (⟨#[40]⟩ : BA)) :: (toks 0 k' e0 0 ++ [(y2, (⟨#[41]⟩ : BA))]) = tw m := e1
 rw [ht] at e1
 have e1 : (y1, (⟨#[40]⟩ : BA)) :: (toks 0 k' e0 0 ++ [(y2, (⟨#[41]⟩ : BA))]) = ((mk1 40).Lead, (mk1 40).Text) :: tw (T ++ [mk1 41]) := e1
 rw [Qw] at e1
 have e2 := (List.append_inj' (List.cons.inj e1).2 rfl).1
 have hkn : k' = n := uniq (Zv n) k' n (Nat.le_refl _) hc q3.1 (qgi fu.2 (List.mem_cons_self ..)) hwf.fu e0 0 (by rw [e2, hwf.tk])
 refine ⟨[y1, y2], ?_⟩
 unfold Wq
 rw [qsf hm (by omega)]
 show (if (0 : Int) = 0 then finV (qjx (m ++ [x])) else _) = _
 rw [if_pos rfl, hy, hkn]; rfl
theorem q1x : ∃ g, Wq qoe (a ++ (⟨#[59]⟩ : BA)) = limV (.mk 16 ⟨#[]⟩ g [n]) := by
 have hsz : (a ++ (⟨#[59]⟩ : BA)).size = a.size + 1 := by
  rw [← Jv, qkl, List.length_append, Jv]; rfl
 have hLs : L (a ++ (⟨#[59]⟩ : BA)) = vr (T ++ [mk1 59]) := by
  rw [qkl, qjf, hj]; rfl
 obtain ⟨m, x, hm, gd, gl, ht, ty, h4, h5, h6⟩ := qov (T := T ++ [mk1 59]) (by omega) hLs.symm
  (qka hadj (fun l => qsa 59 (by decide) (by decide) (by decide) l)) (qgh hg (qq8 (by decide)))
 have hw1 : WF (.mk 16 ⟨#[]⟩ [(mk1 59).Lead] [n]) (T ++ [mk1 59]) := W_do hwf hgr rfl rfl
 obtain ⟨n1, hsm, c⟩ := (C_sb _ _ (Nat.le_refl _) hw1.fe m ((qz1 ht).trans (qz0 hw1)) ty).1 rfl
 have hy : qoe (m ++ [x]) = .ok (n1, [x]) := qp4 (c [x] ⟨x, [], rfl, by rw [h5]; decide⟩ _ (Nat.le_refl _)) h4 h6
 obtain ⟨T', x', hTx, _, _, _, ⟨hwf1, _⟩, _⟩ := qyn gd gl hy
 obtain ⟨rfl, _⟩ := List.append_inj' hTx rfl
 obtain ⟨k, t, g, ks⟩ := n1
 rw [sameN] at hsm
 obtain ⟨q1, q2, q3⟩ := hsm
 have q1 : k = 16 := q1
 have q2 : t = ⟨#[]⟩ := q2
 have q3 : Qk ks [n] := q3
 subst q1 q2
 have hl := Ku q3
 obtain ⟨k', rfl⟩ := List.length_eq_one_iff.1 hl
 rw [Qk] at q3
 have fu := hwf1.fu
 rw [fullN] at fu
 have hg2 : (g.length : Int) = 1 := fu.1
 obtain ⟨y2, rfl⟩ := List.length_eq_one_iff.1 (show g.length = 1 by omega)
 have e1 := hwf1.tk e0 0
 rw [qc7] at e1
 have e1 : toks 0 k' e0 0 ++ [(y2, (⟨#[59]⟩ : BA))] = tw m := e1
 rw [ht, Qw] at e1
 have e2 := (List.append_inj' e1 rfl).1
 have hkn : k' = n := uniq (Zv n) k' n (Nat.le_refl _) hc q3.1 (qgi fu.2 (List.mem_cons_self ..)) hwf.fu e0 0 (by rw [e2, hwf.tk])
 refine ⟨[y2], ?_⟩
 unfold Wq
 rw [qsf hm (by omega)]
 show (if (0 : Int) = 0 then finV (qoe (m ++ [x])) else _) = _
 rw [if_pos rfl, hy, hkn]; rfl
end
theorem L9_Parts (a : BA) : Jo a = some true := by
 unfold Jo
 by_cases hs : 2000 < a.size
 ·rw [if_pos (decide_eq_true (by omega)), qns]; rfl
 rw [if_neg (by rw [decide_eq_true_eq]; omega), qro, bs]
 by_cases h0 : (Wq qjx a).2.1 = 0
 ·rw [decide_eq_true h0, nff]
  obtain ⟨m, n, r, gd, gl, ht, _, hy, e, h3, hw⟩ := qyt h0 qzt
  obtain ⟨T, x, hm, h4, h5, h6, ⟨hwf, hgr⟩, _⟩ := qtd gd gl hy
  have hc := qrf hwf.fe h3
  obtain ⟨f1, f2⟩ := que ht
  rw [hm] at f1 f2 gd
  rw [qjf] at f1
  have ej : vr [x] = [] := by
   show L x.Lead ++ L x.Text ++ [] = []
   rw [h5, h6]; rfl
  rw [ej, List.append_nil] at f1
  have hadj := qtl T [x] e0 f2
  have hgw := qji gd
  rw [e]
  have hs' : a.size ≤ 2000 := by omega
  have h58 : kz a n = some true := by
   unfold kz
   obtain ⟨g, e2⟩ := q1x hs' f1 hadj hgw hwf hgr hc
   rw [qnm (by show a.size + 1 ≤ 1000000; omega), bs, qx1, e2, bs, qns, bs, if_pos rfl]
   unfold limV
   split
   ·rfl
   rw [if_neg (by show ¬ decide ((0 : Int) = 3) = true; decide), if_pos (by rfl), if_pos (by rfl), if_pos (by rfl)]
   show (some n >>= fun x12 => wh x12 n >>= fun x13 => some x13) = some true
   rw [bs, qjz n hw]; rfl
  rw [qnm (by show 1 + a.size ≤ 1000000; omega), bs, qnm (by rw [← Jv, qkl, List.length_append, Jv]; show 1 + a.size + 1 ≤ 1000000; omega), bs, qro]
  obtain ⟨g, e1⟩ := q0l hs' f1 hadj hgw hwf hgr hc
  rw [e1, bs]
  unfold limV
  split
  ·exact h58
  rw [if_pos (by show (!decide ((0 : Int) = 3)) = true; decide), if_neg (by show ¬ (!decide ((0 : Int) = 0)) = true; decide), if_neg (by show ¬ (!decide ((26 : Int) = 26)) = true; decide), if_neg (by show ¬ (!decide ((1 : Int) = 1)) = true; decide)]
  show (some n >>= fun x7 => wh x7 n >>= fun x8 => if (!x8) = true then some false else kz a n) = some true
  rw [bs, qjz n hw, bs, nff]
  exact h58
 rw [decide_eq_false h0, ntt, qns]; rfl
end Ps
end Go.Proofs.YtigmilhpeodhbaaDoorW.Ex.Gr

namespace Go.Proofs.YtigmilhpeodhbaaDoorW.Ex.Gr
open Go Go.RowKit Go.Proofs.YtigmilhpeodhbaaDoorW.Ex Go.Proofs.YtigmilhpeodhbaaDoor
set_option linter.all false
set_option maxRecDepth 100000
theorem qz9 {P : Program} {W : World} {nm : String} {g : Nat} {vs : Array Value} {cs : List AV} (hg : P.globalNamed nm = some g) (hv : W.var? P nm = some vs) (hl : vs.size = cs.length)
 (h : ∀ (i : Nat) (x : AV), cs[i]? = some x → x.one = true ∧ ∃ v, vs[i]? = some v ∧ ∀ β, RV W (· < W.heap.size) β 0 x v) (β : Nat → Nat) (n : Nat) : GV W (· < W.heap.size) β n g cs := by
 unfold World.var? at hv
 rw [hg, Option.bind_some] at hv
 cases hb : W.heap[g]? with
 | none => rw [hb] at hv; cases hv
 | some o =>
   rw [hb] at hv
   cases o with
   | cells c t fr =>
     simp only [Option.some.injEq] at hv
     subst hv
     have hlt : g < W.heap.size := (Array.getElem?_eq_some_iff.1 hb).1
     refine ⟨.rptr cs g 0 (fun i => c.getD i Go.undef) (fun _ => hlt) (fun i x hi => (h i x hi).1) (fun i x hi => ?_) (fun i x hi => ?_), fun _ => ⟨t, ?_⟩⟩
     ·obtain ⟨_, v, hv, _⟩ := h i x hi
      unfold World.cell?
      rw [hb, Nat.zero_add]
      show c[i]? = some (c.getD i Go.undef)
      rw [Array.getD_eq_getD_getElem?, hv]; rfl
     ·obtain ⟨_, v, hv, hr⟩ := h i x hi
      rw [Array.getD_eq_getD_getElem?, hv]
      exact hr β
     unfold World.shape?
     rw [hb]
     show some (t, c.size) = _
     rw [hl]
   | _ => cases hv
theorem q0y {W : World} (β : Nat → Nat) (n g : Nat) : GV W (· < W.heap.size) β n g [] := ⟨.rptr [] g 0 (fun _ => Go.undef) (by simp) (by simp) (by simp) (by simp), fun h => absurd rfl h⟩
theorem qz3 : "*" ++ "errors.errorString" = "*errors.errorString" := by decide
theorem q02 (u : TypeId) (h : Tryd.prog.typeName? 3 u = some "*errors.errorString") : u = 109 :=
 typeName_ptr_named (nm := "errors.errorString") (by rw [qz3]; kernel_rfl) (by kernel_rfl) (by decide) u (by rw [qz3]; exact h)
theorem qxa {W : World} {nm : String} {g ti : Nat} {text : List UInt8} {r : List (String × DataW Unit)} {ms : Array (String × TypeId)} (h : laidMet Tryd.prog ((nm, .iface "*errors.errorString" (.ptr (.agg [.lit (.string text)]))) :: r) W)
 (hg : Tryd.prog.globalNamed nm = some g) (ht : (Tryd.prog.globals[g]?).map (·.type) = some ti) (hi : Tryd.prog.underlying ti = some (.interface ms)) (β : Nat → Nat) (n : Nat) : GV W (· < W.heap.size) β n g [.iface 109 .undef] := by
 obtain ⟨a0, s0, hv0, -, -, -⟩ := laid_sentinel h hg ht hi q02 Tryd.underlying109 Tryd.underlying111 rfl rfl Tryd.underlying9 (by kernel_rfl) (by kernel_rfl)
 refine qz9 hg hv0 rfl (fun i x hx => ?_) β n
 match i, hx with
 | 0, hx => cases hx; exact ⟨rfl, _, rfl, fun _ => .iface _ _ _ (.undef _)⟩
theorem qwd : (Rows.laid_internal_strconv_uint64pow10 : DataW Unit) = Lib.tabData .u64 Lib.pow10Tab := by kernel_rfl
theorem glaidP {W : World} (hL : laidMetH Tryd.prog [("math/bits.deBruijn32tab", Rows.laid_math_bits_deBruijn32tab), ("math/bits.deBruijn64tab", Rows.laid_math_bits_deBruijn64tab), ("internal/strconv.uint64pow10", Rows.laid_internal_strconv_uint64pow10), ("strconv.ErrRange", Rows.laid_strconv_ErrRange), ("strconv.ErrSyntax", Rows.laid_strconv_ErrSyntax), ("treemerge/grammar.shapes", Rows.laid_treemerge_grammar_shapes)] W) : ∀ g β n, GV W (· < W.heap.size) β n g (G g) := by
 rw [MakeChecks.laidMetH_plain _ _ _ (by kernel_rfl)] at hL
 have h3 := hL.tail.tail
 have hS := h3.tail.tail.tail
 intro g β n
 unfold G
 by_cases g0 : g = 0
 ·rw [if_pos g0]
  subst g0
  obtain ⟨ps, ⟨g0, t0, cs0, f0, p0, q0, hg0, ht0, hv0, hd0, _, _⟩, _, _⟩ := hS
  obtain rfl := Option.some.inj (qxd.symm.trans hg0)
  obtain rfl := Option.some.inj (q0z.symm.trans ht0)
  obtain ⟨l, hl, ⟨ds, hds, hE⟩, hR⟩ := qqx (P := Tryd.prog) Tryd.underlying80 (by kernel_rfl) qlf qyu qxd hv0 hd0
  obtain ⟨_, _, _, _, hlen, _⟩ := DataW.trod_array Tryd.underlying80 hd0
  have e1 := qxk qnk (fun _ _ _ h => h) hE
  have e3 : ds = dA (Rows.laid_treemerge_grammar_shapes : DataW Unit) := by
   have : (DataW.agg ds : DataW Unit) = Rows.laid_treemerge_grammar_shapes := hds.symm
   rw [← this]; rfl
  rw [e3, ← qom] at e1
  refine ⟨by rw [← e1]; exact hR β n, fun _ => ?_⟩
  have h162 : (shapes.map Shape.cells).flatten.length = Tryd.prog.cellsOf 80 := by kernel_rfl
  unfold World.var? at hv0
  rw [qxd, Option.bind_some] at hv0
  cases hb : W.heap[0]? with
  | none => rw [hb] at hv0; cases hv0
  | some o =>
    rw [hb] at hv0
    cases o with
    | cells c t fr =>
      simp only [Option.some.injEq] at hv0
      subst hv0
      refine ⟨t, ?_⟩
      unfold World.shape?
      rw [hb]
      show some (t, c.size) = _
      rw [h162, ← hlen, Array.length_toList]
    | _ => cases hv0
 rw [if_neg g0]
 by_cases g1 : g = 2
 ·rw [if_pos g1]
  subst g1
  exact qxa (ti := 71) h3.tail.tail (by kernel_rfl) (by kernel_rfl) Tryd.underlying71 β n
 rw [if_neg g1]
 by_cases g2 : g = 3
 ·rw [if_pos g2]
  subst g2
  exact qxa (ti := 71) h3.tail (by kernel_rfl) (by kernel_rfl) Tryd.underlying71 β n
 rw [if_neg g2]
 by_cases g3 : g = 4
 ·rw [if_pos g3]
  subst g3
  rw [qwd] at h3
  have hg : Tryd.prog.globalNamed "internal/strconv.uint64pow10" = some 4 := by kernel_rfl
  have ht := Lib.tabIs_of_head (t := 113) (e := 94) (n := 20) hg (by kernel_rfl) Tryd.underlying113 Tryd.underlying94 (by kernel_rfl) (by kernel_rfl) h3
  refine qz9 hg ht (by simp) (fun i x hx => ?_) β n
  rw [List.getElem?_map] at hx
  obtain ⟨z, hz, rfl⟩ := Option.map_eq_some_iff.1 hx
  refine ⟨rfl, .int .u64 z, ?_, fun _ => .int _ _⟩
  rw [List.getElem?_toArray, List.getElem?_map, hz]; rfl
 rw [if_neg g3]
 exact q0y β n g
theorem L9_ParseParts (a : ByteArray) (_ : a.size ≤ 140737488351232) : Wv a true := qfy a true (Ps.L9_Parts a)
end Go.Proofs.YtigmilhpeodhbaaDoorW.Ex.Gr
