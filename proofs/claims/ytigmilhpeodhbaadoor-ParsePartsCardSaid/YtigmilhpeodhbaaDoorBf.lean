/- The source is the tokens side by side. Conditions: those in each theorem. What is read of a source. Conditions: those in each theorem. -/
import Derived.Test.YtigmilhpeodhbaaDoorB1
import Derived.Test.YtigmilhpeodhbaaDoorKb
namespace Go.Proofs.YtigmilhpeodhbaaDoorW.Ex.Gr
open Go Go.Proofs.YtigmilhpeodhbaaDoorW.Ex Go.Proofs.YtigmilhpeodhbaaDoorW.Plain
set_option linter.all false
set_option maxRecDepth 100000
namespace Ps
open Tk
def Adj : BA → List Token → Prop
 | _, [] => True
 | last, x :: r => J6 (L last) (L x.Lead) (L x.Text) = false ∧ Adj x.Text r
theorem qoq : ∀ (l : List UInt8) (c : UInt8), (l.drop (Tk.runL l)).head? = some c → letC c = false
 | [], c, h => by cases h
 | d :: l, c, h => by
   rw [Tk.runL] at h
   by_cases hd : letC d = true
   ·rw [if_pos hd, List.drop_succ_cons] at h
    exact qoq l c h
   rw [if_neg hd] at h
   cases h
   simpa using hd
theorem qqt (r : List UInt8) (h : (j6 r).2 ≠ 0) : qa2 (r.take (j6 r).1) (r.drop (j6 r).1) := by
 cases r with
 | nil => exact absurd rfl h
 | cons c l =>
   cases hw : letC c with
   | true =>
     have hr := qh3 l hw
     have hn : (j6 (c :: l)).1 = Tk.runL (c :: l) := by
      cases hd : digC c with
      | true =>
        rw [qbe l hd] at h ⊢
        by_cases hi : y7 ((c :: l).take (Tk.runL (c :: l))) = true
        ·rw [if_pos hi]
        rw [if_neg hi] at h; exact absurd rfl h
      | false =>
        rw [qbd l hw hd] at h ⊢
        by_cases hi : Tk.runL (c :: l) ≤ 32
        ·rw [if_pos hi]
        rw [if_neg hi] at h; exact absurd rfl h
     rw [hn]
     obtain ⟨k, hk⟩ : ∃ k, Tk.runL (c :: l) = k + 1 := ⟨Tk.runL (c :: l) - 1, by omega⟩
     intro d hd
     refine ⟨fun e => ?_, fun e => ?_, fun e => ?_⟩
     ·rw [qoq _ _ hd] at e; exact absurd e.2 (by decide)
     ·have e1 := e.1
      rw [hk, List.take_succ_cons] at e1
      have e2 := (List.cons.inj e1).1
      rw [e2] at hw
      exact absurd hw (by decide)
     have e1 := e.1
     rw [hk, List.take_succ_cons] at e1
     have e2 := (List.cons.inj e1).1
     rw [e2] at hw
     exact absurd hw (by decide)
   | false =>
     cases hm : Yb c with
     | false => rw [qe2 l hw hm] at h; exact absurd rfl h
     | true =>
       rw [Wr l hw hm] at h ⊢
       by_cases h1 : c = 47 ∧ l.head? = some 47
       ·rw [if_pos h1] at h; exact absurd rfl h
       rw [if_neg h1]
       by_cases h2 : c = 61 ∧ l.head? = some 61
       ·rw [if_pos h2]
        obtain ⟨rfl, h2⟩ := h2
        cases l with
        | nil => cases h2
        | cons d l =>
          cases h2
          intro d hd
          have ht : List.take (2, (3 : Int)).1 (61 :: 61 :: l) = [61, 61] := rfl
          rw [ht]
          refine ⟨fun e => absurd e.1 (by decide), fun e => absurd e.1 (by decide), fun e => absurd e.1 (by decide)⟩
       rw [if_neg h2]
       intro d hd
       have hd' : l.head? = some d := hd
       refine ⟨fun e => ?_, fun e => ?_, fun e => ?_⟩
       ·have : letC c = true := e.1
        rw [hw] at this; exact absurd this (by decide)
       ·have e1 : c = 61 := (List.cons.inj e.1).1
        exact h2 ⟨e1, by rw [hd', e.2]⟩
       have e1 : c = 47 := (List.cons.inj e.1).1
       exact h1 ⟨e1, by rw [hd', e.2]⟩
theorem qof {last : BA} {l g w : List UInt8} (ha : qa2 (L last) l) (h : ∃ q, l = g ++ (w ++ q)) : J6 (L last) g w = false := by
 obtain ⟨q, hq⟩ := h
 unfold J6
 by_cases hg : g = []
 ·rw [if_pos hg]
  unfold qlv
  by_cases h0 : L last = [] ∨ w = []
  ·rw [if_pos h0]
  rw [if_neg h0]
  cases w with
  | nil => exact absurd (.inr rfl) h0
  | cons c w =>
    have hc : l.head? = some c := by rw [hq, hg]; rfl
    obtain ⟨a1, a2, a3⟩ := ha c hc
    rw [if_neg (by exact a1)]
    have b2 : (decide (L last = [61]) && (decide (c :: w = [61]) || decide (c :: w = [61, 61]))) = false := by
     by_cases e1 : L last = [61]
     ·have : c ≠ 61 := fun e => a2 ⟨e1, e⟩
      rw [decide_eq_false (show ¬ c :: w = [61] from fun e => this (List.cons.inj e).1), decide_eq_false (show ¬ c :: w = [61, 61] from fun e => this (List.cons.inj e).1)]
      simp
     rw [decide_eq_false e1]; rfl
    have b3 : (decide (L last = [47]) && decide (c :: w = [47])) = false := by
     by_cases e1 : L last = [47]
     ·have : c ≠ 47 := fun e => a3 ⟨e1, e⟩
      rw [decide_eq_false (show ¬ c :: w = [47] from fun e => this (List.cons.inj e).1)]
      simp
     rw [decide_eq_false e1]; rfl
    rw [b2, b3]; rfl
 rw [if_neg hg]
 cases g with
 | nil => exact absurd rfl hg
 | cons c g =>
   have hc : l.head? = some c := by rw [hq]; rfl
   obtain ⟨_, _, a3⟩ := ha c hc
   by_cases e1 : L last = [47]
   ·rw [decide_eq_true e1, Bool.true_and, decide_eq_false]
    intro e
    exact a3 ⟨e1, Option.some.inj e⟩
   rw [decide_eq_false e1]; rfl
def vr (m : List Token) : List UInt8 := (m.map fun x => L x.Lead ++ L x.Text).flatten
theorem qqz (l : List UInt8) : l = l.take (l.length - (qt l).length) ++ qt l := by
 obtain ⟨p, hp⟩ := qey l
 have hlen := congrArg List.length hp
 rw [List.length_append] at hlen
 have e : l.length - (qt l).length = p.length := by omega
 rw [e]
 conv => lhs; rw [hp]
 congr 1
 conv => rhs; rw [hp]
 rw [List.take_left']; rfl
theorem qod (S : Nat) : ∀ (f : Nat) (l : List UInt8) (m : List Token), Ju S f l = .ok m → l.length < f → vr m = l ∧ ∀ last, qa2 (L last) l → Adj last m
 | 0, l, m, _, h => absurd h (Nat.not_lt_zero _)
 | f + 1, l, m, h, hf => by
   have hr := Wk l
   have hs := qqz l
   rw [Ju] at h
   by_cases h0 : qt l = []
   ·rw [if_pos h0] at h
    cases h
    refine ⟨?_, fun last ha => ⟨qof ha ⟨[], ?_⟩, trivial⟩⟩
    ·show L (ofB l) ++ [] ++ [] = l
     rw [qcx, List.append_nil, List.append_nil]
    show l = L (ofB l) ++ ([] ++ [])
    rw [qcx]; simp
   rw [if_neg h0] at h
   have hn := qh8 (qt l)
   by_cases h2 : (j6 (qt l)).2 = 0
   ·rw [if_pos h2] at h; cases h
   rw [if_neg h2] at h
   have hpos := qi7 (qt l) h2
   cases h3 : Ju S f ((qt l).drop (j6 (qt l)).1) with
   | error e => rw [h3] at h; cases h
   | ok m' =>
     rw [h3] at h
     cases h
     have hd : ((qt l).drop (j6 (qt l)).1).length = (qt l).length - (j6 (qt l)).1 := List.length_drop
     obtain ⟨g1, g2⟩ := qod S f _ m' h3 (by omega)
     have hl : l = l.take (l.length - (qt l).length) ++ ((qt l).take (j6 (qt l)).1 ++ (qt l).drop (j6 (qt l)).1) := by rw [List.take_append_drop]; exact hs
     refine ⟨?_, fun last ha => ⟨?_, g2 _ ?_⟩⟩
     ·show (L (ofB _) ++ L (ofB _)) ++ vr m' = l
      rw [g1, qcx, qcx, List.append_assoc]
      exact hl.symm
     ·show J6 (L last) (L (ofB _)) (L (ofB _)) = false
      rw [qcx, qcx]
      exact qof ha ⟨_, hl⟩
     show qa2 (L (ofB _)) _
     rw [qcx]
     exact qqt _ h2
theorem qr9 : ∀ (T : List Token) (s : List UInt8) (last : BA), Adj last T → (srcL (tw T) s last).1 = s ++ vr T
 | [], s, last, _ => by show s = s ++ []; rw [List.append_nil]
 | x :: T, s, last, h => by
   show (srcL (tw T) (outL s (L last) (L x.Lead) (L x.Text)) x.Text).1 = s ++ ((L x.Lead ++ L x.Text) ++ vr T)
   rw [qr9 T _ x.Text h.2]
   unfold outL
   rw [h.1, if_neg (by decide), List.nil_append, List.append_assoc, List.append_assoc]
theorem qtl : ∀ (a b : List Token) (last : BA), Adj last (a ++ b) → Adj last a
 | [], b, last, h => trivial
 | x :: a, b, last, h => ⟨h.1, qtl a b _ h.2⟩
end Ps
end Go.Proofs.YtigmilhpeodhbaaDoorW.Ex.Gr

namespace Go.Proofs.YtigmilhpeodhbaaDoorW.Ex.Gr
open Go Go.Proofs.YtigmilhpeodhbaaDoorW.Ex Go.Proofs.YtigmilhpeodhbaaDoorW.Plain
set_option linter.all false
set_option maxRecDepth 100000
namespace Ps
open Tk
theorem qyt {c : List Token → Rs Node} {s : BA} (h : (Wq c s).2.1 = 0) (hc : ∀ m, Good m → m.length ≤ 65537 → Q m (fun n r => wfB n = true) (c m)) :
 ∃ m n r, Good m ∧ m.length ≤ 65537 ∧ Ju s.size (s.size + 1) (L s) = .ok m ∧ s.size ≤ 65536 ∧ c m = .ok (n, r) ∧ (Wq c s).1 = n ∧ checkErr n ≠ 3 ∧ wfB n = true := by
 unfold Wq at h ⊢
 rcases qa8 s with ⟨m, e, hg, hl, ht, hs⟩ | ⟨e, _⟩
 ·rw [e, if_pos rfl] at h ⊢
  have q := hc m hg hl
  cases hy : c m with
  | error u => simp only [hy] at h; exact absurd h (by simp [finV])
  | ok y =>
    simp only [hy] at h q ⊢
    have h' : (limV y.1).2.1 = 0 := h
    have hne : checkErr y.1 ≠ 3 := fun e3 => by
     unfold limV at h'
     rw [if_pos e3] at h'
     exact absurd h' (by decide)
    refine ⟨m, y.1, y.2, hg, hl, ht, hs, hy, ?_, hne, q.2.2⟩
    show (limV y.1).1 = y.1
    unfold limV
    rw [if_neg hne]
 rw [if_neg e] at h
 exact absurd h e
theorem qrf {n : Node} (h : firstErr n = 0) (h3 : checkErr n ≠ 3) : checkErr n = 0 := by
 unfold checkErr at h3 ⊢
 cases hs : size? n 60 with
 | none => rw [hs] at h3; exact absurd rfl h3
 | some k =>
   rw [hs] at h3
   simp only at h3 ⊢
   by_cases hk : k ≤ 4000
   ·rw [if_pos hk]; exact h
   rw [if_neg hk] at h3; exact absurd rfl h3
theorem q0a {m : List Token} (h : Good m) (hl : m.length ≤ 65537) : Gd m := ⟨h, by omega⟩
theorem qfd {x : Token} {r : List Token} (h : Good (x :: r)) (h4 : x.Kind = 4) : r = [] ∧ x.Text = ⟨#[]⟩ := by
 rcases h.2 with ⟨h1, _, h2⟩ | ⟨h1, _⟩
 ·exact ⟨h1, h2⟩
 exact absurd h4 h1
theorem qp3 {B : List Token → Rs Node} {m : List Token} {n : Node} {r : List Token} {P : Node → List Token → Prop} (hq : QT m (fun n T _ => P n T) (B m)) (h : W0 B m = .ok (n, r)) : ∃ T x, m = T ++ [x] ∧ x.Kind = 4 ∧ x.Lead = ⟨#[]⟩ ∧ x.Text = ⟨#[]⟩ ∧ P n T ∧ B m = .ok (n, [x]) := by
 unfold W0 at h
 cases e : B m with
 | error u => rw [e, bR_e] at h; cases h
 | ok y =>
   rw [e] at h hq
   obtain ⟨T, h1, h2, h3⟩ := hq
   rw [bR_k] at h
   obtain ⟨n', r'⟩ := y
   cases r' with
   | nil => cases h
   | cons x r' =>
     simp only at h h1 h2 h3
     split at h
     ·rename_i h4
      split at h
      ·rename_i h5
       cases h
       have h4 := of_decide_eq_true h4
       obtain ⟨h6, h7⟩ := qfd h2.1 h4
       refine ⟨T, x, by rw [h1, h6], h4, of_decide_eq_true h5, h7, h3, by rw [h6]⟩
      cases h
     cases h
theorem qtd {m : List Token} {n : Node} {r : List Token} (hg : Good m) (hl : m.length ≤ 65537) (h : qjx m = .ok (n, r)) : ∃ T x, m = T ++ [x] ∧ x.Kind = 4 ∧ x.Lead = ⟨#[]⟩ ∧ x.Text = ⟨#[]⟩ ∧ (WF n T ∧ zy n.kind = 3) ∧ qln (.bin 1) m = .ok (n, [x]) :=
 qp3 (P := fun n T => WF n T ∧ zy n.kind = 3) ((qrm (mu (.bin 1) m.length) (.bin 1) m (q0a hg hl) ⟨by decide, by decide⟩).mono fun n T r h => ⟨h.1, h.2.1⟩) h
theorem qyn {m : List Token} {n : Node} {r : List Token} (hg : Good m) (hl : m.length ≤ 65537) (h : qoe m = .ok (n, r)) : ∃ T x, m = T ++ [x] ∧ x.Kind = 4 ∧ x.Lead = ⟨#[]⟩ ∧ x.Text = ⟨#[]⟩ ∧ (WF n T ∧ zy n.kind = 2) ∧ qln .stmt m = .ok (n, [x]) :=
 qp3 (P := fun n T => WF n T ∧ zy n.kind = 2) ((qrm (mu .stmt m.length) .stmt m (q0a hg hl) trivial).mono fun n T r h => h) h
theorem qjf (a b : List Token) : vr (a ++ b) = vr a ++ vr b := by unfold vr; rw [List.map_append, List.flatten_append]
theorem q05 (l : List UInt8) : qa2 (L e0) l := fun c _ => ⟨fun e => absurd e.1 (by decide), fun e => absurd e.1 (by decide), fun e => absurd e.1 (by decide)⟩
theorem que {s : BA} {m : List Token} (ht : Ju s.size (s.size + 1) (L s) = .ok m) : vr m = L s ∧ Adj e0 m := by
 have h := qod s.size (s.size + 1) (L s) m ht (by rw [Jv]; omega)
 exact ⟨h.1, h.2 e0 (q05 _)⟩
end Ps
end Go.Proofs.YtigmilhpeodhbaaDoorW.Ex.Gr
