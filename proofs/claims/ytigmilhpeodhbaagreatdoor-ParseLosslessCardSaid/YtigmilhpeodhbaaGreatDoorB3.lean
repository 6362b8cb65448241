/- The source is the tokens side by side, and a tree with its tokens is printed as the source. Conditions: those in each theorem. The law ParseLossless on the printed functions. Conditions: those in each theorem. -/
import Derived.Test.YtigmilhpeodhbaaGreatDoorB1
import Derived.Test.YtigmilhpeodhbaaGreatDoorKg
namespace Go.Proofs.YtigmilhpeodhbaaGreatDoorW.Ex.Gr
open Go Go.Proofs.YtigmilhpeodhbaaGreatDoorW.Ex Go.Proofs.YtigmilhpeodhbaaGreatDoorW.Plain
set_option linter.all false
set_option maxRecDepth 100000
namespace Ps
open Tk
/-- Nothing is written between these tokens. -/
def Adj : BA → List Token → Prop
 | _, [] => True
 | last, x :: r => qie (L last) (L x.Lead) (L x.Text) = false ∧ Adj x.Text r
theorem qsk : ∀ (l : List UInt8) (c : UInt8), (l.drop (Tk.runL l)).head? = some c → letC c = false
 | [], c, h => by cases h
 | d :: l, c, h => by
   rw [Tk.runL] at h
   by_cases hd : letC d = true
   ·rw [if_pos hd, List.drop_succ_cons] at h
    exact qsk l c h
   ·rw [if_neg hd] at h
    cases h
    simpa using hd
theorem quk (r : List UInt8) (h : (yy r).2 ≠ 0) : qt6 (r.take (yy r).1) (r.drop (yy r).1) := by
 cases r with
 | nil => exact absurd rfl h
 | cons c l =>
   cases hw : letC c with
   | true =>
     have hr := qkl l hw
     have hn : (yy (c :: l)).1 = Tk.runL (c :: l) := by
      cases hd : digC c with
      | true =>
        rw [ql5 l hd] at h ⊢
        by_cases hi : u9 ((c :: l).take (Tk.runL (c :: l))) = true
        ·rw [if_pos hi]
        ·rw [if_neg hi] at h; exact absurd rfl h
      | false =>
        rw [ql4 l hw hd] at h ⊢
        by_cases hi : Tk.runL (c :: l) ≤ 32
        ·rw [if_pos hi]
        ·rw [if_neg hi] at h; exact absurd rfl h
     rw [hn]
     obtain ⟨k, hk⟩ : ∃ k, Tk.runL (c :: l) = k + 1 := ⟨Tk.runL (c :: l) - 1, by omega⟩
     intro d hd
     refine ⟨fun e => ?_, fun e => ?_, fun e => ?_⟩
     ·rw [qsk _ _ hd] at e; exact absurd e.2 (by decide)
     ·have e1 := e.1
      rw [hk, List.take_succ_cons] at e1
      have e2 := (List.cons.inj e1).1
      rw [e2] at hw
      exact absurd hw (by decide)
     ·have e1 := e.1
      rw [hk, List.take_succ_cons] at e1
      have e2 := (List.cons.inj e1).1
      rw [e2] at hw
      exact absurd hw (by decide)
   | false =>
     cases hm : qb6 c with
     | false => rw [qko l hw hm] at h; exact absurd rfl h
     | true =>
       rw [qhe l hw hm] at h ⊢
       by_cases h1 : c = 47 ∧ l.head? = some 47
       ·rw [if_pos h1] at h; exact absurd rfl h
       ·rw [if_neg h1]
        by_cases h2 : c = 61 ∧ l.head? = some 61
        ·rw [if_pos h2]
         obtain ⟨rfl, h2⟩ := h2
         cases l with
         | nil => cases h2
         | cons d l =>
           cases h2
           intro d hd
           have ht : List.take (2, (3 : Int)).1 (61 :: 61 :: l) = [61, 61] := rfl
           rw [ht]
           refine ⟨fun e => absurd e.1 (by decide), fun e => absurd e.1 (by decide), fun e => absurd e.1 (by decide)⟩
        ·rw [if_neg h2]
         intro d hd
         have hd' : l.head? = some d := hd
         refine ⟨fun e => ?_, fun e => ?_, fun e => ?_⟩
         ·have : letC c = true := e.1
          rw [hw] at this; exact absurd this (by decide)
         ·have e1 : c = 61 := (List.cons.inj e.1).1
          exact h2 ⟨e1, by rw [hd', e.2]⟩
         ·have e1 : c = 47 := (List.cons.inj e.1).1
          exact h1 ⟨e1, by rw [hd', e.2]⟩
theorem qsc {last : BA} {l g w : List UInt8} (ha : qt6 (L last) l) (h : ∃ q, l = g ++ (w ++ q)) : qie (L last) g w = false := by
 obtain ⟨q, hq⟩ := h
 unfold qie
 by_cases hg : g = []
 ·rw [if_pos hg]
  unfold qs9
  by_cases h0 : L last = [] ∨ w = []
  ·rw [if_pos h0]
  ·rw [if_neg h0]
   cases w with
   | nil => exact absurd (.inr rfl) h0
   | cons c w =>
     have hc : l.head? = some c := by rw [hq, hg]; rfl
     obtain ⟨a1, a2, a3⟩ := ha c hc
     rw [if_neg (by exact a1)]
     have b2 : (decide (L last = [61]) && (decide (c :: w = [61]) || decide (c :: w = [61, 61]))) = false := by
      by_cases e1 : L last = [61]
      ·have : c ≠ 61 := fun e => a2 ⟨e1, e⟩
       rw [decide_eq_false (show ¬ c :: w = [61] from fun e => this (List.cons.inj e).1), decide_eq_false (show ¬ c :: w = [61, 61] from fun e => this (List.cons.inj e).1)]
       simp
      ·rw [decide_eq_false e1]; rfl
     have b3 : (decide (L last = [47]) && decide (c :: w = [47])) = false := by
      by_cases e1 : L last = [47]
      ·have : c ≠ 47 := fun e => a3 ⟨e1, e⟩
       rw [decide_eq_false (show ¬ c :: w = [47] from fun e => this (List.cons.inj e).1)]
       simp
      ·rw [decide_eq_false e1]; rfl
     rw [b2, b3]; rfl
 ·rw [if_neg hg]
  cases g with
  | nil => exact absurd rfl hg
  | cons c g =>
    have hc : l.head? = some c := by rw [hq]; rfl
    obtain ⟨_, _, a3⟩ := ha c hc
    by_cases e1 : L last = [47]
    ·rw [decide_eq_true e1, Bool.true_and, decide_eq_false]
     intro e
     exact a3 ⟨e1, Option.some.inj e⟩
    ·rw [decide_eq_false e1]; rfl
def Kv (m : List Token) : List UInt8 := (m.map fun x => L x.Lead ++ L x.Text).flatten
theorem qus (l : List UInt8) : l = l.take (l.length - (zk l).length) ++ zk l := by
 obtain ⟨p, hp⟩ := qha l
 have hlen := congrArg List.length hp
 rw [List.length_append] at hlen
 have e : l.length - (zk l).length = p.length := by omega
 rw [e]
 conv => lhs; rw [hp]
 congr 1
 conv => rhs; rw [hp]
 rw [List.take_left']; rfl
theorem qsa (S : Nat) : ∀ (f : Nat) (l : List UInt8) (m : List Token), W3 S f l = .ok m → l.length < f → Kv m = l ∧ ∀ last, qt6 (L last) l → Adj last m
 | 0, l, m, _, h => absurd h (Nat.not_lt_zero _)
 | f + 1, l, m, h, hf => by
   have hr := qeh l
   have hs := qus l
   rw [W3] at h
   by_cases h0 : zk l = []
   ·rw [if_pos h0] at h
    cases h
    refine ⟨?_, fun last ha => ⟨qsc ha ⟨[], ?_⟩, trivial⟩⟩
    ·show L (ofB l) ++ [] ++ [] = l
     rw [qcx, List.append_nil, List.append_nil]
    ·show l = L (ofB l) ++ ([] ++ [])
     rw [qcx]; simp
   ·rw [if_neg h0] at h
    have hn := qkq (zk l)
    by_cases h2 : (yy (zk l)).2 = 0
    ·rw [if_pos h2] at h; cases h
    ·rw [if_neg h2] at h
     have hpos := ql7 (zk l) h2
     cases h3 : W3 S f ((zk l).drop (yy (zk l)).1) with
     | error e => rw [h3] at h; cases h
     | ok m' =>
       rw [h3] at h
       cases h
       have hd : ((zk l).drop (yy (zk l)).1).length = (zk l).length - (yy (zk l)).1 := List.length_drop
       obtain ⟨g1, g2⟩ := qsa S f _ m' h3 (by omega)
       have hl : l = l.take (l.length - (zk l).length) ++ ((zk l).take (yy (zk l)).1 ++ (zk l).drop (yy (zk l)).1) := by rw [List.take_append_drop]; exact hs
       refine ⟨?_, fun last ha => ⟨?_, g2 _ ?_⟩⟩
       ·show (L (ofB _) ++ L (ofB _)) ++ Kv m' = l
        rw [g1, qcx, qcx, List.append_assoc]
        exact hl.symm
       ·show qie (L last) (L (ofB _)) (L (ofB _)) = false
        rw [qcx, qcx]
        exact qsc ha ⟨_, hl⟩
       ·show qt6 (L (ofB _)) _
        rw [qcx]
        exact quk _ h2
theorem qv0 : ∀ (T : List Token) (s : List UInt8) (last : BA), Adj last T → (srcL (tw T) s last).1 = s ++ Kv T
 | [], s, last, _ => by show s = s ++ []; rw [List.append_nil]
 | x :: T, s, last, h => by
   show (srcL (tw T) (outL s (L last) (L x.Lead) (L x.Text)) x.Text).1 = s ++ ((L x.Lead ++ L x.Text) ++ Kv T)
   rw [qv0 T _ x.Text h.2]
   unfold outL
   rw [h.1, if_neg (by decide), List.nil_append, List.append_assoc, List.append_assoc]
theorem qxc : ∀ (a b : List Token) (last : BA), Adj last (a ++ b) → Adj last a
 | [], b, last, h => trivial
 | x :: a, b, last, h => ⟨h.1, qxc a b _ h.2⟩
mutual
def qar : Node → List Node
 | .mk k t g l => .mk k t g l :: Wi l
def Wi : List Node → List Node
 | [] => []
 | n :: l => qar n ++ Wi l
end
theorem q2g (n : Node) : qar n = n :: Wi n.kids := by cases n; rw [qar]; rfl
mutual
theorem qhg : ∀ n : Node, (qar n).length = Yt n
 | .mk k t g l => by rw [qar, Yt, List.length_cons, qpd l]
theorem qpd : ∀ l : List Node, (Wi l).length = Qg l
 | [] => rfl
 | n :: l => by rw [Wi, Qg, List.length_append, qhg n, qpd l]
end
mutual
theorem qtz : ∀ (n : Node) (acc : List Node), acc.length + Yt n ≤ 1000000 → Zr acc n = some (acc ++ qar n)
 | .mk k t g l, acc, h => by
   rw [Yt] at h
   rw [Zr]
   simp only [qa]
   rw [qdt (by rw [List.length_singleton]; omega) (by decide), bs]
   have := qj2 l [] (.mk k t g l) (acc ++ [.mk k t g l]) rfl (by rw [List.length_append, List.length_singleton]; omega) (by have := qc9 l; show l.length ≤ 1000000; omega)
   rw [List.append_assoc] at this
   exact this
theorem qj2 : ∀ (l pre : List Node) (n : Node) (acc : List Node), n.kids = pre ++ l → acc.length + Qg l ≤ 1000000 → n.kids.length ≤ 1000000 → uw acc (pre.length : Int) n = some (acc ++ Wi l)
 | [], pre, n, acc, h, hs, hn => by
   rw [uw]
   simp only [qa]
   rw [qq1 h, qip, Wi, List.append_nil]
 | m :: l, pre, n, acc, h, hs, hn => by
   rw [Qg] at hs
   have hl := qu0 h
   rw [uw]
   simp only [qa]
   rw [qq0 h, qio, qu2 h, bs, qtz m acc (by omega), bs, qk0 (by omega) m, qj2 l (pre ++ [m]) n (acc ++ qar m) (qmc h) (by rw [List.length_append, qhg]; omega) hn, Wi, List.append_assoc]
end
theorem qj3 : ∀ (l pre : List Node) (n : Node) (acc : List Node), n.kids = pre ++ l → acc.length + Qg l ≤ 1000000 → n.kids.length ≤ 1000000 → vm acc (pre.length : Int) n = some (acc ++ Wi l)
 | [], pre, n, acc, h, hs, hn => by
   rw [vm]
   simp only [qa]
   rw [qq1 h, qip, Wi, List.append_nil]
 | m :: l, pre, n, acc, h, hs, hn => by
   rw [Qg] at hs
   have hl := qu0 h
   rw [vm]
   simp only [qa]
   rw [qq0 h, qio, qu2 h, bs, qtz m acc (by omega), bs, qk0 (by omega) m, qj3 l (pre ++ [m]) n (acc ++ qar m) (qmc h) (by rw [List.length_append, qhg]; omega) hn, Wi, List.append_assoc]
theorem qy0 (n : Node) (h : Yt n ≤ 100000) : qc1 n = some (qar n) := by
 have e := qlg n
 have := qc9 n.kids
 unfold qc1 qbl
 rw [qdt (by simp) (by decide), bs]
 have q := qj3 n.kids [] n ([] ++ [n]) rfl (by simp; omega) (by omega)
 rw [show ((([] : List Node).length : Nat) : Int) = 0 from rfl] at q
 rw [q, bs, q2g]; rfl
mutual
theorem qpf : ∀ n : Node, fullN n → ∀ m ∈ qar n, (m.gaps.length : Int) = own m
 | .mk k t g l, h, m, hm => by
   rw [fullN] at h
   rw [qar] at hm
   rcases List.mem_cons.1 hm with e | hm
   ·rw [e]; exact h.1
   ·exact qmg l h.2 m hm
theorem qmg : ∀ l : List Node, qtc l → ∀ m ∈ Wi l, (m.gaps.length : Int) = own m
 | [], _, m, hm => by rw [Wi] at hm; cases hm
 | n :: l, h, m, hm => by
   rw [qtc] at h
   rw [Wi] at hm
   rcases List.mem_append.1 hm with hm | hm
   ·exact qpf n h.1 m hm
   ·exact qmg l h.2 m hm
end
mutual
theorem qpe : ∀ n : Node, ∀ m ∈ qar n, m.kids.length ≤ Yt n
 | .mk k t g l, m, hm => by
   rw [qar] at hm
   rw [Yt]
   rcases List.mem_cons.1 hm with e | hm
   ·rw [e]; have := qc9 l; show l.length ≤ _; omega
   ·have := qmf l m hm; omega
theorem qmf : ∀ l : List Node, ∀ m ∈ Wi l, m.kids.length ≤ Qg l
 | [], m, hm => by rw [Wi] at hm; cases hm
 | n :: l, m, hm => by
   rw [Wi] at hm
   rw [Qg]
   rcases List.mem_append.1 hm with hm | hm
   ·have := qpe n m hm; omega
   ·have := qmf l m hm; omega
end
theorem qwz (Z : List Node) (hz : Z.length ≤ 1000000) (hf : ∀ m ∈ Z, (m.gaps.length : Int) = own m ∧ m.kids.length ≤ 1000000) : ∀ (l pre : List Node), Z = pre ++ l → Q4 Z (pre.length : Int) = some true
 | [], pre, h => by rw [Q4, qq1 h, qip]
 | m :: l, pre, h => by
   have hl := qu0 h
   have hm := hf m (by rw [h]; simp)
   rw [Q4]
   simp only [qa]
   rw [qq0 h, qio, qu2 h, bs, bs]
   unfold Wg
   rw [if_pos (by omega), bs, List.length_map, decide_eq_true hm.1, nff, qk0 (by omega) m]
   exact qwz Z hz hf l (pre ++ [m]) (qmc h)
theorem q5d (n : Node) (h : Yt n ≤ 100000) (hf : fullN n) : qc2 n = some true := by
 unfold qc2
 rw [qy0 n h, bs]
 exact qwz (qar n) (by rw [qhg]; omega) (fun m hm => ⟨qpf n hf m hm, by have := qpe n m hm; omega⟩) (qar n) [] rfl
mutual
theorem qsh : ∀ (n : Node) (d s : Nat), size? n d = some s → s = Yt n
 | .mk k t g l, d, s, h => by
   cases d with
   | zero => rw [size?] at h; cases h
   | succ d =>
     rw [size?] at h
     split at h
     ·cases h
     ·obtain ⟨a, ha, rfl⟩ := Option.map_eq_some_iff.1 h
      rw [Yt, qo0 l d a ha]
theorem qo0 : ∀ (l : List Node) (d s : Nat), sizeL? l d = some s → s = Qg l
 | [], d, s, h => by rw [sizeL?] at h; cases h; rfl
 | n :: l, d, s, h => by
   rw [sizeL?] at h
   cases ha : size? n d with
   | none => rw [ha] at h; cases h
   | some a =>
     cases hb : sizeL? l d with
     | none => rw [ha, hb] at h; cases h
     | some b =>
       rw [ha, hb] at h
       cases h
       rw [Qg, qsh n d a ha, qo0 l d b hb]
end
theorem qm9 {n : Node} (h : checkErr n = 0) : Yt n ≤ 4000 := by
 obtain ⟨k, h1, h2, _⟩ := qna h
 rw [qsh n 60 k h1] at h2
 exact h2
/-- What print.Text returns of a tree with these tokens. -/
theorem q3h {n : Node} {T : List Token} (hc : checkErr n = 0) (hw : wfB n = true) (ht : ∀ l v, toks 0 n l v = tw T) (ha : Adj e0 T) (hT : T.length ≤ 5000) (hb : ∀ x ∈ T, x.Lead.size ≤ 4000 ∧ x.Text.size ≤ 4000) (hl : (Kv T).length ≤ 65536) : Km n = some (ofB (Kv T), 0) := by
 rw [Km.eq_def, (qw7 hw).1, bs]
 have a := qzg qm5 ql6 q3z n hc (by have := qm9 hc; omega) (e0, []) e0
 have hok : ∀ x ∈ tw T, okT x := fun x hx => by
  obtain ⟨y, hy, rfl⟩ := List.mem_map.1 hx
  exact hb y hy
 have hs := qv0 T [] e0 ha
 rw [List.nil_append] at hs
 rw [ht, qw3 _ _ _ hok (by decide) (by rw [List.length_nil]; unfold tw; rw [List.length_map]; omega), bs] at a
 rw [if_neg (by rw [q2e]; exact fun q => q hc)]
 unfold ql6 at a
 rw [show qaf (⟨#[]⟩ : ByteArray) ([] : List UInt8) n (⟨#[]⟩ : ByteArray) (0 : Int) = _ from a, bs]
 unfold Zo Qn
 simp only [bs]
 rw [hs, if_neg (by rw [decide_eq_true_eq]; omega)]; rfl
theorem qvj {n : Node} {T : List Token} {s : BA} (h : WF n T) (hc : checkErr n = 0) (hw : wfB n = true) (ha : Adj e0 T) (hT : T.length ≤ 5000) (hb : ∀ x ∈ T, x.Lead.size ≤ 4000 ∧ x.Text.size ≤ 4000) (hj : Kv T = L s) (hs : s.size ≤ 4000) : wi n s = some true := by
 have hl := J4 s
 unfold wi
 rw [(qw7 hw).1, bs, hc, decide_eq_true rfl, nff, q5d n (by have := qm9 hc; omega) h.fu, bs, nff, q3h hc hw h.tk ha hT hb (by rw [hj]; omega), bs, hj, q0b]
 rw [if_pos (by simp)]
 simp
end Ps
end Go.Proofs.YtigmilhpeodhbaaGreatDoorW.Ex.Gr

namespace Go.Proofs.YtigmilhpeodhbaaGreatDoorW.Ex.Gr
open Go Go.Proofs.YtigmilhpeodhbaaGreatDoorW.Ex Go.Proofs.YtigmilhpeodhbaaGreatDoorW.Plain
set_option linter.all false
set_option maxRecDepth 100000
namespace Ps
open Tk
theorem qqj {c : List Token → Rs Node} {s : BA} (h : (Ku c s).2.1 = 0) (hc : ∀ m, Good m → m.length ≤ 65537 → Q m (fun n r => wfB n = true) (c m)) :
 ∃ m n r, Good m ∧ m.length ≤ 65537 ∧ W3 s.size (s.size + 1) (L s) = .ok m ∧ s.size ≤ 65536 ∧ c m = .ok (n, r) ∧ (Ku c s).1 = n ∧ checkErr n ≠ 3 ∧ wfB n = true := by
 unfold Ku at h ⊢
 rcases qdb s with ⟨m, e, hg, hl, ht, hs⟩ | ⟨e, _⟩
 ·rw [e, if_pos rfl] at h ⊢
  have q := hc m hg hl
  cases hy : c m with
  | error u => simp only [hy] at h; exact absurd h (by simp [finV])
  | ok y =>
    simp only [hy] at h q ⊢
    have h' : (limV y.1).2.1 = 0 := h
    have hne : checkErr y.1 ≠ 3 := fun e3 => by
     unfold limV at h'
     rw [if_pos e3] at h'
     exact absurd h' (by decide)
    refine ⟨m, y.1, y.2, hg, hl, ht, hs, hy, ?_, hne, q.2.2⟩
    show (limV y.1).1 = y.1
    unfold limV
    rw [if_neg hne]
 ·rw [if_neg e] at h
  exact absurd h e
theorem qva {n : Node} (h : firstErr n = 0) (h3 : checkErr n ≠ 3) : checkErr n = 0 := by
 unfold checkErr at h3 ⊢
 cases hs : size? n 60 with
 | none => rw [hs] at h3; exact absurd rfl h3
 | some k =>
   rw [hs] at h3
   simp only at h3 ⊢
   by_cases hk : k ≤ 4000
   ·rw [if_pos hk]; exact h
   ·rw [if_neg hk] at h3; exact absurd rfl h3
theorem q00 {m : List Token} (h : Good m) (hl : m.length ≤ 65537) : Gd m := ⟨h, by omega⟩
theorem qs8 {x : Token} {r : List Token} (h : Good (x :: r)) (h4 : x.Kind = 4) : r = [] ∧ x.Text = ⟨#[]⟩ := by
 rcases h.2 with ⟨h1, _, h2⟩ | ⟨h1, _⟩
 ·exact ⟨h1, h2⟩
 ·exact absurd h4 h1
theorem q2t {m : List Token} {n : Node} {r : List Token} (hg : Good m) (hl : m.length ≤ 65537) (h : qm0 m = .ok (n, r)) : WF n m := by
 have q := qro (mu (.file []) m.length) (.file []) m (q00 hg hl) trivial
 unfold qm0 qly at h
 rw [h] at q
 obtain ⟨T, h1, h2, ks', y, q', h3, h4, hn, hv, kl⟩ := q
 simp only at h1 h2 h3 hn
 rw [h3] at h1 h2
 obtain ⟨h5, h6⟩ := qs8 h2.1 h4
 rw [hn, h1, h5]
 exact q41 kl h6 hv
/-- What is left behind a part that stands alone. -/
theorem qtt {B : List Token → Rs Node} {m : List Token} {n : Node} {r : List Token} {P : Node → List Token → Prop} (hq : QT m (fun n T _ => P n T) (B m)) (h : qe1 B m = .ok (n, r)) : ∃ T x, m = T ++ [x] ∧ x.Kind = 4 ∧ x.Lead = ⟨#[]⟩ ∧ x.Text = ⟨#[]⟩ ∧ P n T ∧ B m = .ok (n, [x]) := by
 unfold qe1 at h
 cases e : B m with
 | error u => rw [e, bR_e] at h; cases h
 | ok y =>
   rw [e] at h hq
   obtain ⟨T, h1, h2, h3⟩ := hq
   rw [bR_k] at h
   obtain ⟨n', r'⟩ := y
   cases r' with
   | nil => cases h
   | cons x r' =>
     simp only at h h1 h2 h3
     split at h
     ·rename_i h4
      split at h
      ·rename_i h5
       cases h
       have h4 := of_decide_eq_true h4
       obtain ⟨h6, h7⟩ := qs8 h2.1 h4
       refine ⟨T, x, by rw [h1, h6], h4, of_decide_eq_true h5, h7, h3, by rw [h6]⟩
      ·cases h
     ·cases h
theorem q2u {m : List Token} {n : Node} {r : List Token} (hg : Good m) (hl : m.length ≤ 65537) (h : qpt m = .ok (n, r)) : ∃ T x, m = T ++ [x] ∧ x.Kind = 4 ∧ x.Lead = ⟨#[]⟩ ∧ x.Text = ⟨#[]⟩ ∧ (WF n T ∧ yb n.kind = 3) ∧ qly (.bin 1) m = .ok (n, [x]) :=
 qtt (P := fun n T => WF n T ∧ yb n.kind = 3) ((qro (mu (.bin 1) m.length) (.bin 1) m (q00 hg hl) ⟨by decide, by decide⟩).mono fun n T r h => ⟨h.1, h.2.1⟩) h
theorem q14 {m : List Token} {n : Node} {r : List Token} (hg : Good m) (hl : m.length ≤ 65537) (h : qoy m = .ok (n, r)) : ∃ T x, m = T ++ [x] ∧ x.Kind = 4 ∧ x.Lead = ⟨#[]⟩ ∧ x.Text = ⟨#[]⟩ ∧ (WF n T ∧ yb n.kind = 2) ∧ qly .stmt m = .ok (n, [x]) :=
 qtt (P := fun n T => WF n T ∧ yb n.kind = 2) ((qro (mu .stmt m.length) .stmt m (q00 hg hl) trivial).mono fun n T r h => h) h
theorem qwt : ∀ (T : List Token), ∀ x ∈ T, x.Lead.size ≤ (Kv T).length ∧ x.Text.size ≤ (Kv T).length
 | [], x, h => by cases h
 | y :: T, x, h => by
   have e : Kv (y :: T) = (L y.Lead ++ L y.Text) ++ Kv T := rfl
   rw [e, List.length_append, List.length_append, J4, J4]
   rcases List.mem_cons.1 h with e | h
   ·rw [e]; omega
   ·have := qwt T x h; omega
theorem q0p (a b : List Token) : Kv (a ++ b) = Kv a ++ Kv b := by unfold Kv; rw [List.map_append, List.flatten_append]
theorem q4x (l : List UInt8) : qt6 (L e0) l := fun c _ => ⟨fun e => absurd e.1 (by decide), fun e => absurd e.1 (by decide), fun e => absurd e.1 (by decide)⟩
theorem qoz {s : BA} {m : List Token} (ht : W3 s.size (s.size + 1) (L s) = .ok m) : Kv m = L s ∧ Adj e0 m := by
 have h := qsa s.size (s.size + 1) (L s) m ht (by rw [J4]; omega)
 exact ⟨h.1, h.2 e0 (q4x _)⟩
theorem qow {s : BA} {m : List Token} (ht : W3 s.size (s.size + 1) (L s) = .ok m) (hs : s.size ≤ 65536) : m.length ≤ s.size + 1 := by
 have := (qf8 s.size (s.size + 1) (L s) m ht (by rw [J4]; omega) (by rw [J4]; omega)).2
 rw [J4] at this
 exact this
theorem qwk {n : Node} {T : List Token} {s : BA} (h : WF n T) (h3 : checkErr n ≠ 3) (hw : wfB n = true) (ha : Adj e0 T) (hT : T.length ≤ 4001) (hj : Kv T = L s) (hs : s.size ≤ 4000) : wi n s = some true :=
 qvj h (qva h.fe h3) hw ha (by omega) (fun x hx => by have := qwt T x hx; rw [hj, J4] at this; omega) hj hs
theorem qyi {s : BA} (hs : s.size ≤ 4000) (h : (Ku qm0 s).2.1 = 0) : wi (Ku qm0 s).1 s = some true := by
 obtain ⟨m, n, r, hg, hl, ht, _, hy, e, h3, hw⟩ := qqj h q3e
 obtain ⟨f1, f2⟩ := qoz ht
 have hlen := qow ht (by omega)
 rw [e]
 exact qwk (q2t hg hl hy) h3 hw f2 (by omega) f1 hs
theorem qmd {s : BA} {m T : List Token} {x : Token} {n : Node} (hs : s.size ≤ 4000) (ht : W3 s.size (s.size + 1) (L s) = .ok m) (hm : m = T ++ [x]) (h5 : x.Lead = ⟨#[]⟩) (h6 : x.Text = ⟨#[]⟩) (h : WF n T) (h3 : checkErr n ≠ 3) (hw : wfB n = true) : wi n s = some true := by
 obtain ⟨f1, f2⟩ := qoz ht
 have hlen := qow ht (by omega)
 rw [hm] at f1 f2 hlen
 rw [q0p] at f1
 have e : Kv [x] = [] := by
  show L x.Lead ++ L x.Text ++ [] = []
  rw [h5, h6]; rfl
 rw [e, List.append_nil] at f1
 rw [List.length_append] at hlen
 exact qwk h h3 hw (qxc T [x] e0 f2) (by omega) f1 hs
theorem qyj {s : BA} (hs : s.size ≤ 4000) (h : (Ku qpt s).2.1 = 0) : wi (Ku qpt s).1 s = some true := by
 obtain ⟨m, n, r, hg, hl, ht, _, hy, e, h3, hw⟩ := qqj h q3f
 obtain ⟨T, x, hm, _, h5, h6, ⟨hwf, _⟩, _⟩ := q2u hg hl hy
 rw [e]
 exact qmd hs ht hm h5 h6 hwf h3 hw
theorem qyh {s : BA} (hs : s.size ≤ 4000) (h : (Ku qoy s).2.1 = 0) : wi (Ku qoy s).1 s = some true := by
 obtain ⟨m, n, r, hg, hl, ht, _, hy, e, h3, hw⟩ := qqj h q3d
 obtain ⟨T, x, hm, _, h5, h6, ⟨hwf, _⟩, _⟩ := q14 hg hl hy
 rw [e]
 exact qmd hs ht hm h5 h6 hwf h3 hw
theorem L9_Lossless (a : BA) : Z2 a = some true := by
 unfold Z2
 by_cases hs : 4000 < a.size
 ·rw [if_pos (decide_eq_true (by omega)), qxi]; rfl
 rw [if_neg (by rw [decide_eq_true_eq]; omega), q1q, bs]
 have h37 : ∀ o, wm a o = some true := fun o => by
  unfold wm
  rw [q1p, bs, qxi, bs, if_pos rfl]
  by_cases h : (Ku qoy a).2.1 = 0
  ·rw [decide_eq_true h, nff, qyh (by omega) h]; rfl
  ·rw [decide_eq_false h, ntt]
 have h23 : ∀ o, wo a o = some true := fun o => by
  unfold wo
  rw [q1r, bs]
  by_cases h : (Ku qpt a).2.1 = 0
  ·rw [if_pos (decide_eq_true h), qyj (by omega) h, bs, nff]; exact h37 _
  ·rw [if_neg (by rw [decide_eq_true_eq]; exact h)]; exact h37 _
 by_cases h : (Ku qm0 a).2.1 = 0
 ·rw [if_pos (decide_eq_true h), qyi (by omega) h, bs, nff]; exact h23 _
 ·rw [if_neg (by rw [decide_eq_true_eq]; exact h)]; exact h23 _
end Ps
end Go.Proofs.YtigmilhpeodhbaaGreatDoorW.Ex.Gr
