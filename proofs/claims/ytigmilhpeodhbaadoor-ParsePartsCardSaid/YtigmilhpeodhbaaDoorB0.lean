/- Trees and their tokens: how a node of each kind is made out of its kids. Conditions: those in each theorem. -/
import Derived.Test.YtigmilhpeodhbaaDoorA3
import Derived.Test.YtigmilhpeodhbaaDoorYb
namespace Go.Proofs.YtigmilhpeodhbaaDoorW.Ex.Gr
open Go Go.Proofs.YtigmilhpeodhbaaDoorW.Ex Go.Proofs.YtigmilhpeodhbaaDoorW.Plain
set_option linter.all false
set_option maxRecDepth 100000
namespace Ps
open Tk
def tw (T : List Token) : List Tok := T.map fun x => (x.Lead, x.Text)
theorem Qw (a b : List Token) : tw (a ++ b) = tw a ++ tw b := List.map_append
mutual
def fullN : Node → Prop
 | .mk k t g l => (g.length : Int) = own (.mk k t g l) ∧ qjk l
def qjk : List Node → Prop
 | [] => True
 | n :: l => fullN n ∧ qjk l
end
theorem qpk : ∀ (l : List Node), (∀ m ∈ l, fullN m) → qjk l
 | [], _ => trivial
 | n :: l, h => ⟨h n (List.mem_cons_self ..), qpk l fun m hm => h m (List.mem_cons_of_mem _ hm)⟩
theorem qgi : ∀ {l : List Node} {m : Node}, qjk l → m ∈ l → fullN m
 | n :: l, m, h, hm => by
   rcases List.mem_cons.1 hm with e | hm
   ·rw [e]; exact h.1
   exact qgi h.2 hm
structure WF (n : Node) (T : List Token) : Prop where
 fe : firstErr n = 0
 fu : fullN n
 tk : ∀ l v, toks 0 n l v = tw T
theorem ql1 : ∀ (l : List Node), (∀ m ∈ l, firstErr m = 0) → y3 l = 0
 | [], _ => rfl
 | n :: l, h => by rw [y3, if_pos (h n (List.mem_cons_self ..))]; exact ql1 l fun m hm => h m (List.mem_cons_of_mem _ hm)
def vg (g : List BA) : Prop := ∀ x ∈ g, trivValid x = true
theorem qrk {α : Type} (p : Nat → α → Bool) : ∀ (l : List α) (i : Nat), (∀ (j : Nat) (m : α), l[j]? = some m → p (i + j) m = true) → vd p i l = true
 | [], i, _ => rfl
 | m :: l, i, h => by
   rw [vd, show p i m = true from h 0 m rfl, Bool.true_and]
   exact qrk p l (i + 1) fun j m hm => by rw [show i + 1 + j = i + (j + 1) by omega]; exact h (j + 1) m hm
theorem qus {n : Node} (kn : known n.kind = true) (hk : Qz n = true) (hs : spelledOk n = true) (hl : levelsOk n = true) (hc : calledOk n = true) (hg : vg n.gaps) (ho : (n.gaps.length : Int) = own n) : wu n = 0 := by
 have h1 : qcn n = true := by
  unfold qcn qnf
  rw [decide_eq_true ho, Bool.and_true, qrk _ _ _ (fun j m hm => hg m (List.mem_of_getElem? hm))]
  exact Bool.or_true _
 unfold wu J9
 rw [kn, hk, hs, hl, hc, h1]; rfl
theorem WF.make {k : Int} {t : BA} {g : List BA} {ks : List Node} {T : List Token} (kn : known k = true) (hk : Qz (.mk k t g ks) = true) (hs : spelledOk (.mk k t g ks) = true) (hl : levelsOk (.mk k t g ks) = true) (hc : calledOk (.mk k t g ks) = true) (hg : vg g) (ho : (g.length : Int) = own (.mk k t g ks))
 (hks : ∀ m ∈ ks, firstErr m = 0 ∧ fullN m) (ht : ∀ l v, uz (stepsOf 0 k t ks.length l v) g (Zd 0 ks) = tw T) : WF (.mk k t g ks) T := by
 refine ⟨?_, ?_, fun l v => ?_⟩
 ·rw [firstErr, if_pos (qus (n := .mk k t g ks) kn hk hs hl hc hg ho)]
  exact ql1 ks fun m hm => (hks m hm).1
 ·rw [fullN]; exact ⟨ho, qpk ks fun m hm => (hks m hm).2⟩
 rw [qc7]; exact ht l v
theorem qbw {p : Int} {i : Nat} {q : Int × Int} (hp : known p = true) (hq : Qy p (i : Int) = q) {k : Int} (hk : known k = true) (h : if q.2 = 0 then q.1 = k else q.2 = zy k) : fits p i k = true := by
 unfold fits
 rw [hp, hk, hq, decide_eq_true (Int.natCast_nonneg i)]
 split at h
 ·rename_i e; rw [if_pos e, decide_eq_true h]; rfl
 rename_i e; rw [if_neg e, decide_eq_true h]; rfl
theorem Kp {n : Node} (h1 : (zq n.kind).first.length ≤ n.kids.length) (h2 : (zq n.kind).rest = (0, 0) → n.kids.length ≤ (zq n.kind).first.length) (h3 : ∀ (i : Nat) (m : Node), n.kids[i]? = some m → fits n.kind i m.kind = true) : Qz n = true := by
 unfold Qz
 by_cases h14 : n.kind = 14 ∧ n.kids.length = 0
 ·rw [if_pos h14]
 rw [if_neg h14, if_neg (by rintro (h | ⟨h, e⟩); omega; have := h2 e; omega)]
 unfold qag
 exact qrk _ _ _ fun j m hm => by rw [Nat.zero_add]; exact h3 j m hm
theorem Q0 {k : Int} (h : zy k = 3) : known k = true := by
 unfold zy at h
 unfold known
 by_cases h1 : k = 2 ∨ k = 7 ∨ k = 9
 ·rw [if_pos h1] at h; exact absurd h (by decide)
 rw [if_neg h1] at h
 by_cases h2 : k = 10 ∨ k = 11 ∨ k = 12 ∨ k = 13 ∨ k = 15 ∨ k = 16
 ·rw [if_pos h2] at h; exact absurd h (by decide)
 rw [if_neg h2] at h
 by_cases h3 : 17 ≤ k ∧ k ≤ 26
 ·rw [decide_eq_true (by omega), decide_eq_true (by omega)]; rfl
 rw [if_neg h3] at h; exact absurd h (by decide)
theorem qpi {k : Int} (h : zy k = 2) : known k = true := by
 unfold zy at h
 unfold known
 by_cases h1 : k = 2 ∨ k = 7 ∨ k = 9
 ·rw [if_pos h1] at h; exact absurd h (by decide)
 rw [if_neg h1] at h
 by_cases h2 : k = 10 ∨ k = 11 ∨ k = 12 ∨ k = 13 ∨ k = 15 ∨ k = 16
 ·rw [decide_eq_true (by omega), decide_eq_true (by omega)]; rfl
 rw [if_neg h2] at h
 split at h <;> exact absurd h (by decide)
inductive KL (p : Int → Prop) : List Node → List Token → Prop
 | nil : KL p [] []
 | cons {m : Node} {T1 T2 : List Token} {ks : List Node} : WF m T1 → p m.kind → KL p ks T2 → KL p (m :: ks) (T1 ++ T2)
theorem KL.mem {p : Int → Prop} {ks : List Node} {T : List Token} (h : KL p ks T) : ∀ m ∈ ks, (firstErr m = 0 ∧ fullN m) ∧ p m.kind := by
 induction h with
 | nil => exact fun m hm => by cases hm
 | cons h1 h2 _ ih =>
   intro m hm
   rcases List.mem_cons.1 hm with e | hm
   ·rw [e]; exact ⟨⟨h1.fe, h1.fu⟩, h2⟩
   exact ih m hm
theorem KL.weaveA {p : Int → Prop} {ks : List Node} {T : List Token} (h : KL p ks T) : ∀ (l : BA) (v : Int) (R : List Step) (g : List BA), uz (allS l v ks.length ++ R) g (Zd 0 ks) = tw T ++ uz R g [] := by
 induction h with
 | nil => exact fun l v R g => rfl
 | cons h1 _ _ ih =>
   intro l v R g
   rw [List.length_cons, allS, Zd, List.cons_append, uz, h1.tk, ih, Qw, List.append_assoc]
inductive AR (p : Int → Prop) : Bool → List BA → List Node → List Token → Prop
 | last {b : Bool} {x : Token} : x.Text = ⟨#[41]⟩ → trivValid x.Lead = true → AR p b [x.Lead] [] [x]
 | first {m : Node} {T1 T2 : List Token} {g : List BA} {ks : List Node} : WF m T1 → p m.kind → AR p false g ks T2 → AR p true g (m :: ks) (T1 ++ T2)
 | next {x : Token} {m : Node} {T1 T2 : List Token} {g : List BA} {ks : List Node} : x.Text = ⟨#[44]⟩ → trivValid x.Lead = true → WF m T1 → p m.kind → AR p false g ks T2 → AR p false (x.Lead :: g) (m :: ks) (x :: (T1 ++ T2))
theorem AR.mem {p : Int → Prop} {b : Bool} {g : List BA} {ks : List Node} {T : List Token} (h : AR p b g ks T) : (∀ m ∈ ks, (firstErr m = 0 ∧ fullN m) ∧ p m.kind) ∧ vg g := by
 induction h with
 | last _ hv => exact ⟨fun m hm => (by cases hm), fun y hy => by rw [List.mem_singleton.1 hy]; exact hv⟩
 | first h1 h2 _ ih =>
   refine ⟨fun m hm => ?_, ih.2⟩
   rcases List.mem_cons.1 hm with e | hm
   ·rw [e]; exact ⟨⟨h1.fe, h1.fu⟩, h2⟩
   exact ih.1 m hm
 | next _ hv h1 h2 _ ih =>
   refine ⟨fun m hm => ?_, fun y hy => ?_⟩
   ·rcases List.mem_cons.1 hm with e | hm
    ·rw [e]; exact ⟨⟨h1.fe, h1.fu⟩, h2⟩
    exact ih.1 m hm
   rcases List.mem_cons.1 hy with e | hy
   ·rw [e]; exact hv
   exact ih.2 y hy
theorem AR.len {p : Int → Prop} {b : Bool} {g : List BA} {ks : List Node} {T : List Token} (h : AR p b g ks T) : g.length = ks.length + 1 - (if b = true ∧ 0 < ks.length then 1 else 0) := by
 induction h with
 | last _ _ => simp
 | first _ _ _ ih => simp at ih ⊢; omega
 | next _ _ _ _ _ ih => simp at ih ⊢; omega
theorem AR.weaveR {p : Int → Prop} {b : Bool} {g : List BA} {ks : List Node} {T : List Token} (h : AR p b g ks T) : ∀ (v : Int), uz (vn v b ks.length) g (Zd 0 ks) = tw T := by
 induction h with
 | @last b x hx _ =>
   intro v
   have e : uz (vn v b ([] : List Node).length) [x.Lead] (Zd 0 []) = [(x.Lead, ⟨#[41]⟩)] := by cases b <;> rfl
   rw [e, ← hx]; rfl
 | first h1 _ _ ih =>
   intro v
   rw [List.length_cons, vn, Zd, uz, h1.tk, ih, Qw]
 | next hx _ h1 _ _ ih =>
   intro v
   rw [List.length_cons, vn, Zd, uz, uz, h1.tk, ih, ← hx]
   show _ = (_, _) :: tw _
   rw [Qw]
theorem vg1 {a : BA} (h : trivValid a = true) : vg [a] := fun x hx => by rw [List.mem_singleton.1 hx]; exact h
theorem vgc {a : BA} {g : List BA} (h : trivValid a = true) (hg : vg g) : vg (a :: g) := fun x hx => by
 rcases List.mem_cons.1 hx with e | hx
 ·rw [e]; exact h
 exact hg x hx
theorem vg0 : vg [] := fun x hx => by cases hx
theorem qh7 {k : Int} {t : BA} {g : List BA} (h : (zq k).first = []) : Qz (.mk k t g []) = true := Kp (by show (zq k).first.length ≤ 0; rw [h]; exact Nat.le_refl _) (fun _ => Nat.zero_le _) (fun i m hm => by cases i <;> cases hm)
theorem qhd {k : Int} {t : BA} {g : List BA} {a : Node} {q : Int × Int} (hk : known k = true) (h : (zq k).first = [q]) (hq : Qy k 0 = q) (ha : known a.kind = true) (hf : if q.2 = 0 then q.1 = a.kind else q.2 = zy a.kind) : Qz (.mk k t g [a]) = true :=
 Kp (by show (zq k).first.length ≤ 1; rw [h]; exact Nat.le_refl _) (fun _ => by show 1 ≤ (zq k).first.length; rw [h]; exact Nat.le_refl _) (fun i m hm => match i, hm with
  | 0, hm => by cases hm; exact qbw hk hq ha hf
  | i + 1, hm => by cases hm)
theorem qz8 {k : Int} {t : BA} {g : List BA} {a b : Node} {q q2 : Int × Int} (hk : known k = true) (h : (zq k).first = [q, q2]) (hq : Qy k 0 = q) (hq2 : Qy k 1 = q2) (ha : known a.kind = true) (hf : if q.2 = 0 then q.1 = a.kind else q.2 = zy a.kind) (hb : known b.kind = true) (hf2 : if q2.2 = 0 then q2.1 = b.kind else q2.2 = zy b.kind) : Qz (.mk k t g [a, b]) = true :=
 Kp (by show (zq k).first.length ≤ 2; rw [h]; exact Nat.le_refl _) (fun _ => by show 2 ≤ (zq k).first.length; rw [h]; exact Nat.le_refl _) (fun i m hm => match i, hm with
  | 0, hm => by cases hm; exact qbw hk hq ha hf
  | 1, hm => by cases hm; exact qbw hk hq2 hb hf2
  | i + 2, hm => by cases hm)
theorem qz7 {k : Int} {t : BA} {g : List BA} {a b c : Node} {q q2 q3 : Int × Int} (hk : known k = true) (h : (zq k).first = [q, q2, q3]) (hq : Qy k 0 = q) (hq2 : Qy k 1 = q2) (hq3 : Qy k 2 = q3) (ha : known a.kind = true) (hf : if q.2 = 0 then q.1 = a.kind else q.2 = zy a.kind) (hb : known b.kind = true) (hf2 : if q2.2 = 0 then q2.1 = b.kind else q2.2 = zy b.kind)
 (hc : known c.kind = true) (hf3 : if q3.2 = 0 then q3.1 = c.kind else q3.2 = zy c.kind) : Qz (.mk k t g [a, b, c]) = true :=
 Kp (by show (zq k).first.length ≤ 3; rw [h]; exact Nat.le_refl _) (fun _ => by show 3 ≤ (zq k).first.length; rw [h]; exact Nat.le_refl _) (fun i m hm => match i, hm with
  | 0, hm => by cases hm; exact qbw hk hq ha hf
  | 1, hm => by cases hm; exact qbw hk hq2 hb hf2
  | 2, hm => by cases hm; exact qbw hk hq3 hc hf3
  | i + 3, hm => by cases hm)
theorem mem1 {P : Node → Prop} {a : Node} (h : P a) : ∀ m ∈ [a], P m := fun m hm => by rw [List.mem_singleton.1 hm]; exact h
theorem memc {P : Node → Prop} {a : Node} {l : List Node} (h : P a) (hl : ∀ m ∈ l, P m) : ∀ m ∈ a :: l, P m := fun m hm => by
 rcases List.mem_cons.1 hm with e | hm
 ·rw [e]; exact h
 exact hl m hm
def WF.p {n : Node} {T : List Token} (h : WF n T) : firstErr n = 0 ∧ fullN n := ⟨h.fe, h.fu⟩
abbrev V (x : Token) : Prop := trivValid x.Lead = true
abbrev Nm (x : Token) : Prop := u1 x.Text.data.toList = true
section
variable {x y z u w : Token} {a b c : Node} {Ta Tb Tc : List Token}
theorem qrl (k : Int) (h : k = 17 ∨ k = 18 ∨ k = 19 ∨ k = 23 ∨ k = 5) (hv : V x) (hs : spelledOk (.mk k x.Text [x.Lead] []) = true) (hc : calledOk (.mk k x.Text [x.Lead] []) = true) : WF (.mk k x.Text [x.Lead] []) [x] := by
 rcases h with rfl | rfl | rfl | rfl | rfl <;> exact WF.make rfl (qh7 rfl) hs rfl hc (vg1 hv) rfl (fun m hm => by cases hm) (fun l v => rfl)
theorem q2b (h1 : x.Text = ⟨#[110, 101, 119]⟩) (h2 : Nm y) (h3 : z.Text = ⟨#[40]⟩) (h4 : u.Text = ⟨#[41]⟩) (v1 : V x) (v2 : V y) (v3 : V z) (v4 : V u) : WF (.mk 22 y.Text [x.Lead, y.Lead, z.Lead, u.Lead] []) [x, y, z, u] :=
 WF.make rfl (qh7 rfl) rfl rfl h2 (vgc v1 (vgc v2 (vgc v3 (vg1 v4)))) rfl (fun m hm => by cases hm) (fun l v => by
  show [(x.Lead, _), (y.Lead, y.Text), (z.Lead, _), (u.Lead, _)] = _
  rw [← h1, ← h3, ← h4]; rfl)
theorem q0b (h1 : x.Text = ⟨#[40]⟩) (ha : WF a Ta) (ga : zy a.kind = 3) (h2 : y.Text = ⟨#[41]⟩) (v1 : V x) (v2 : V y) : WF (.mk 26 ⟨#[]⟩ [x.Lead, y.Lead] [a]) (x :: (Ta ++ [y])) :=
 WF.make rfl (qhd (q := (0, 3)) rfl rfl rfl (Q0 ga) ga.symm) rfl rfl rfl (vgc v1 (vg1 v2)) rfl (mem1 ha.p) (fun l v => by
  show (x.Lead, _) :: (toks 0 a _ _ ++ [(y.Lead, _)]) = _
  rw [ha.tk, ← h1, ← h2]; show _ = (_, _) :: tw _; rw [Qw]; rfl)
theorem W_un (h1 : x.Text = ⟨#[45]⟩ ∨ x.Text = ⟨#[33]⟩) (ha : WF a Ta) (ga : zy a.kind = 3) (la : 6 ≤ level a) (v1 : V x) : WF (.mk 25 x.Text [x.Lead] [a]) (x :: Ta) :=
 WF.make rfl (qhd (q := (0, 3)) rfl rfl rfl (Q0 ga) ga.symm) (by rcases h1 with h | h <;> rw [h] <;> rfl) (decide_eq_true la) rfl (vg1 v1) rfl (mem1 ha.p) (fun l v => by
  show (x.Lead, x.Text) :: (toks 0 a _ _ ++ []) = _
  rw [ha.tk, List.append_nil]; rfl)
theorem q0m {t : BA} (h : 0 < jh t) : memB t [⟨#[124]⟩, ⟨#[38]⟩, ⟨#[61, 61]⟩, ⟨#[60]⟩, ⟨#[43]⟩, ⟨#[45]⟩, ⟨#[42]⟩, ⟨#[47]⟩] = true := by
 unfold jh at h
 unfold memB
 simp only [List.any_cons, List.any_nil, Bool.or_false]
 by_cases a1 : t = ⟨#[124]⟩ <;> by_cases a2 : t = ⟨#[38]⟩ <;> by_cases a3 : t = ⟨#[61, 61]⟩ <;> by_cases a4 : t = ⟨#[60]⟩ <;> by_cases a5 : t = ⟨#[43]⟩ <;> by_cases a6 : t = ⟨#[45]⟩ <;> by_cases a7 : t = ⟨#[42]⟩ <;> by_cases a8 : t = ⟨#[47]⟩ <;> simp_all
theorem q2e {v : Int} (hv0 : 1 ≤ v) (ho : jh x.Text = v) (ha : WF a Ta) (ga : zy a.kind = 3) (la : v ≤ level a) (l3 : v = 3 → 3 < level a) (hb : WF b Tb) (gb : zy b.kind = 3) (lb : v + 1 ≤ level b) (v1 : V x) : WF (.mk 24 x.Text [x.Lead] [a, b]) (Ta ++ (x :: Tb)) :=
 WF.make rfl (qz8 (q := (0, 3)) (q2 := (0, 3)) rfl rfl rfl rfl (Q0 ga) ga.symm (Q0 gb) gb.symm) (q0m (show 0 < jh x.Text by omega)) (by
  have hlev : level (.mk 24 x.Text [x.Lead] [a, b]) = v := ho
  have e : levelsOk (.mk 24 x.Text [x.Lead] [a, b]) = (!(decide (level a < level (.mk 24 x.Text [x.Lead] [a, b])) || (decide (level a = level (.mk 24 x.Text [x.Lead] [a, b])) && decide (level (.mk 24 x.Text [x.Lead] [a, b]) = 3))) && decide (level (.mk 24 x.Text [x.Lead] [a, b]) < level b)) := rfl
  rw [e, hlev, decide_eq_false (by omega), decide_eq_true (show v < level b by omega), Bool.and_true, Bool.false_or]
  by_cases h3 : v = 3
  ·rw [decide_eq_false (show ¬ level a = v by have := l3 h3; omega)]; rfl
  ·rw [decide_eq_false h3, Bool.and_false]; rfl) rfl (vg1 v1) rfl (memc ha.p (mem1 hb.p)) (fun l v => by
  show toks 0 a _ _ ++ ((x.Lead, x.Text) :: (toks 0 b _ _ ++ [])) = _
  rw [ha.tk, hb.tk, List.append_nil, Qw]; rfl)
theorem q1b (hn : Nm x) (h2 : y.Text = ⟨#[40]⟩) (v1 : V x) (v2 : V y) {g : List BA} {ks : List Node} {T : List Token} (h : AR (fun k => zy k = 3) true g ks T) (hl : ks.length ≤ 1000000) : WF (.mk 20 x.Text (x.Lead :: y.Lead :: g) ks) (x :: y :: T) :=
 WF.make rfl (Kp (Nat.zero_le _) (fun e => absurd (show (zq 20).rest = (0, 0) from e) (by decide)) (fun i m hm => by
  have := (h.mem.1 m (List.mem_of_getElem? hm)).2
  exact qbw (q := (0, 3)) rfl (by show (if (i : Int) < 0 then _ else _) = _; rw [if_neg (by omega)]; rfl) (Q0 this) this.symm)) rfl rfl hn (vgc v1 (vgc v2 h.mem.2)) (by
  have e : own (.mk 20 x.Text (x.Lead :: y.Lead :: g) ks) = IntKind.i64.wrap (3 + max 0 ((ks.length : Int) - 1)) := rfl
  have hlen := h.len
  rw [e, List.length_cons, List.length_cons, wt (by omega) (by omega), hlen]
  by_cases h0 : 0 < ks.length
  ·rw [if_pos ⟨rfl, h0⟩]; omega
  ·rw [if_neg (fun e => h0 e.2)]; omega) (fun m hm => (h.mem.1 m hm).1) (fun l v => by
  show (x.Lead, x.Text) :: (y.Lead, _) :: uz (vn v true ks.length) g (Zd 0 ks) = _
  rw [h.weaveR, ← h2]; rfl)
theorem q08 (ha : WF a Ta) (la : level a = 7) (ga : zy a.kind = 3) (h1 : x.Text = ⟨#[46]⟩) (hn : Nm y) (h2 : z.Text = ⟨#[40]⟩) (v1 : V x) (v2 : V y) (v3 : V z) {g : List BA} {ks : List Node} {T : List Token} (h : AR (fun k => zy k = 3) true g ks T) (hl : ks.length ≤ 1000000) : WF (.mk 21 y.Text (x.Lead :: y.Lead :: z.Lead :: g) (a :: ks)) (Ta ++ (x :: y :: z :: T)) :=
 WF.make rfl (Kp (by show 1 ≤ (a :: ks).length; rw [List.length_cons]; omega) (fun e => absurd (show (zq 21).rest = (0, 0) from e) (by decide)) (fun i m hm => by
  have hm3 : zy m.kind = 3 := by
   cases i with
   | zero => cases hm; exact ga
   | succ i => exact (h.mem.1 m (List.mem_of_getElem? (show ks[i]? = some m from hm))).2
  refine qbw (q := (0, 3)) rfl ?_ (Q0 hm3) hm3.symm
  cases i with
  | zero => rfl
  | succ i => show (if ((i + 1 : Nat) : Int) < 1 then _ else _) = _; rw [if_neg (by omega)]; rfl)) rfl (decide_eq_true la) hn (vgc v1 (vgc v2 (vgc v3 h.mem.2))) (by
  have e : own (.mk 21 y.Text (x.Lead :: y.Lead :: z.Lead :: g) (a :: ks)) = IntKind.i64.wrap (4 + max 0 (((a :: ks).length : Int) - 2)) := rfl
  have hlen := h.len
  rw [e]
  simp only [List.length_cons]
  rw [wt (by omega) (by omega), hlen]
  by_cases h0 : 0 < ks.length
  ·rw [if_pos ⟨rfl, h0⟩]; omega
  ·rw [if_neg (fun e => h0 e.2)]; omega) (memc ha.p fun m hm => (h.mem.1 m hm).1) (fun l v => by
  show toks 0 a _ _ ++ ((x.Lead, _) :: (y.Lead, y.Text) :: (z.Lead, _) :: uz (vn v true (ks.length + 1 - 1)) g (Zd 0 ks)) = _
  rw [Nat.add_sub_cancel, h.weaveR, ha.tk, ← h1, ← h2, Qw]; rfl)
theorem qzp (k : Int) (hk : k = 9 ∨ k = 10) (h1 : x.Text = if k = 9 then ⟨#[99, 111, 110, 115, 116]⟩ else ⟨#[108, 101, 116]⟩) (hn : Nm y) (h3 : z.Text = ⟨#[61]⟩) (ha : WF a Ta) (ga : zy a.kind = 3) (h5 : u.Text = ⟨#[59]⟩) (v1 : V x) (v2 : V y) (v3 : V z) (v4 : V u) : WF (.mk k y.Text [x.Lead, y.Lead, z.Lead, u.Lead] [a]) (x :: y :: z :: (Ta ++ [u])) := by
 rcases hk with rfl | rfl <;> exact WF.make rfl (qhd (q := (0, 3)) rfl rfl rfl (Q0 ga) ga.symm) rfl rfl hn (vgc v1 (vgc v2 (vgc v3 (vg1 v4)))) rfl (mem1 ha.p) (fun l v => by
  show (x.Lead, _) :: (y.Lead, y.Text) :: (z.Lead, _) :: (toks 0 a _ _ ++ [(u.Lead, _)]) = _
  rw [ha.tk, ← h3, ← h5]
  show _ = (x.Lead, x.Text) :: (_, _) :: (_, _) :: tw (Ta ++ [u])
  rw [h1, Qw]; rfl)
theorem q19 (hn : Nm y) (h3 : z.Text = ⟨#[61]⟩) (ha : WF a Ta) (ga : zy a.kind = 3) (h5 : u.Text = ⟨#[59]⟩) (v2 : V y) (v3 : V z) (v4 : V u) : WF (.mk 11 y.Text [y.Lead, z.Lead, u.Lead] [a]) (y :: z :: (Ta ++ [u])) :=
 WF.make rfl (qhd (q := (0, 3)) rfl rfl rfl (Q0 ga) ga.symm) rfl rfl hn (vgc v2 (vgc v3 (vg1 v4))) rfl (mem1 ha.p) (fun l v => by
  show (y.Lead, y.Text) :: (z.Lead, _) :: (toks 0 a _ _ ++ [(u.Lead, _)]) = _
  rw [ha.tk, ← h3, ← h5]
  show _ = (_, _) :: (_, _) :: tw (Ta ++ [u])
  rw [Qw]; rfl)
theorem W_do (ha : WF a Ta) (ga : zy a.kind = 3) (h5 : u.Text = ⟨#[59]⟩) (v4 : V u) : WF (.mk 16 ⟨#[]⟩ [u.Lead] [a]) (Ta ++ [u]) :=
 WF.make rfl (qhd (q := (0, 3)) rfl rfl rfl (Q0 ga) ga.symm) rfl rfl rfl (vg1 v4) rfl (mem1 ha.p) (fun l v => by
  show toks 0 a _ _ ++ [(u.Lead, _)] = _
  rw [ha.tk, ← h5, Qw]; rfl)
theorem q2a (h1 : x.Text = ⟨#[114, 101, 116, 117, 114, 110]⟩) (ha : WF a Ta) (ga : zy a.kind = 3) (h5 : u.Text = ⟨#[59]⟩) (v1 : V x) (v4 : V u) : WF (.mk 12 ⟨#[]⟩ [x.Lead, u.Lead] [a]) (x :: (Ta ++ [u])) :=
 WF.make rfl (qhd (q := (0, 3)) rfl rfl rfl (Q0 ga) ga.symm) rfl rfl rfl (vgc v1 (vg1 v4)) rfl (mem1 ha.p) (fun l v => by
  show (x.Lead, _) :: (toks 0 a _ _ ++ [(u.Lead, _)]) = _
  rw [ha.tk, ← h1, ← h5]
  show _ = (_, _) :: tw (Ta ++ [u])
  rw [Qw]; rfl)
theorem qzn (h1 : x.Text = ⟨#[119, 104, 105, 108, 101]⟩) (ha : WF a Ta) (ga : zy a.kind = 3) (hb : WF b Tb) (kb : b.kind = 6) (v1 : V x) : WF (.mk 15 ⟨#[]⟩ [x.Lead] [a, b]) (x :: (Ta ++ Tb)) :=
 WF.make rfl (qz8 (q := (0, 3)) (q2 := (6, 0)) rfl rfl rfl rfl (Q0 ga) ga.symm (by rw [kb]; rfl) kb.symm) rfl rfl rfl (vg1 v1) rfl (memc ha.p (mem1 hb.p)) (fun l v => by
  show (x.Lead, _) :: (toks 0 a _ _ ++ (toks 0 b _ _ ++ [])) = _
  rw [ha.tk, hb.tk, List.append_nil, ← h1]
  show _ = (_, _) :: tw (Ta ++ Tb)
  rw [Qw])
theorem qzq : WF (.mk 14 ⟨#[]⟩ [] []) [] := WF.make rfl rfl rfl rfl rfl vg0 rfl (fun m hm => by cases hm) (fun l v => rfl)
theorem q1a (h1 : x.Text = ⟨#[101, 108, 115, 101]⟩) (hb : WF b Tb) (kb : b.kind = 6) (v1 : V x) : WF (.mk 14 ⟨#[]⟩ [x.Lead] [b]) (x :: Tb) :=
 WF.make rfl (qhd (q := (6, 0)) rfl rfl rfl (by rw [kb]; rfl) kb.symm) rfl rfl rfl (vg1 v1) rfl (mem1 hb.p) (fun l v => by
  show (x.Lead, _) :: (toks 0 b _ _ ++ []) = _
  rw [hb.tk, List.append_nil, ← h1]; rfl)
theorem W_if (h1 : x.Text = ⟨#[105, 102]⟩) (ha : WF a Ta) (ga : zy a.kind = 3) (hb : WF b Tb) (kb : b.kind = 6) (hc : WF c Tc) (kc : c.kind = 14) (v1 : V x) : WF (.mk 13 ⟨#[]⟩ [x.Lead] [a, b, c]) (x :: (Ta ++ (Tb ++ Tc))) :=
 WF.make rfl (qz7 (q := (0, 3)) (q2 := (6, 0)) (q3 := (14, 0)) rfl rfl rfl rfl rfl (Q0 ga) ga.symm (by rw [kb]; rfl) kb.symm (by rw [kc]; rfl) kc.symm) rfl rfl rfl (vg1 v1) rfl (memc ha.p (memc hb.p (mem1 hc.p))) (fun l v => by
  show (x.Lead, _) :: (toks 0 a _ _ ++ (toks 0 b _ _ ++ (toks 0 c _ _ ++ []))) = _
  rw [ha.tk, hb.tk, hc.tk, List.append_nil, ← h1]
  show _ = (_, _) :: tw (Ta ++ (Tb ++ Tc))
  rw [Qw, Qw])
theorem q2d (h1 : x.Text = ⟨#[123]⟩) {ks : List Node} {T : List Token} (h : KL (fun k => zy k = 2) ks T) (h2 : y.Text = ⟨#[125]⟩) (v1 : V x) (v2 : V y) : WF (.mk 6 ⟨#[]⟩ [x.Lead, y.Lead] ks) (x :: (T ++ [y])) :=
 WF.make rfl (Kp (Nat.zero_le _) (fun e => absurd (show (zq 6).rest = (0, 0) from e) (by decide)) (fun i m hm => by
  have := (h.mem m (List.mem_of_getElem? hm)).2
  exact qbw (q := (0, 2)) rfl (by show (if (i : Int) < 0 then _ else _) = _; rw [if_neg (by omega)]; rfl) (qpi this) this.symm)) rfl rfl rfl (vgc v1 (vg1 v2)) rfl (fun m hm => (h.mem m hm).1) (fun l v => by
  show (x.Lead, _) :: uz (allS _ _ ks.length ++ _) [y.Lead] (Zd 0 ks) = _
  rw [h.weaveA, ← h1]
  show _ = (_, _) :: tw (T ++ [y])
  rw [Qw]
  show (_, _) :: (_ ++ [(y.Lead, _)]) = _
  rw [← h2]; rfl)
theorem qnq (hn : Nm x) (v1 : V x) : WF (.mk 5 x.Text [x.Lead] []) [x] := qrl 5 (by simp) v1 rfl hn
theorem qzo (hn : Nm x) (v1 : V x) (hn2 : Nm y) (v2 : V y) : WF (.mk 4 x.Text [x.Lead] [.mk 5 y.Text [y.Lead] []]) [x, y] :=
 WF.make rfl (qhd (q := (5, 0)) rfl rfl rfl rfl rfl) rfl rfl hn (vg1 v1) rfl (mem1 (qnq hn2 v2).p) (fun l v => by
  show (x.Lead, x.Text) :: (toks 0 _ _ _ ++ []) = _
  rw [(qnq hn2 v2).tk]; rfl)
theorem qxz (h2 : y.Text = ⟨#[40]⟩) (v2 : V y) {g : List BA} {ks : List Node} {T : List Token} (h : AR (fun k => k = 4) true g ks T) (hl : ks.length ≤ 1000000) : WF (.mk 3 ⟨#[]⟩ (y.Lead :: g) ks) (y :: T) :=
 WF.make rfl (Kp (Nat.zero_le _) (fun e => absurd (show (zq 3).rest = (0, 0) from e) (by decide)) (fun i m hm => by
  have := (h.mem.1 m (List.mem_of_getElem? hm)).2
  exact qbw (q := (4, 0)) rfl (by show (if (i : Int) < 0 then _ else _) = _; rw [if_neg (by omega)]; rfl) (by rw [this]; rfl) this.symm)) rfl rfl rfl (vgc v2 h.mem.2) (by
  have e : own (.mk 3 ⟨#[]⟩ (y.Lead :: g) ks) = IntKind.i64.wrap (2 + max 0 ((ks.length : Int) - 1)) := rfl
  have hlen := h.len
  rw [e, List.length_cons, wt (by omega) (by omega), hlen]
  by_cases h0 : 0 < ks.length
  ·rw [if_pos ⟨rfl, h0⟩]; omega
  ·rw [if_neg (fun e => h0 e.2)]; omega) (fun m hm => (h.mem.1 m hm).1) (fun l v => by
  show (y.Lead, _) :: uz (vn v true ks.length) g (Zd 0 ks) = _
  rw [h.weaveR, ← h2]; rfl)
theorem q09 (h1 : x.Text = ⟨#[102, 110]⟩) (hn : Nm y) (v1 : V x) (v2 : V y) (ha : WF a Ta) (ka : a.kind = 3) (hn2 : Nm z) (v3 : V z) (hc : WF c Tc) (kc : c.kind = 6) : WF (.mk 2 y.Text [x.Lead, y.Lead] [a, .mk 5 z.Text [z.Lead] [], c]) (x :: y :: (Ta ++ (z :: Tc))) :=
 WF.make rfl (qz7 (q := (3, 0)) (q2 := (5, 0)) (q3 := (6, 0)) rfl rfl rfl rfl rfl (by rw [ka]; rfl) ka.symm rfl rfl (by rw [kc]; rfl) kc.symm) rfl rfl hn (vgc v1 (vg1 v2)) rfl (memc ha.p (memc (qnq hn2 v3).p (mem1 hc.p))) (fun l v => by
  show (x.Lead, _) :: (y.Lead, y.Text) :: (toks 0 a _ _ ++ (toks 0 _ _ _ ++ (toks 0 c _ _ ++ []))) = _
  rw [ha.tk, hc.tk, (qnq hn2 v3).tk, List.append_nil, ← h1]
  show _ = (_, _) :: (_, _) :: tw (Ta ++ (z :: Tc))
  rw [Qw]; rfl)
theorem qzr : WF (.mk 8 ⟨#[]⟩ [] []) [] := WF.make rfl (qh7 rfl) rfl rfl rfl vg0 rfl (fun m hm => by cases hm) (fun l v => rfl)
theorem q1c (h1 : x.Text = ⟨#[58]⟩) (hn : Nm y) (v1 : V x) (v2 : V y) : WF (.mk 8 y.Text [x.Lead, y.Lead] []) [x, y] := by
 have ht : ¬ y.Text = ⟨#[]⟩ := by
  intro e
  unfold Nm at hn
  rw [e] at hn
  exact absurd hn (by decide)
 refine WF.make rfl (qh7 rfl) rfl rfl ?_ (vgc v1 (vg1 v2)) ?_ (fun m hm => by cases hm) (fun l v => ?_)
 ·show (decide (y.Text = ⟨#[]⟩) || u1 y.Text.data.toList) = true
  rw [show u1 y.Text.data.toList = true from hn, Bool.or_true]
 ·show (2 : Int) = if y.Text = ⟨#[]⟩ then 0 else 2
  rw [if_neg ht]
 show uz (if y.Text = ⟨#[]⟩ then [] else [.own l ⟨#[58]⟩, .own sp y.Text]) _ _ = _
 rw [if_neg ht]
 show [(x.Lead, _), (y.Lead, y.Text)] = _
 rw [← h1]; rfl
theorem q2c (h1 : x.Text = ⟨#[99, 108, 97, 115, 115]⟩) (hn : Nm y) (v1 : V x) (v2 : V y) (ha : WF a Ta) (ka : a.kind = 8) (h2 : z.Text = ⟨#[123]⟩) (v3 : V z) {ks : List Node} {T : List Token} (h : KL (fun k => k = 2) ks T) (h4 : u.Text = ⟨#[125]⟩) (v4 : V u) : WF (.mk 7 y.Text [x.Lead, y.Lead, z.Lead, u.Lead] (a :: ks)) (x :: y :: (Ta ++ (z :: (T ++ [u])))) :=
 WF.make rfl (Kp (by show 1 ≤ (a :: ks).length; rw [List.length_cons]; omega) (fun e => absurd (show (zq 7).rest = (0, 0) from e) (by decide)) (fun i m hm => by
  cases i with
  | zero => cases hm; exact qbw (q := (8, 0)) rfl rfl (by rw [ka]; rfl) ka.symm
  | succ i =>
    have := (h.mem m (List.mem_of_getElem? (show ks[i]? = some m from hm))).2
    exact qbw (q := (2, 0)) rfl (by show (if ((i + 1 : Nat) : Int) < 1 then _ else _) = _; rw [if_neg (by omega)]; rfl) (by rw [this]; rfl) this.symm)) rfl rfl hn (vgc v1 (vgc v2 (vgc v3 (vg1 v4)))) rfl (memc ha.p fun m hm => (h.mem m hm).1) (fun l v => by
  show (x.Lead, _) :: (y.Lead, y.Text) :: (toks 0 a _ _ ++ ((z.Lead, _) :: uz (allS _ _ (ks.length + 1 - 1) ++ _) [u.Lead] (Zd 0 ks))) = _
  rw [Nat.add_sub_cancel, h.weaveA, ha.tk, ← h1, ← h2]
  show _ = (_, _) :: (_, _) :: tw (Ta ++ (z :: (T ++ [u])))
  rw [Qw]
  show _ = (_, _) :: (_, _) :: (tw Ta ++ ((z.Lead, z.Text) :: tw (T ++ [u])))
  rw [Qw]
  show (_, _) :: (_, _) :: (_ ++ ((_, _) :: (tw T ++ [(u.Lead, _)]))) = _
  rw [← h4]; rfl)
end
end Ps
end Go.Proofs.YtigmilhpeodhbaaDoorW.Ex.Gr
