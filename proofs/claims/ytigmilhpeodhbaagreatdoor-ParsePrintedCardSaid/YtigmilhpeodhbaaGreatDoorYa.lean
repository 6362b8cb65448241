/- Printing a tree in plain words: the steps of a node, its tokens with their gaps, its canonical layout; and what a walk along the steps returns. Conditions: those in each theorem. -/
import Derived.Test.YtigmilhpeodhbaaGreatDoorPa
import Derived.Test.YtigmilhpeodhbaaGreatDoorExP
namespace Go.Proofs.YtigmilhpeodhbaaGreatDoorW.Ex.Gr
open Go Go.Proofs.YtigmilhpeodhbaaGreatDoorW.Ex
set_option linter.all false
set_option maxRecDepth 100000
abbrev BA := ByteArray
theorem bs {α β : Type} (a : α) (f : α → Option β) : (some a >>= f) = f a := rfl
theorem ba {α β γ : Type} (a : Option α) (f : α → Option β) (g : β → Option γ) : ((a >>= f) >>= g) = (a >>= fun x => f x >>= g) := by cases a <;> rfl
theorem Kd {α : Type} {A B : α} : (if (true = true) then A else B) = A := rfl
theorem Ke {α : Type} {A B : α} : (if (false = true) then A else B) = B := rfl
theorem b1 {α : Type} (a : Option α) : (a >>= fun x => some x) = a := by cases a <;> rfl
theorem J8 {α β : Type} {a : Option α} {f g : α → Option β} (h : ∀ x, a = some x → f x = g x) : (a >>= f) = (a >>= g) := by
 cases a with
 | none => rfl
 | some x => exact h x rfl
theorem qic {α : Type} {by_ : Nat} {l m : List α} (h : l.length + m.length ≤ 1000000000) (hb : by_ ≤ 100000) : app by_ l m = some (l ++ m) := by
 have : (l.length + m.length) * by_ ≤ 1000000000 * 100000 := Nat.mul_le_mul h hb
 unfold app
 rw [if_pos ⟨by omega, by omega⟩]
inductive Step where
 | own (c w : BA)
 | kid (l : BA) (v : Int)
def qi0 (v : Int) : BA := ⟨(10 :: List.replicate v.toNat 9).toArray⟩
@[reducible] def e0 : BA := ⟨#[]⟩
@[reducible] def sp : BA := ⟨#[32]⟩
def kh (v : Int) : Bool → Nat → List Step
 | _, 0 => [.own e0 ⟨#[41]⟩]
 | true, r + 1 => .kid e0 v :: kh v false r
 | false, r + 1 => .own e0 ⟨#[44]⟩ :: .kid sp v :: kh v false r
def allS (l : BA) (v : Int) : Nat → List Step
 | 0 => []
 | r + 1 => .kid l v :: allS l v r
def Q5 (v : Int) : BA → Nat → List Step
 | _, 0 => []
 | l, r + 1 => .kid l v :: Q5 v ⟨#[10, 10]⟩ r
def qae (l : BA) (nk : Nat) : BA := if 0 < nk then ⟨#[10]⟩ else l
def qoy (v : Int) (f nk : Nat) : BA := if f < nk then qi0 v else e0
def qay (v : Int) (f nk r : Nat) : List Step := allS (qi0 (v + 1)) (v + 1) r ++ [.own (qoy v f nk) ⟨#[125]⟩]
def qak (w t : BA) (l : BA) (v : Int) : List Step := [.own l w, .own sp t, .own sp ⟨#[61]⟩, .kid sp v, .own e0 ⟨#[59]⟩]
def stepsOf (d : Int) (k : Int) (t : BA) (nk : Nat) (l : BA) (v : Int) : List Step :=
 if k = 1 then Q5 v l nk ++ [.own (qae l nk) e0]
 else if k = 2 then [.own l ⟨#[102, 110]⟩, .own sp t, .kid e0 v, .kid sp v, .kid sp v]
 else if k = 3 then .own l ⟨#[40]⟩ :: kh v true nk
 else if k = 4 then [.own l t, .kid sp v]
 else if k = 5 then [.own l t]
 else if k = 6 then .own l ⟨#[123]⟩ :: qay v 0 nk nk
 else if k = 7 then .own l ⟨#[99, 108, 97, 115, 115]⟩ :: .own sp t :: .kid sp (v + d) :: .own sp ⟨#[123]⟩ :: qay v 1 nk (nk - 1)
 else if k = 8 then (if t = e0 then [] else [.own l ⟨#[58]⟩, .own sp t])
 else if k = 9 then qak ⟨#[99, 111, 110, 115, 116]⟩ t l v
 else if k = 10 then qak ⟨#[108, 101, 116]⟩ t l v
 else if k = 11 then [.own l t, .own sp ⟨#[61]⟩, .kid sp v, .own e0 ⟨#[59]⟩]
 else if k = 12 then [.own l ⟨#[114, 101, 116, 117, 114, 110]⟩, .kid sp v, .own e0 ⟨#[59]⟩]
 else if k = 13 then .own l ⟨#[105, 102]⟩ :: allS sp v nk
 else if k = 14 then (if nk = 0 then [] else [.own l ⟨#[101, 108, 115, 101]⟩, .kid sp v])
 else if k = 15 then .own l ⟨#[119, 104, 105, 108, 101]⟩ :: allS sp v nk
 else if k = 16 then [.kid l v, .own e0 ⟨#[59]⟩]
 else if k = 20 then .own l t :: .own e0 ⟨#[40]⟩ :: kh v true nk
 else if k = 21 then .kid l v :: .own e0 ⟨#[46]⟩ :: .own e0 t :: .own e0 ⟨#[40]⟩ :: kh v true (nk - 1)
 else if k = 22 then [.own l ⟨#[110, 101, 119]⟩, .own sp t, .own e0 ⟨#[40]⟩, .own e0 ⟨#[41]⟩]
 else if k = 24 then [.kid l v, .own sp t, .kid sp v]
 else if k = 25 then [.own l t, .kid e0 v]
 else if k = 26 then [.own l ⟨#[40]⟩, .kid e0 v, .own e0 ⟨#[41]⟩]
 else [.own l t]
abbrev Tok := BA × BA
def ke : List Step → List BA → List (BA → Int → List Tok) → List Tok
 | [], _, _ => []
 | .own c w :: r, [], ks => (c, w) :: ke r [] ks
 | .own _ w :: r, x :: g, ks => (x, w) :: ke r g ks
 | .kid l v :: r, g, k :: ks => k l v ++ ke r g ks
 | .kid _ _ :: r, g, [] => ke r g []
def qer : List Step → List BA
 | [] => []
 | .own c _ :: r => c :: qer r
 | .kid _ _ :: r => qer r
def wordsS : List Step → List BA
 | [] => []
 | .own _ w :: r => w :: wordsS r
 | .kid _ _ :: r => wordsS r
def nkS : List Step → Nat
 | [] => 0
 | .own _ _ :: r => nkS r
 | .kid _ _ :: r => nkS r + 1
def layW : List Step → List (BA → Int → Node) → List Node
 | [], _ => []
 | .own _ _ :: r, ks => layW r ks
 | .kid l v :: r, k :: ks => k l v :: layW r ks
 | .kid _ _ :: r, [] => []
mutual
def toks (d : Int) : Node → BA → Int → List Tok
 | .mk k t g ks => fun l v => ke (stepsOf d k t ks.length l v) g (ve d ks)
def ve (d : Int) : List Node → List (BA → Int → List Tok)
 | [] => []
 | n :: r => toks d n :: ve d r
end
mutual
def layN (d : Int) : Node → BA → Int → Node
 | .mk k t g ks => fun l v => .mk k t (qer (stepsOf d k t ks.length l v)) (layW (stepsOf d k t ks.length l v) (layL d ks))
def layL (d : Int) : List Node → List (BA → Int → Node)
 | [] => []
 | n :: r => layN d n :: layL d r
end
theorem qd8 (d : Int) (n : Node) (l : BA) (v : Int) : toks d n l v = ke (stepsOf d n.kind n.text n.kids.length l v) n.gaps (ve d n.kids) := by cases n; rw [toks]; rfl
theorem q7n (d : Int) (n : Node) (l : BA) (v : Int) : layN d n l v = .mk n.kind n.text (qer (stepsOf d n.kind n.text n.kids.length l v)) (layW (stepsOf d n.kind n.text n.kids.length l v) (layL d n.kids)) := by cases n; rw [layN]; rfl
theorem qqg (d : Int) : ∀ l, (ve d l).length = l.length
 | [] => by rw [ve]; rfl
 | n :: r => by rw [ve, List.length_cons, List.length_cons, qqg d r]
theorem qt9 (d : Int) : ∀ (l : List Node) (i : Nat) (m : Node), l[i]? = some m → (ve d l).drop i = toks d m :: (ve d l).drop (i + 1)
 | [], i, m, h => by simp at h
 | n :: r, 0, m, h => by
   simp only [List.getElem?_cons_zero, Option.some.injEq] at h
   rw [ve, h]; rfl
 | n :: r, i + 1, m, h => by rw [ve]; exact qt9 d r i m (by simpa using h)
theorem qy4 (d : Int) : ∀ (l : List Node) (i : Nat) (m : Node), l[i]? = some m → (layL d l).drop i = layN d m :: (layL d l).drop (i + 1)
 | [], i, m, h => by simp at h
 | n :: r, 0, m, h => by
   simp only [List.getElem?_cons_zero, Option.some.injEq] at h
   rw [layL, h]; rfl
 | n :: r, i + 1, m, h => by rw [layL]; exact qy4 d r i m (by simpa using h)
section
variable {σ : Type}
def Jo (emit : σ → BA → BA → Option σ) : σ → List Tok → Option σ
 | s, [] => some s
 | s, (g, w) :: r => emit s g w >>= fun s => Jo emit s r
theorem qlr (emit : σ → BA → BA → Option σ) : ∀ (a b : List Tok) (s : σ), Jo emit s (a ++ b) = Jo emit s a >>= fun s => Jo emit s b
 | [], b, s => rfl
 | (g, w) :: a, b, s => by
   rw [List.cons_append, Jo, Jo, ba]
   exact J8 fun x _ => qlr emit a b x
def ownG (emit : σ → BA → BA → Option σ) (n : Node) (s : σ) (g : List BA) (c w : BA) : Option (σ × List BA) :=
 app 16 g [c] >>= fun g' => emit s (n.gaps.getD g.length c) w >>= fun s => some (s, g')
def kidG (node : σ → Node → BA → Int → Option (Node × σ)) (n : Node) (s : σ) (ks : List Node) (l : BA) (v : Int) : Option (σ × List Node) :=
 ix n.kids (ks.length : Int) >>= fun m => node s m l v >>= fun y => app 72 ks [y.1] >>= fun ks => some (y.2, ks)
def run (own : σ → List BA → BA → BA → Option (σ × List BA)) (kid : σ → List Node → BA → Int → Option (σ × List Node)) : List Step → σ → List BA → List Node → Option (σ × List BA × List Node)
 | [], s, g, k => some (s, g, k)
 | .own c w :: r, s, g, k => own s g c w >>= fun x => run own kid r x.1 x.2 k
 | .kid l v :: r, s, g, k => kid s k l v >>= fun x => run own kid r x.1 g x.2
theorem q3b {node : σ → Node → BA → Int → Option (Node × σ)} {n : Node} {s : σ} {ks : List Node} {l : BA} {v : Int} {x : σ × List Node} (h : kidG node n s ks l v = some x) : x.2.length = ks.length + 1 := by
 unfold kidG at h
 cases h1 : ix n.kids (ks.length : Int) with
 | none => rw [h1] at h; cases h
 | some m =>
   rw [h1, bs] at h
   cases h2 : node s m l v with
   | none => rw [h2] at h; cases h
   | some y =>
     rw [h2, bs] at h
     cases h3 : app 72 ks [y.1] with
     | none => rw [h3] at h; cases h
     | some z =>
       rw [h3, bs] at h
       cases h
       obtain ⟨rfl, _⟩ := qdl h3
       rw [List.length_append]; rfl
theorem qq5 (g : List BA) (i : Nat) (c : BA) : (∃ x, g.drop i = x :: g.drop (i + 1) ∧ g.getD i c = x) ∨ (g.drop i = [] ∧ g.drop (i + 1) = [] ∧ g.getD i c = c) := by
 rcases Nat.lt_or_ge i g.length with h | h
 ·exact .inl ⟨g[i], List.drop_eq_getElem_cons h, by rw [List.getD_eq_getElem?_getD, List.getElem?_eq_getElem h]; rfl⟩
 exact .inr ⟨List.drop_of_length_le h, List.drop_of_length_le (by omega), by rw [List.getD_eq_getElem?_getD, List.getElem?_eq_none h]; rfl⟩
theorem qww (emit : σ → BA → BA → Option σ) (node : σ → Node → BA → Int → Option (Node × σ)) (d : Int) (n : Node) (hk : n.kids.length ≤ 50000) :
 ∀ (st : List Step) (s : σ) (g : List BA) (ks : List Node), g.length + st.length ≤ 50000 → ks.length + nkS st ≤ n.kids.length →
 (∀ m ∈ n.kids, ∀ (s : σ) (l : BA) (v : Int), Step.kid l v ∈ st → node s m l v = Jo emit s (toks d m l v) >>= fun s => some (layN d m l v, s)) →
 run (ownG emit n) (kidG node n) st s g ks = Jo emit s (ke st (n.gaps.drop g.length) ((ve d n.kids).drop ks.length)) >>= fun s => some (s, g ++ qer st, ks ++ layW st ((layL d n.kids).drop ks.length))
 | [], s, g, ks, _, _, _ => by
   rw [run, ke, Jo, bs, qer, layW, List.append_nil, List.append_nil]
 | .own c w :: r, s, g, ks, hb, hn, ih => by
   rw [List.length_cons] at hb
   rw [run, ownG, ba, qic (by simp only [List.length_singleton]; omega) (by decide), bs, ba]
   have ih' := fun s => qww emit node d n hk r s (g ++ [c]) ks (by rw [List.length_append, List.length_singleton]; omega) (by rw [nkS] at hn; exact hn) (fun m hm s l v hs => ih m hm s l v (List.mem_cons_of_mem _ hs))
   rcases qq5 n.gaps g.length c with ⟨x, e1, e2⟩ | ⟨e1, e3, e2⟩
   ·rw [e1, e2, ke, Jo, ba]
    refine J8 fun s' _ => ?_
    rw [bs, ih', List.length_append, List.length_singleton, qer, layW, List.append_assoc]; rfl
   rw [e1, e2, ke, Jo, ba]
   refine J8 fun s' _ => ?_
   rw [bs, ih', List.length_append, List.length_singleton, e3, qer, layW, List.append_assoc]; rfl
 | .kid l v :: r, s, g, ks, hb, hn, ih => by
   rw [List.length_cons] at hb
   rw [nkS] at hn
   have hlt : ks.length < n.kids.length := by omega
   have hm := List.getElem?_eq_getElem hlt
   rw [run, kidG, ba, qsp, hm, bs, ih _ (List.getElem_mem hlt) s l v (List.mem_cons_self ..), ba, ba, qt9 d _ _ _ hm, qy4 d _ _ _ hm, ke, qlr, ba, layW, qer]
   refine J8 fun s' _ => ?_
   rw [bs, qic (by simp only [List.length_singleton]; omega) (by decide), ba, bs, bs]
   have ih' := qww emit node d n hk r s' g (ks ++ [layN d n.kids[ks.length] l v]) (by omega) (by rw [List.length_append, List.length_singleton]; omega) (fun m hm s l v hs => ih m hm s l v (List.mem_cons_of_mem _ hs))
   rw [ih', List.length_append, List.length_singleton, List.append_assoc]; rfl
theorem qyt (emit : σ → BA → BA → Option σ) (node : σ → Node → BA → Int → Option (Node × σ)) (W : Node → Prop) (hW : ∀ n, W n → ∀ m ∈ n.kids, W m)
 (hkids : ∀ n, W n → ∀ l v, nkS (stepsOf 0 n.kind n.text n.kids.length l v) ≤ n.kids.length ∧ (stepsOf 0 n.kind n.text n.kids.length l v).length ≤ 50000 ∧ n.kids.length ≤ 50000)
 (hlev : ∀ (n : Node), W n → ∀ (l l' : BA) (v v' : Int), Step.kid l' v' ∈ stepsOf 0 n.kind n.text n.kids.length l v → v ≤ v' ∧ v' ≤ v + 1)
 (hnode : ∀ (n : Node) (s : σ) (l : BA) (v : Int), W n → 0 ≤ v → v ≤ 100000 → node s n l v = run (ownG emit n) (kidG node n) (stepsOf 0 n.kind n.text n.kids.length l v) s [] [] >>= fun x => some (Node.mk n.kind n.text x.2.1 x.2.2, x.1)) :
 ∀ (k : Nat) (n : Node), wl n ≤ k → W n → ∀ (s : σ) (l : BA) (v : Int), 0 ≤ v → v + wl n ≤ 100000 → node s n l v = Jo emit s (toks 0 n l v) >>= fun s => some (layN 0 n l v, s)
 | 0, n, hk, _, _, _, _, _, _ => by have := J1 n; omega
 | k + 1, n, hk, hw, s, l, v, h0, h1 => by
   obtain ⟨h2, h3, h4⟩ := hkids n hw l v
   have hs := Yg n
   rw [hnode n s l v hw h0 (by omega), qww emit node 0 n h4 _ s [] [] (by simpa using h3) (by simpa using h2), ba, qd8, q7n]
   ·refine J8 fun s' _ => ?_
    rw [bs]; rfl
   intro m hm s l' v' hst
   obtain ⟨hv1, hv2⟩ := hlev n hw l l' v v' hst
   have hle : wl m ≤ vt n.kids := by
    obtain ⟨a, b, e⟩ := List.append_of_mem hm
    rw [e, W7, vt]; omega
   exact qyt emit node W hW hkids hlev hnode k m (by omega) (hW n hw m hm) s l' v' (by omega) (by omega)
end
end Go.Proofs.YtigmilhpeodhbaaGreatDoorW.Ex.Gr
