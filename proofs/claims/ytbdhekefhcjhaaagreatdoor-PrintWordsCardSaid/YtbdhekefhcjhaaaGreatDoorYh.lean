/- The laws PrintWords, PrintTexts, PrintLays on the printed functions. No conditions beside those in each theorem. -/
import Derived.Test.YtbdhekefhcjhaaaGreatDoorYg
import Derived.KernelRfl
namespace Go.Proofs.YtbdhekefhcjhaaaGreatDoorW.Ex.Gr
open Go Go.Proofs.YtbdhekefhcjhaaaGreatDoorW.Ex Tk
set_option linter.all false
set_option maxRecDepth 100000
theorem same_l0 (L : List BA) (hn : L.length ≤ 1000000) : ∀ (l pre : List BA), L = pre ++ l → F_L8_same_l0 L L (pre.length : Int) = some true
 | [], pre, h => by rw [F_L8_same_l0.eq_def, Z6 h, y0]
 | m :: l, pre, h => by
   have hl := len_lt h
   rw [F_L8_same_l0.eq_def]
   simp only [qa]
   rw [Z5 h, yf, Kj h, bs, bs, decide_eq_true rfl, nff, vy (by omega) m]
   exact same_l0 L hn l (pre ++ [m]) (Qd h)
theorem same_self (l : List BA) (h : l.length ≤ 1000000) : F_L8_same l l = some true := by
 rw [F_L8_same.eq_def, decide_eq_true rfl, nff]
 exact same_l0 l h l [] rfl
theorem strings_l0 (L : List BA) (hn : L.length ≤ 1000000) : ∀ (l pre : List BA), L = pre ++ l → F_R3_Strings_l0 L L (pre.length : Int) = some true
 | [], pre, h => by rw [F_R3_Strings_l0.eq_def, Z6 h, y0]
 | m :: l, pre, h => by
   have hl := len_lt h
   rw [F_R3_Strings_l0.eq_def]
   simp only [qa]
   rw [Z5 h, yf, Kj h, bs, bs, decide_eq_true rfl, nff, vy (by omega) m]
   exact strings_l0 L hn l (pre ++ [m]) (Qd h)
theorem strings_self (l : List BA) (h : l.length ≤ 1000000) : F_R3_Strings l l = some true := by
 rw [F_R3_Strings.eq_def, decide_eq_true rfl, nff]
 exact strings_l0 l h l [] rfl
theorem equal_l0 (n : Node) (hn : n.kids.length ≤ 1000000) (ih : ∀ m ∈ n.kids, F_R6_Equal m m = some true) : ∀ (l pre : List Node), n.kids = pre ++ l → F_R6_Equal_l0 (pre.length : Int) n n = some true
 | [], pre, h => by rw [F_R6_Equal_l0.eq_def, Z6 h, y0]
 | m :: l, pre, h => by
   have hl := len_lt h
   rw [F_R6_Equal_l0.eq_def]
   simp only [qa]
   rw [Z5 h, yf, Kj h, bs, bs, ih m (by rw [h]; simp), bs, nff, vy (by omega) m]
   exact equal_l0 n hn ih l (pre ++ [m]) (Qd h)
theorem equal_self {n : Node} (hg : n.gaps.length ≤ 1000000) (hn : n.kids.length ≤ 1000000) (ih : ∀ m ∈ n.kids, F_R6_Equal m m = some true) : F_R6_Equal n n = some true := by
 rw [F_R6_Equal.eq_def, decide_eq_true rfl, nff, decide_eq_true rfl, nff, strings_self _ hg, bs, nff, decide_eq_true rfl, nff]
 exact equal_l0 n hn ih n.kids [] rfl
theorem layW_mem (d : Int) : ∀ (S : List Step) (ks : List Node) (x : Node), x ∈ layW S (layL d ks) → ∃ m ∈ ks, ∃ l v, x = layN d m l v
 | [], ks, x, h => by rw [layW] at h; cases h
 | .own c w :: S, ks, x, h => by rw [layW] at h; exact layW_mem d S ks x h
 | .kid l v :: S, [], x, h => by rw [layL, layW] at h; cases h
 | .kid l v :: S, m :: ks, x, h => by
   rw [layL, layW] at h
   rcases List.mem_cons.1 h with h | h
   ·exact ⟨m, List.mem_cons_self .., l, v, h⟩
   ·obtain ⟨m', hm, q⟩ := layW_mem d S ks x h
    exact ⟨m', List.mem_cons_of_mem _ hm, q⟩
theorem equal_lay : ∀ (j : Nat) (n : Node), jl n ≤ j → checkErr n = 0 → ∀ l v, F_R6_Equal (layN 0 n l v) (layN 0 n l v) = some true
 | 0, n, h, _, _, _ => by have := wl n; omega
 | j + 1, n, h, hc, l, v => by
   have w := wn hc
   have e := w7 n
   have hle := w.le
   have ho := own_le 0 l v w.kn w.nk
   have hk := nk_eq 0 n.text l v w.kn w.nk
   have hs := uj (stepsOf 0 n.kind n.text n.kids.length l v)
   have hw := J8 (stepsOf 0 n.kind n.text n.kids.length l v) (layL 0 n.kids) (by rw [J9]; exact hk.symm)
   rw [Kh]
   refine equal_self ?_ ?_ ?_
   ·show (jj _).length ≤ _; omega
   ·show (layW _ _).length ≤ _; omega
   ·intro x hx
    obtain ⟨m, hm, l', v', rfl⟩ := layW_mem 0 _ _ x hx
    have := J0 hm
    exact equal_lay j m (by omega) (w.kids m hm) l' v'
@[reducible] def one : Node := .mk 17 ⟨#[49]⟩ [] []
@[reducible] def two : Node := .mk 17 ⟨#[50]⟩ [] []
@[reducible] def exA : Node := .mk 24 ⟨#[43]⟩ [⟨#[]⟩] [one, two]
@[reducible] def exB : Node := .mk 12 ⟨#[]⟩ [] [.mk 17 ⟨#[49]⟩ [⟨#[]⟩] []]
@[reducible] def exC : Node := .mk 24 ⟨#[63]⟩ [] [one, two]
@[reducible] def exD : Node := .mk 24 ⟨#[47]⟩ [] [one, .mk 17 ⟨#[50]⟩ [⟨#[47, 47, 32, 99, 10]⟩] []]
theorem exA_W : Y7 exA = ([⟨#[49]⟩, ⟨#[43]⟩, ⟨#[50]⟩], 0) := by kernel_rfl
theorem exA_T : K4 exA = (⟨#[49, 43, 32, 50]⟩, 0) := by kernel_rfl
theorem exA_P : plainV exA = (⟨#[49, 32, 43, 32, 50]⟩, 0) := by kernel_rfl
theorem exB_T : K4 exB = (⟨#[114, 101, 116, 117, 114, 110, 32, 49, 59]⟩, 0) := by kernel_rfl
theorem exC_T : K4 exC = (⟨#[]⟩, 7) := by kernel_rfl
theorem exD_T : K4 exD = (⟨#[49, 32, 47, 32, 47, 47, 32, 99, 10, 50]⟩, 0) := by kernel_rfl
theorem exA_L : layV exA = (.mk 24 ⟨#[43]⟩ [⟨#[32]⟩] [.mk 17 ⟨#[49]⟩ [⟨#[]⟩] [], .mk 17 ⟨#[50]⟩ [⟨#[32]⟩] []], 0) := by kernel_rfl
theorem Yk {α β : Type} {a : Option α} {x : α} (h : a = some x) (f : α → Option β) : (a >>= f) = f x := by rw [h]; rfl
theorem bdA : bdN exA := by simp only [exA, one, two, bdN, bdL]; decide
theorem bdB : bdN exB := by simp only [exB, bdN, bdL]; decide
theorem bdC : bdN exC := by simp only [exC, one, two, bdN, bdL]; decide
theorem bdD : bdN exD := by simp only [exD, one, bdN, bdL]; decide
theorem Y3 : F_L8_awake = some true := by
 have e1 := P_Words exA (by decide) (bd_wf exA bdA (by decide))
 have e2 := P_Text exA (by decide) bdA
 have e3 := P_Plain exA (by decide) bdA
 have e4 := P_Text exB (by decide) bdB
 have e5 := P_Text exC (by decide) bdC
 have e6 := P_Layout exA (by decide) (bd_wf exA bdA (by decide))
 have e7 := P_Text exD (by decide) bdD
 rw [exA_W] at e1; rw [exA_T] at e2; rw [exA_P] at e3; rw [exB_T] at e4; rw [exC_T] at e5; rw [exD_T] at e7
 rw [exA_L] at e6
 have s1 : F_L8_sum (⟨#[43]⟩ : ByteArray) = some (.mk 24 ⟨#[43]⟩ [] [one, two]) := by rw [F_L8_sum.eq_def]
 have s2 : F_L8_sum (⟨#[63]⟩ : ByteArray) = some exC := by rw [F_L8_sum.eq_def]
 have s3 : F_L8_sums1 (⟨#[47]⟩ : ByteArray) = some (.mk 24 ⟨#[47]⟩ [] [one, two]) := rfl
 rw [F_L8_awake.eq_def]
 refine (Yk s1 _).trans ?_
 refine (Yk e1 _).trans ?_
 refine (Yk e2 _).trans ?_
 refine (Yk e3 _).trans ?_
 refine (Yk e4 _).trans ?_
 refine (Yk s2 _).trans ?_
 refine (Yk e5 _).trans ?_
 refine (Yk e6 _).trans ?_
 refine (Yk s3 _).trans ?_
 refine (Yk (show ix (Node.kids (.mk 24 ⟨#[47]⟩ [] [one, two])) (1 : Int) = some two from rfl) _).trans ?_
 refine (Yk e7 _).trans ?_
 kernel_rfl
theorem L8_Words (n : Node) : F_L8_PrintWords n = some true := by
 obtain ⟨b, e, hb⟩ := P_small n
 rw [F_L8_PrintWords.eq_def, e, bs]
 cases b with
 | false => rw [ntt, Y3]; rfl
 | true =>
   obtain ⟨h1, h2⟩ := hb rfl
   have hw := bd_wf n h2 (by omega)
   rw [nff, P_Words n (by omega) hw, bs, R_Words n (by omega) hw, bs, same_self _ (by have := wordsV_len n (by omega); omega), bs, yf, decide_eq_true rfl, yf, Y3]; rfl
theorem L8_Texts (n : Node) : F_L8_PrintTexts n = some true := by
 obtain ⟨b, e, hb⟩ := P_small n
 rw [F_L8_PrintTexts.eq_def, e, bs]
 cases b with
 | false => rw [ntt, Y3]; rfl
 | true =>
   obtain ⟨h1, h2⟩ := hb rfl
   rw [nff, P_Text n (by omega) h2, bs, R_Text n (by omega) h2, bs, P_Plain n (by omega) h2, bs, R_Plain n (by omega) h2, bs, decide_eq_true rfl, yf, decide_eq_true rfl, yf, decide_eq_true rfl, yf, decide_eq_true rfl, yf, Y3]; rfl
theorem L8_Lays (n : Node) : F_L8_PrintLays n = some true := by
 obtain ⟨b, e, hb⟩ := P_small n
 rw [F_L8_PrintLays.eq_def, e, bs]
 cases b with
 | false => rw [ntt, Y3]; rfl
 | true =>
   obtain ⟨h1, h2⟩ := hb rfl
   have hw := bd_wf n h2 (by omega)
   have he : F_R6_Equal (layV n).1 (layV n).1 = some true := by
    unfold layV
    split
    ·rename_i c; exact equal_lay (jl n) n (Nat.le_refl _) c e0 0
    ·exact equal_self (Nat.zero_le _) (Nat.zero_le _) (fun m hm => by cases hm)
   rw [nff, P_Layout n (by omega) hw, bs, R_Layout n (by omega) hw, bs, he, bs, yf, decide_eq_true rfl, yf, Y3]; rfl
end Go.Proofs.YtbdhekefhcjhaaaGreatDoorW.Ex.Gr
