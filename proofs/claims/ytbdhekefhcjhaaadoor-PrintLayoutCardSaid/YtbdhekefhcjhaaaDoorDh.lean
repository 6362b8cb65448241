/- The examples of law 8, and equal trees, on the printed functions. No conditions beside those in each theorem. -/
import Derived.Test.YtbdhekefhcjhaaaDoorDg
import Derived.KernelRfl
namespace Go.Proofs.YtbdhekefhcjhaaaDoorW.Ex.Gr
open Go Go.Proofs.YtbdhekefhcjhaaaDoorW.Ex Tk
set_option linter.all false
set_option maxRecDepth 100000
theorem strings_l0 (L : List BA) (hn : L.length ≤ 1000000) : ∀ (l pre : List BA), L = pre ++ l → F_R3_Strings_l0 L L (pre.length : Int) = some true
 | [], pre, h => by rw [F_R3_Strings_l0.eq_def, vf h, yf]
 | m :: l, pre, h => by
   have hl := Jl h
   rw [F_R3_Strings_l0.eq_def]
   simp only [qa]
   rw [ve h, ju, Qj h, bs, bs, decide_eq_true rfl, nff, uc (by omega) m]
   exact strings_l0 L hn l (pre ++ [m]) (uh h)
theorem strings_self (l : List BA) (h : l.length ≤ 1000000) : F_R3_Strings l l = some true := by
 rw [F_R3_Strings.eq_def, decide_eq_true rfl, nff]
 exact strings_l0 l h l [] rfl
theorem equal_l0 (n : Node) (hn : n.kids.length ≤ 1000000) (ih : ∀ m ∈ n.kids, F_R6_Equal m m = some true) : ∀ (l pre : List Node), n.kids = pre ++ l → F_R6_Equal_l0 (pre.length : Int) n n = some true
 | [], pre, h => by rw [F_R6_Equal_l0.eq_def, vf h, yf]
 | m :: l, pre, h => by
   have hl := Jl h
   rw [F_R6_Equal_l0.eq_def]
   simp only [qa]
   rw [ve h, ju, Qj h, bs, bs, ih m (by rw [h]; simp), bs, nff, uc (by omega) m]
   exact equal_l0 n hn ih l (pre ++ [m]) (uh h)
theorem equal_self {n : Node} (hg : n.gaps.length ≤ 1000000) (hn : n.kids.length ≤ 1000000) (ih : ∀ m ∈ n.kids, F_R6_Equal m m = some true) : F_R6_Equal n n = some true := by
 rw [F_R6_Equal.eq_def, decide_eq_true rfl, nff, decide_eq_true rfl, nff, strings_self _ hg, bs, nff, decide_eq_true rfl, nff]
 exact equal_l0 n hn ih n.kids [] rfl
theorem layW_mem (d : Int) : ∀ (S : List Step) (ks : List Node) (x : Node), x ∈ layW S (layL d ks) → ∃ m ∈ ks, ∃ l v, x = layN d m l v
 | [], ks, x, h => by rw [layW] at h; cases h
 | .own c w :: S, ks, x, h => by rw [layW] at h; exact layW_mem d S ks x h
 | .kid l v :: S, [], x, h => by rw [layL, layW] at h; cases h
 | .kid l v :: S, m :: ks, x, h => by
   rw [layL, layW] at h
   rcases List.mem_cons.1 h with h | h
   ·exact ⟨m, List.mem_cons_self .., l, v, h⟩
   ·obtain ⟨m', hm, q⟩ := layW_mem d S ks x h
    exact ⟨m', List.mem_cons_of_mem _ hm, q⟩
theorem equal_lay : ∀ (j : Nat) (n : Node), zw n ≤ j → checkErr n = 0 → ∀ l v, F_R6_Equal (layN 0 n l v) (layN 0 n l v) = some true
 | 0, n, h, _, _, _ => by have := yb n; omega
 | j + 1, n, h, hc, l, v => by
   have w := wn hc
   have e := ye n
   have hle := w.le
   have ho := own_le 0 l v w.kn w.nk
   have hk := nk_eq 0 n.text l v w.kn w.nk
   have hs := wz (stepsOf 0 n.kind n.text n.kids.length l v)
   have hw := Kq (stepsOf 0 n.kind n.text n.kids.length l v) (layL 0 n.kids) (by rw [Ks]; exact hk.symm)
   rw [yn]
   refine equal_self ?_ ?_ ?_
   ·show (ym _).length ≤ _; omega
   ·show (layW _ _).length ≤ _; omega
   ·intro x hx
    obtain ⟨m, hm, l', v', rfl⟩ := layW_mem 0 _ _ x hx
    have := ke hm
    exact equal_lay j m (by omega) (w.kids m hm) l' v'
@[reducible] def one : Node := .mk 17 ⟨#[49]⟩ [] []
@[reducible] def two : Node := .mk 17 ⟨#[50]⟩ [] []
@[reducible] def exA : Node := .mk 24 ⟨#[43]⟩ [⟨#[]⟩] [one, two]
@[reducible] def exB : Node := .mk 12 ⟨#[]⟩ [] [.mk 17 ⟨#[49]⟩ [⟨#[]⟩] []]
@[reducible] def exC : Node := .mk 24 ⟨#[63]⟩ [] [one, two]
@[reducible] def exD : Node := .mk 24 ⟨#[47]⟩ [] [one, .mk 17 ⟨#[50]⟩ [⟨#[47, 47, 32, 99, 10]⟩] []]
theorem exA_W : wordsV exA = ([⟨#[49]⟩, ⟨#[43]⟩, ⟨#[50]⟩], 0) := by kernel_rfl
theorem exA_T : Jc exA = (⟨#[49, 43, 32, 50]⟩, 0) := by kernel_rfl
theorem exA_P : plainV exA = (⟨#[49, 32, 43, 32, 50]⟩, 0) := by kernel_rfl
theorem exB_T : Jc exB = (⟨#[114, 101, 116, 117, 114, 110, 32, 49, 59]⟩, 0) := by kernel_rfl
theorem exC_T : Jc exC = (⟨#[]⟩, 7) := by kernel_rfl
theorem exD_T : Jc exD = (⟨#[49, 32, 47, 32, 47, 47, 32, 99, 10, 50]⟩, 0) := by kernel_rfl
theorem exA_L : layV exA = (.mk 24 ⟨#[43]⟩ [⟨#[32]⟩] [.mk 17 ⟨#[49]⟩ [⟨#[]⟩] [], .mk 17 ⟨#[50]⟩ [⟨#[32]⟩] []], 0) := by kernel_rfl
theorem Jw {α β : Type} {a : Option α} {x : α} (h : a = some x) (f : α → Option β) : (a >>= f) = f x := by rw [h]; rfl
theorem bdA : bdN exA := by simp only [exA, one, two, bdN, bdL]; decide
theorem bdB : bdN exB := by simp only [exB, bdN, bdL]; decide
theorem bdC : bdN exC := by simp only [exC, one, two, bdN, bdL]; decide
theorem bdD : bdN exD := by simp only [exD, one, bdN, bdL]; decide
theorem Yh : F_L8_awake = some true := by
 have e1 := P_Words exA (by decide) (bd_wf exA bdA (by decide))
 have e2 := P_Text exA (by decide) bdA
 have e3 := P_Plain exA (by decide) bdA
 have e4 := P_Text exB (by decide) bdB
 have e5 := P_Text exC (by decide) bdC
 have e6 := P_Layout exA (by decide) (bd_wf exA bdA (by decide))
 have e7 := P_Text exD (by decide) bdD
 rw [exA_W] at e1; rw [exA_T] at e2; rw [exA_P] at e3; rw [exB_T] at e4; rw [exC_T] at e5; rw [exD_T] at e7
 rw [exA_L] at e6
 have s1 : F_L8_sum (⟨#[43]⟩ : ByteArray) = some (.mk 24 ⟨#[43]⟩ [] [one, two]) := by rw [F_L8_sum.eq_def]
 have s2 : F_L8_sum (⟨#[63]⟩ : ByteArray) = some exC := by rw [F_L8_sum.eq_def]
 have s3 : F_L8_sums1 (⟨#[47]⟩ : ByteArray) = some (.mk 24 ⟨#[47]⟩ [] [one, two]) := rfl
 rw [F_L8_awake.eq_def]
 refine (Jw s1 _).trans ?_
 refine (Jw e1 _).trans ?_
 refine (Jw e2 _).trans ?_
 refine (Jw e3 _).trans ?_
 refine (Jw e4 _).trans ?_
 refine (Jw s2 _).trans ?_
 refine (Jw e5 _).trans ?_
 refine (Jw e6 _).trans ?_
 refine (Jw s3 _).trans ?_
 refine (Jw (show ix (Node.kids (.mk 24 ⟨#[47]⟩ [] [one, two])) (1 : Int) = some two from rfl) _).trans ?_
 refine (Jw e7 _).trans ?_
 kernel_rfl
end Go.Proofs.YtbdhekefhcjhaaaDoorW.Ex.Gr
