/- The examples of law 8 on the printed functions. No conditions beside those in each theorem. -/
import Derived.Test.YtimcdpioclioiaaGreatDoorHg
import Derived.KernelRfl
namespace Go.Proofs.YtimcdpioclioiaaGreatDoorW.Ex.Gr
open Go Go.Proofs.YtimcdpioclioiaaGreatDoorW.Ex Tk
set_option linter.all false
set_option maxRecDepth 100000
@[reducible] def one : Node := .mk 17 ⟨#[49]⟩ [] []
@[reducible] def two : Node := .mk 17 ⟨#[50]⟩ [] []
@[reducible] def exA : Node := .mk 24 ⟨#[43]⟩ [⟨#[]⟩] [one, two]
@[reducible] def exB : Node := .mk 12 ⟨#[]⟩ [] [.mk 17 ⟨#[49]⟩ [⟨#[]⟩] []]
@[reducible] def exC : Node := .mk 24 ⟨#[63]⟩ [] [one, two]
@[reducible] def exD : Node := .mk 24 ⟨#[47]⟩ [] [one, .mk 17 ⟨#[50]⟩ [⟨#[47, 47, 32, 99, 10]⟩] []]
theorem exA_W : Y4 exA = ([⟨#[49]⟩, ⟨#[43]⟩, ⟨#[50]⟩], 0) := by kernel_rfl
theorem exA_T : Ji exA = (⟨#[49, 43, 32, 50]⟩, 0) := by kernel_rfl
theorem exA_P : Kc exA = (⟨#[49, 32, 43, 32, 50]⟩, 0) := by kernel_rfl
theorem exB_T : Ji exB = (⟨#[114, 101, 116, 117, 114, 110, 32, 49, 59]⟩, 0) := by kernel_rfl
theorem exC_T : Ji exC = (⟨#[]⟩, 7) := by kernel_rfl
theorem exD_T : Ji exD = (⟨#[49, 32, 47, 32, 47, 47, 32, 99, 10, 50]⟩, 0) := by kernel_rfl
theorem exA_L : layV exA = (.mk 24 ⟨#[43]⟩ [⟨#[32]⟩] [.mk 17 ⟨#[49]⟩ [⟨#[]⟩] [], .mk 17 ⟨#[50]⟩ [⟨#[32]⟩] []], 0) := by kernel_rfl
theorem J9 {α β : Type} {a : Option α} {x : α} (h : a = some x) (f : α → Option β) : (a >>= f) = f x := by rw [h]; rfl
theorem bdA : bdN exA := by simp only [exA, one, two, bdN, bdL]; decide
theorem bdB : bdN exB := by simp only [exB, bdN, bdL]; decide
theorem bdC : bdN exC := by simp only [exC, one, two, bdN, bdL]; decide
theorem bdD : bdN exD := by simp only [exD, one, bdN, bdL]; decide
theorem P_awake : F_L8_awake = some true := by
 have e1 := P_Words exA (by decide) (bd_wf exA bdA (by decide))
 have e2 := P_Text exA (by decide) bdA
 have e3 := P_Plain exA (by decide) bdA
 have e4 := P_Text exB (by decide) bdB
 have e5 := P_Text exC (by decide) bdC
 have e6 := P_Layout exA (by decide) (bd_wf exA bdA (by decide))
 have e7 := P_Text exD (by decide) bdD
 rw [exA_W] at e1; rw [exA_T] at e2; rw [exA_P] at e3; rw [exB_T] at e4; rw [exC_T] at e5; rw [exD_T] at e7
 rw [exA_L] at e6
 have s1 : F_L8_sum (⟨#[43]⟩ : ByteArray) = some (.mk 24 ⟨#[43]⟩ [] [one, two]) := by rw [F_L8_sum.eq_def]
 have s2 : F_L8_sum (⟨#[63]⟩ : ByteArray) = some exC := by rw [F_L8_sum.eq_def]
 have s3 : F_L8_sums1 (⟨#[47]⟩ : ByteArray) = some (.mk 24 ⟨#[47]⟩ [] [one, two]) := rfl
 rw [F_L8_awake.eq_def]
 refine (J9 s1 _).trans ?_
 refine (J9 e1 _).trans ?_
 refine (J9 e2 _).trans ?_
 refine (J9 e3 _).trans ?_
 refine (J9 e4 _).trans ?_
 refine (J9 s2 _).trans ?_
 refine (J9 e5 _).trans ?_
 refine (J9 e6 _).trans ?_
 refine (J9 s3 _).trans ?_
 refine (J9 (show ix (Node.kids (.mk 24 ⟨#[47]⟩ [] [one, two])) (1 : Int) = some two from rfl) _).trans ?_
 refine (J9 e7 _).trans ?_
 kernel_rfl
end Go.Proofs.YtimcdpioclioiaaGreatDoorW.Ex.Gr
