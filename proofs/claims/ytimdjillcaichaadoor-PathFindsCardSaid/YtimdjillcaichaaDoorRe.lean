/- The statements' own examples. No conditions. -/
import Derived.Test.YtimdjillcaichaaDoorRd
import Derived.KernelRfl
namespace Go.Proofs.YtimdjillcaichaaDoorW.Ex.Gr
open Go Go.Proofs.YtimdjillcaichaaDoorW.Ex
set_option linter.all false
set_option maxRecDepth 100000
def nu (c : UInt8) : Node := .mk 17 ⟨#[c]⟩ [] []
def bi (c : UInt8) (a b : Node) : Node := .mk 24 ⟨#[c]⟩ [] [a, b]
def aw3N : Node := bi 43 (nu 49) (nu 50)
def aw6N : Node := bi 42 (nu 51) (nu 52)
def awCN : Node := .mk 20 ⟨#[102]⟩ [] [aw3N]
theorem sz_plain (k : Int) (t : ByteArray) (l : List Node) (ht : t.size ≤ 9223372036854775807) (h : ∀ m ∈ l, Sz m) : Sz (.mk k t [] l) :=
  .mk _ (by show (0 : Nat) * 16 ≤ _; decide) ht (fun g h => by cases h) h
theorem sz_nu (c : UInt8) : Sz (nu c) := sz_plain _ _ _ (by show (1 : Nat) ≤ _; decide) (fun m h => by cases h)
theorem sz_bi (c : UInt8) (a b : Node) (ha : Sz a) (hb : Sz b) : Sz (bi c a b) := sz_plain _ _ _ (by show (1 : Nat) ≤ _; decide) (fun m h => by
  rcases List.mem_cons.1 h with rfl | h
  · exact ha
  · rw [List.mem_singleton] at h; rw [h]; exact hb)
theorem sz3 : Sz aw3N := sz_bi _ _ _ (sz_nu _) (sz_nu _)
theorem sz6 : Sz aw6N := sz_bi _ _ _ (sz_nu _) (sz_nu _)
theorem szC : Sz awCN := sz_plain _ _ _ (by show (1 : Nat) ≤ _; decide) (fun m h => by rw [List.mem_singleton] at h; rw [h]; exact sz3)
theorem szI : Sz (.mk 20 ⟨#[102]⟩ [] [aw3N, aw6N]) := sz_plain _ _ _ (by show (1 : Nat) ≤ _; decide) (fun m h => by
  rcases List.mem_cons.1 h with rfl | h
  · exact sz3
  · rw [List.mem_singleton] at h; rw [h]; exact sz6)
theorem chk_lit {n : Node} {e : Int} (h : (decide (checkErr n = 0)) = true) : chk n = (n, 0) := chk_of (of_decide_eq_true h)
theorem aw_of : F_path_Of aw3N 2 = some ([1], true) := by
  rw [P_path_Of aw3N (by decide) 2 (by decide)]; kernel_rfl
theorem aw_index : F_path_Index aw3N [1] = some (2, true) := by
  rw [P_path_Index aw3N [1] (by decide)]; kernel_rfl
theorem aw_get : F_path_Get aw3N [1] = some (nu 50, 0) := by
  rw [P_path_Get aw3N [1] sz3 (by decide)]; kernel_rfl
theorem aw_rep1 : F_path_Replace aw3N [0] aw6N = some (bi 43 aw6N (nu 50), 0) := by
  rw [show ([0] : List Int) = [] ++ [0] from rfl, P_Replace_snoc aw3N [] 0 aw6N aw3N (nu 49) sz3 sz6 (by decide) (by decide) (by decide) rfl rfl]
  kernel_rfl
theorem aw_rep2 : F_path_Replace aw6N [0] aw3N = some (zeroN, 7) := by
  rw [show ([0] : List Int) = [] ++ [0] from rfl, P_Replace_snoc aw6N [] 0 aw3N aw6N (nu 51) sz6 sz3 (by decide) (by decide) (by decide) rfl rfl]
  kernel_rfl
theorem aw_ins : F_path_Insert awCN [1] aw6N = some (.mk 20 ⟨#[102]⟩ [] [aw3N, aw6N], 0) := by
  rw [show ([1] : List Int) = [] ++ [1] from rfl, P_Insert_snoc awCN [] 1 aw6N awCN szC sz6 (by decide) (by decide) (by decide) rfl]
  kernel_rfl
theorem aw_rem : F_path_Remove (.mk 20 ⟨#[102]⟩ [] [aw3N, aw6N]) [0] = some (.mk 20 ⟨#[102]⟩ [] [aw6N], 0) := by
  rw [show ([0] : List Int) = [] ++ [0] from rfl, P_Remove_snoc (.mk 20 ⟨#[102]⟩ [] [aw3N, aw6N]) [] 0 _ aw3N szI (by decide) (by decide) rfl rfl]
  kernel_rfl
theorem P_awake : F_L10_awake = some true := by
  have n1 : ∀ c : UInt8, F_L10_number ⟨#[c]⟩ = some (nu c) := fun c => by rw [E_F_L10_number]; rfl
  have b1 : ∀ (c : UInt8) (a b : Node), F_L10_binary ⟨#[c]⟩ a b = some (bi c a b) := fun c a b => by rw [E_F_L10_binary]; rfl
  rw [E_F_L10_awake, n1, bs, n1, bs, b1, bs, n1, bs, n1, bs, b1, bs]
  show (F_path_Of aw3N 2 >>= fun x7 => _) = _
  rw [aw_of, bs]
  show (F_path_Index aw3N [1] >>= fun x7 => _) = _
  rw [aw_index, bs]
  show (F_path_Get aw3N [1] >>= fun x7 => _) = _
  rw [aw_get, bs]
  show (F_path_Replace aw3N [0] aw6N >>= fun x7 => _) = _
  rw [aw_rep1, bs]
  show (F_path_Replace aw6N [0] aw3N >>= fun x7 => _) = _
  rw [aw_rep2, bs]
  show (F_path_Insert awCN [1] aw6N >>= fun x7 => _) = _
  rw [aw_ins, bs, aw_rem, bs]
  kernel_rfl
end Go.Proofs.YtimdjillcaichaaDoorW.Ex.Gr
