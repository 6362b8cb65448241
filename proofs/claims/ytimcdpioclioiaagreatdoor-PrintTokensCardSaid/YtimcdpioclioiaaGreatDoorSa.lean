/- Strings: the library's functions, trivia and names, in the program and in the references. No conditions beside those in each theorem. -/
import Derived.Test.YtimcdpioclioiaaGreatDoorExF
import Derived.Test.YtimcdpioclioiaaGreatDoorPlain
import Derived.LoopTactic
import Derived.WalkKit
import Derived.KernelRfl
namespace Go.Proofs.YtimcdpioclioiaaGreatDoorW.Ex.Gr
open Go Go.Proofs.YtimcdpioclioiaaGreatDoorW.Ex
set_option linter.all false
set_option maxRecDepth 100000
open Go.Proofs.YtimcdpioclioiaaGreatDoorW.Plain Go.RowKit
variable {G : Nat → List AV}
theorem kw {k : IntKind} {a b : Int} (h : a = b) : AV.int k a = AV.int k b := by rw [h]
theorem ju {a b : Bool} (h : a = b) : AV.bool a = AV.bool b := by rw [h]
theorem zr {x : Int} (h0 : -9223372036854775808 ≤ x) (h1 : x ≤ 9223372036854775807) : IntKind.i64.wrap x = x := by
 have hb : IntKind.i64.bits = 64 := rfl
 have hs : IntKind.i64.signed = true := rfl
 simp only [IntKind.wrap, hb, hs, Bool.true_and]
 split <;> rename_i h <;> simp at h <;> omega
section
variable {w : World} {S : Nat → Prop} {β : Nat → Nat} {n : Nat} {vs : Array Value}
theorem vs_str {s : ByteArray} (h : RVs w S β n [.str s] vs) : vs = #[.string s] := by
 obtain ⟨h1, h2⟩ := h
 have a := h2 0 _ rfl
 have e : vs = #[vs.getD 0 Go.undef] := by
  apply Array.ext
  ·simpa using h1
  ·intro i h3 h4
   have hi : i < 1 := by simpa using h4
   obtain rfl : i = 0 := by omega
   simp [Array.getD_eq_getD_getElem?, h3]
 generalize vs.getD 0 Go.undef = v at a e
 cases a
 exact e
theorem vs_str_int {s : ByteArray} {k : IntKind} {m : Int} (h : RVs w S β n [.str s, .int k m] vs) : vs = #[.string s, .int k m] := by
 obtain ⟨h1, h2⟩ := h
 have a := h2 0 _ rfl
 have b := h2 1 _ rfl
 have e := two vs h1
 generalize vs.getD 0 Go.undef = v at a e
 generalize vs.getD 1 Go.undef = u at b e
 cases a
 cases b
 exact e
end
theorem slite_same (a0 : ByteArray) (a1 : Int) (w : World) : Calls Tryz.prog 93 #[.string a0, .int .u8 a1] w fun e w' => e = .returned (.int .i64 (Lib.indexByte a0.data.toList a1.toNat.toUInt8)) ∧ w' = w := by
 go_enter Tryz.func93, Tryz.ntmps93
 go_wp2
 rw [run_callFunc_extern Tryz.func102 (by kernel_rfl) (by kernel_rfl) (by kernel_rfl) (e := Extern.BytealgIndexByte.indexByte) (by kernel_rfl), Lib.run_indexByteString]
 simp only [Result.andThen]
 rw [Oper.upon_value]
 go_wp2
 go_ret
 exact ⟨rfl, rfl⟩
theorem Z7 (s : ByteArray) (c : Int) : Fn Tryz.prog G 93 [.str s, .int .u8 c] (.int .i64 (Lib.indexByte s.data.toList c.toNat.toUInt8)) :=
 Ql (fun vs w => by simp) fun w S β n vs hv => by
  rw [vs_str_int hv]
  refine (slite_same s c w).mono ?_
  rintro e w' ⟨rfl, rfl⟩
  exact ⟨⟨_, rfl, fun _ _ _ => .int _ _⟩, Below.refl _ _⟩
set_option maxHeartbeats 4000000 in
/-- strings.IndexByte -/
theorem Qg (s : ByteArray) (c : Int) : Fn Tryz.prog G 77 [.str s, .int .u8 c] (.int .i64 (Lib.indexByte s.data.toList c.toNat.toUInt8)) := by
 refine zg (T := tt) (N := 8) (rs := [.tmp 4]) (fun vs w => by simp) Tryz.func77 rfl rfl rfl rfl (by kernel_rfl) (zd rfl) (qo _ rfl) ?_
 repeat' first
  | refine zl env rfl ?_
  | refine ql (Z7 _ _) ?_
  | refine qm (fun h => ?_) (fun h => ?_)
  | refine qr (fun h => ?_) (fun h => ?_)
  | refine qg (fun h => ?_) (fun h => ?_)
  | refine zi env rfl rfl (qq ?_)
  | refine zb env rfl (qq ?_)
 all_goals rfl
theorem utest (b c : UInt8) : decide ((b.toNat : Int) = (c.toNat : Int)) = decide (b = c) := by
 rw [decide_eq_decide]
 constructor
 ·intro h; exact UInt8.toNat_inj.1 (by omega)
 ·rintro rfl; rfl
def y8 (s p : ByteArray) : Bool := decide (p.size ≤ s.size) && decide (s.extract 0 p.size = p)
theorem pre_slashes (s : ByteArray) (k : Nat) (h : k ≤ s.size) : y8 (s.extract k s.size) (⟨#[47, 47]⟩ : ByteArray) = w0 (s.data.toList.drop k) := by
 have hd := extract_rest s k
 generalize s.extract k s.size = t at *
 have ht : t.data.toList.length = t.size := len_bytes t
 rw [← hd]
 unfold y8
 have h2 : (⟨#[47, 47]⟩ : ByteArray).size = 2 := rfl
 rw [h2]
 have e : ∀ u : ByteArray, (u = ⟨#[47, 47]⟩) = (u.data.toList = [47, 47]) := by
  intro u
  apply propext
  constructor
  ·rintro rfl; rfl
  ·intro h
   rcases u with ⟨⟨l⟩⟩
   simp only at h
   subst h; rfl
 rw [Bool.eq_iff_iff]
 simp only [Bool.and_eq_true, decide_eq_true_eq, e, ByteArray.data_extract, Array.toList_extract, List.extract_eq_take_drop]
 match hl : t.data.toList with
 | [] => rw [hl] at ht; simp [w0]
 | [c] => rw [hl] at ht; simp [w0]
 | c :: d :: r => rw [hl] at ht; simp [w0]; simp at ht; omega
set_option maxHeartbeats 4000000 in
/-- internal/stringslite.HasPrefix -/
theorem Z8 (s p : ByteArray) : Fn Tryz.prog G 38 [.str s, .str p] (.bool (y8 s p)) := by
 refine zg (T := tt) (N := 18) (rs := [.tmp 4]) (fun vs w => by simp) Tryz.func38 rfl rfl rfl rfl (by kernel_rfl) (zd rfl) (qo _ rfl) ?_
 repeat' first
  | refine zl env rfl ?_
  | (refine Ok_str (l := 0) (h := p.size) env rfl rfl rfl rfl (bound_eq rfl) (Nat.zero_le _) ?_ ?_; (· simpa using h))
  | refine qm (fun h => ?_) (fun h => ?_)
  | refine qr (fun h => ?_) (fun h => ?_)
  | refine qg (fun h => ?_) (fun h => ?_)
  | refine zi env rfl rfl (qq ?_)
  | refine zb env rfl (qq ?_)
 all_goals refine ju ?_
 all_goals simp_all [y8]
 all_goals omega
set_option maxHeartbeats 4000000 in
/-- strings.HasPrefix -/
theorem K5 (s p : ByteArray) : Fn Tryz.prog G 19 [.str s, .str p] (.bool (y8 s p)) := by
 refine zg (T := tt) (N := 8) (rs := [.tmp 4]) (fun vs w => by simp) Tryz.func19 rfl rfl rfl rfl (by kernel_rfl) (zd rfl) (qo _ rfl) ?_
 repeat' first
  | refine zl env rfl ?_
  | refine ql (Z8 _ _) ?_
  | refine qm (fun h => ?_) (fun h => ?_)
  | refine qr (fun h => ?_) (fun h => ?_)
  | refine qg (fun h => ?_) (fun h => ?_)
  | refine zi env rfl rfl (qq ?_)
  | refine zb env rfl (qq ?_)
 all_goals rfl
set_option maxHeartbeats 4000000 in
/-- treemerge/trivia.End$1 -/
theorem K0 (s : ByteArray) : Fn Tryz.prog G 66 [.str s] (.tup []) := by
 refine zg (T := tt) (N := 2) (rs := []) (fun vs w => by simp) Tryz.func66 rfl rfl rfl rfl (by kernel_rfl) (zd rfl) (qo _ rfl) ?_
 repeat' first
  | refine zl env rfl ?_
  | refine qm (fun h => ?_) (fun h => ?_)
  | refine qr (fun h => ?_) (fun h => ?_)
  | refine qg (fun h => ?_) (fun h => ?_)
  | refine zi env rfl rfl (qq ?_)
  | refine zb env rfl (qq ?_)
 all_goals rfl
theorem triv_turn (s : ByteArray) (a k : Nat) (hs : s.size ≤ 9223372036854775807) (hJ : k ≤ s.size ∧ z8 s a = z8 s k) :
 (∃ b, s[k]? = some b ∧ decide ((k : Int) < (s.size : Int)) = true ∧ IntKind.i64.wrap ((k : Int) + 1) = ((k + 1 : Nat) : Int) ∧ k + 1 ≤ s.size ∧ z8 s a = z8 s (k + 1) ∧
   (decide ((b.toNat : Int) = 32) = true ∨ (decide ((b.toNat : Int) = 32) = false ∧ decide ((b.toNat : Int) = 9) = true) ∨ (decide ((b.toNat : Int) = 32) = false ∧ decide ((b.toNat : Int) = 9) = false ∧ decide ((b.toNat : Int) = 10) = true))) ∨
 (∃ b, s[k]? = some b ∧ decide ((k : Int) < (s.size : Int)) = true ∧ decide ((b.toNat : Int) = 32) = false ∧ decide ((b.toNat : Int) = 9) = false ∧ decide ((b.toNat : Int) = 10) = false ∧
   ((y8 (s.extract k s.size) ⟨#[47, 47]⟩ = false ∧ z8 s a = k) ∨
    (y8 (s.extract k s.size) ⟨#[47, 47]⟩ = true ∧ decide (Lib.indexByte (s.extract k s.size).data.toList (10 : Int).toNat.toUInt8 < 0) = true ∧ z8 s a = k) ∨
    (∃ n : Nat, y8 (s.extract k s.size) ⟨#[47, 47]⟩ = true ∧ decide (Lib.indexByte (s.extract k s.size).data.toList (10 : Int).toNat.toUInt8 < 0) = false ∧ Lib.indexByte (s.extract k s.size).data.toList (10 : Int).toNat.toUInt8 = n ∧
      IntKind.i64.wrap ((k : Int) + Lib.indexByte (s.extract k s.size).data.toList (10 : Int).toNat.toUInt8) = ((k + n : Nat) : Int) ∧ IntKind.i64.wrap ((k : Int) + IntKind.i64.wrap (Lib.indexByte (s.extract k s.size).data.toList (10 : Int).toNat.toUInt8 + 1)) = ((k + n + 1 : Nat) : Int) ∧
      k + n + 1 ≤ s.size ∧ z8 s a = z8 s (k + n + 1)))) ∨
 (decide ((k : Int) < (s.size : Int)) = false ∧ z8 s a = k) := by
 obtain ⟨hk, he⟩ := hJ
 have c10 : (10 : Int).toNat.toUInt8 = 10 := rfl
 have t1 : ∀ b : UInt8, decide ((b.toNat : Int) = 32) = decide (b = 32) := fun b => utest b 32
 have t2 : ∀ b : UInt8, decide ((b.toNat : Int) = 9) = decide (b = 9) := fun b => utest b 9
 have t3 : ∀ b : UInt8, decide ((b.toNat : Int) = 10) = decide (b = 10) := fun b => utest b 10
 simp only [t1, t2, t3, c10, pre_slashes s k hk, extract_rest]
 by_cases hlt : k < s.size
 ·have hd : decide ((k : Int) < (s.size : Int)) = true := by simpa using hlt
  have hb : s[k]? = some s[k] := getElem?_pos s k hlt
  by_cases h : s[k] = 32 ∨ s[k] = 9 ∨ s[k] = 10
  ·refine .inl ⟨s[k], hb, hd, zr (by omega) (by omega), hlt, by rw [he, trivEnd_blank s k hlt h], ?_⟩
   rcases h with h | h | h <;> rw [h] <;> simp
  ·refine .inr (.inl ⟨s[k], hb, hd, ?_⟩)
   have h1 : ¬ s[k] = 32 := fun e => h (.inl e)
   have h2 : ¬ s[k] = 9 := fun e => h (.inr (.inl e))
   have h3 : ¬ s[k] = 10 := fun e => h (.inr (.inr e))
   refine ⟨decide_eq_false h1, decide_eq_false h2, decide_eq_false h3, ?_⟩
   cases hsl : w0 (s.data.toList.drop k) with
   | false => exact .inl ⟨rfl, by rw [he, trivEnd_stop s k hlt h hsl]⟩
   | true =>
     rcases wj (s.data.toList.drop k) with ⟨hi, _⟩ | ⟨n, hi, hn2, _⟩
     ·exact .inr (.inl ⟨rfl, by rw [hi]; rfl, by rw [he, trivEnd_open s k hlt hsl hi]⟩)
     ·have hln := trivEnd_line s k n hlt hsl hi
      refine .inr (.inr ⟨n, rfl, by rw [hi]; simp, hi, ?_, ?_, hln.1, by rw [he, hln.2]⟩)
      ·rw [hi, zr (by omega) (by omega)]; rfl
      ·rw [hi, zr (x := (n : Int) + 1) (by omega) (by omega), zr (by omega) (by omega)]; omega
 ·exact .inr (.inr ⟨by simpa using hlt, by rw [he, trivEnd_fin s k (by omega)]⟩)
set_option maxHeartbeats 4000000 in
/-- treemerge/trivia.walk -/
theorem trivia_walk_End (s : ByteArray) (a : Nat) (ha : a ≤ s.size) (hs : s.size ≤ 9223372036854775807) : Fn Tryz.prog G 65 [.str s, .int .i64 a, .fn 66 []] (.int .i64 (z8 s a : Nat)) := by
 refine zg (T := tt) (N := 47) (rs := [.tmp 6]) (fun vs w => by simp) Tryz.func65 rfl rfl rfl rfl (by kernel_rfl) (zd rfl) (qo _ rfl) ?_
 repeat' first
  | refine zl env rfl ?_
  | refine Ok_call0 (K0 _) ?_
  | refine ql (K0 _) ?_
  | (refine k7 (α := Nat) (fun k => k ≤ s.size ∧ z8 s a = z8 s k) (fun k => s.size - k) (fun k => [(1, .int .i64 k)]) (fun _ => []) (a) (fun _ => rfl) (fun _ => rfl) (⟨ha, rfl⟩) ?_ ?_ (fun k hJ => ?_); (· simp [leFT, leV, leOs, leO, leC, rho, AV.ren, AV.ren1, AV.un, AV.un1, AV.closed]); (· simp [leFT, leV, leOs, leO, leC, rho, AV.ren, AV.ren1, AV.un, AV.un1, AV.closed]); rcases triv_turn s a k hs hJ with ⟨b, hb, hd, hw, hle, he, h1 | ⟨h1, h2⟩ | ⟨h1, h2, h3⟩⟩ | ⟨b, hb, hd, h1, h2, h3, ⟨hp, he⟩ | ⟨hp, hi, he⟩ | ⟨n, hp, hi, hn, hw1, hw2, hle, he⟩⟩ | ⟨hd, he⟩)
  | refine kz rfl ?_
  | refine yz rfl rfl ?_
  | (refine ko (k + 1) ?_ ?_ ?_ ?_; (· exact ⟨hle, he⟩); (· omega); (· simp [leFT, leV, leOs, leO, leC, rho, AV.ren, AV.ren1, AV.un, AV.un1, AV.closed, hw]); (· simp [leFT, leV, leOs, leO, leC, rho, AV.ren, AV.ren1, AV.un, AV.un1, AV.closed]))
  | (refine ko (k + n + 1) ?_ ?_ ?_ ?_; (· exact ⟨hle, he⟩); (· omega); (· (simp only [hw2]; simp [leFT, leV, leOs, leO, leC, rho, AV.ren, AV.ren1, AV.un, AV.un1, AV.closed])); (· simp [leFT, leV, leOs, leO, leC, rho, AV.ren, AV.ren1, AV.un, AV.un1, AV.closed]))
  | refine Zw env rfl rfl rfl rfl rfl hb ?_
  | refine Ok_str (l := k) (h := s.size) env rfl rfl rfl (bound_eq rfl) rfl hJ.1 (Nat.le_refl _) ?_
  | refine Ok_str (l := k) (h := k + n) env rfl rfl rfl (bound_eq rfl) (bound_eq hw1) (Nat.le_add_right _ _) (by omega) ?_
  | (refine qc ?_ ?_; (· simp only [hd]))
  | (refine qd ?_ ?_; (· simp only [hd]))
  | (refine qf ?_ ?_; (· simp only [hd]))
  | (refine qe ?_ ?_; (· simp only [hd]))
  | (refine qh ?_ ?_; (· simp only [hd]))
  | (refine qi ?_ ?_; (· simp only [hd]))
  | (refine qc ?_ ?_; (· simp only [h1]))
  | (refine qd ?_ ?_; (· simp only [h1]))
  | (refine qf ?_ ?_; (· simp only [h1]))
  | (refine qe ?_ ?_; (· simp only [h1]))
  | (refine qh ?_ ?_; (· simp only [h1]))
  | (refine qi ?_ ?_; (· simp only [h1]))
  | (refine qc ?_ ?_; (· simp only [h2]))
  | (refine qd ?_ ?_; (· simp only [h2]))
  | (refine qf ?_ ?_; (· simp only [h2]))
  | (refine qe ?_ ?_; (· simp only [h2]))
  | (refine qh ?_ ?_; (· simp only [h2]))
  | (refine qi ?_ ?_; (· simp only [h2]))
  | (refine qc ?_ ?_; (· simp only [h3]))
  | (refine qd ?_ ?_; (· simp only [h3]))
  | (refine qf ?_ ?_; (· simp only [h3]))
  | (refine qe ?_ ?_; (· simp only [h3]))
  | (refine qh ?_ ?_; (· simp only [h3]))
  | (refine qi ?_ ?_; (· simp only [h3]))
  | (refine qc ?_ ?_; (· simp only [hp, Bool.not_true, Bool.not_false]))
  | (refine qd ?_ ?_; (· simp only [hp, Bool.not_true, Bool.not_false]))
  | (refine qf ?_ ?_; (· simp only [hp, Bool.not_true, Bool.not_false]))
  | (refine qe ?_ ?_; (· simp only [hp, Bool.not_true, Bool.not_false]))
  | (refine qh ?_ ?_; (· simp only [hp, Bool.not_true, Bool.not_false]))
  | (refine qi ?_ ?_; (· simp only [hp, Bool.not_true, Bool.not_false]))
  | (refine qc ?_ ?_; (· simp only [hi]))
  | (refine qd ?_ ?_; (· simp only [hi]))
  | (refine qf ?_ ?_; (· simp only [hi]))
  | (refine qe ?_ ?_; (· simp only [hi]))
  | (refine qh ?_ ?_; (· simp only [hi]))
  | (refine qi ?_ ?_; (· simp only [hi]))
  | refine ql (K5 _ _) ?_
  | refine ql (Qg _ _) ?_
  | refine qm (fun h => ?_) (fun h => ?_)
  | refine qr (fun h => ?_) (fun h => ?_)
  | refine qg (fun h => ?_) (fun h => ?_)
  | refine zi env rfl rfl (qq ?_)
  | refine zb env rfl (qq ?_)
 all_goals refine kw ?_
 all_goals simp only [he]
def Y2 (s : ByteArray) (a : Int) : Int := if 0 ≤ a ∧ a ≤ s.size then (z8 s a.toNat : Nat) else a
theorem J5 {s : ByteArray} {k : Nat} (h : k ≤ s.size) : Y2 s k = (z8 s k : Nat) := by
 unfold Y2
 rw [if_pos ⟨by omega, by omega⟩, Int.toNat_natCast]
def ye (s : ByteArray) : Bool := decide (Y2 s 0 = s.size)
set_option maxHeartbeats 4000000 in
/-- treemerge/trivia.End -/
theorem trivia_End (s : ByteArray) (a : Int) (hs : s.size ≤ 9223372036854775807) : Fn Tryz.prog G 42 [.str s, .int .i64 a] (.int .i64 (Y2 s a)) := by
 by_cases hlo : a < 0
 case pos =>
  have d1 : decide (a < 0) = true := decide_eq_true hlo
  rw [show Y2 s a = a from if_neg (by omega)]
  refine zg (T := tt) (N := 17) (rs := [.tmp 4]) (fun vs w => by simp) Tryz.func42 rfl rfl rfl rfl (by kernel_rfl) (zd rfl) (qo _ rfl) ?_
  repeat' first
   | refine zl env rfl ?_
   | (refine qc ?_ ?_; (· simp only [d1]))
   | (refine qd ?_ ?_; (· simp only [d1]))
   | (refine qf ?_ ?_; (· simp only [d1]))
   | (refine qe ?_ ?_; (· simp only [d1]))
   | (refine qh ?_ ?_; (· simp only [d1]))
   | (refine qi ?_ ?_; (· simp only [d1]))
   | (refine qc ?_ ?_; (· simp only [d2]))
   | (refine qd ?_ ?_; (· simp only [d2]))
   | (refine qf ?_ ?_; (· simp only [d2]))
   | (refine qe ?_ ?_; (· simp only [d2]))
   | (refine qh ?_ ?_; (· simp only [d2]))
   | (refine qi ?_ ?_; (· simp only [d2]))
   | refine qm (fun h => ?_) (fun h => ?_)
   | refine qr (fun h => ?_) (fun h => ?_)
   | refine qg (fun h => ?_) (fun h => ?_)
   | refine zi env rfl rfl (qq ?_)
   | refine zb env rfl (qq ?_)
  all_goals rfl
 have d1 : decide (a < 0) = false := decide_eq_false hlo
 by_cases hhi : (s.size : Int) < a
 case pos =>
  have d2 : decide ((s.size : Int) < a) = true := decide_eq_true hhi
  rw [show Y2 s a = a from if_neg (by omega)]
  refine zg (T := tt) (N := 17) (rs := [.tmp 4]) (fun vs w => by simp) Tryz.func42 rfl rfl rfl rfl (by kernel_rfl) (zd rfl) (qo _ rfl) ?_
  repeat' first
   | refine zl env rfl ?_
   | (refine qc ?_ ?_; (· simp only [d1]))
   | (refine qd ?_ ?_; (· simp only [d1]))
   | (refine qf ?_ ?_; (· simp only [d1]))
   | (refine qe ?_ ?_; (· simp only [d1]))
   | (refine qh ?_ ?_; (· simp only [d1]))
   | (refine qi ?_ ?_; (· simp only [d1]))
   | (refine qc ?_ ?_; (· simp only [d2]))
   | (refine qd ?_ ?_; (· simp only [d2]))
   | (refine qf ?_ ?_; (· simp only [d2]))
   | (refine qe ?_ ?_; (· simp only [d2]))
   | (refine qh ?_ ?_; (· simp only [d2]))
   | (refine qi ?_ ?_; (· simp only [d2]))
   | refine qm (fun h => ?_) (fun h => ?_)
   | refine qr (fun h => ?_) (fun h => ?_)
   | refine qg (fun h => ?_) (fun h => ?_)
   | refine zi env rfl rfl (qq ?_)
   | refine zb env rfl (qq ?_)
  all_goals rfl
 have d2 : decide ((s.size : Int) < a) = false := decide_eq_false hhi
 obtain ⟨m, rfl⟩ : ∃ m : Nat, a = m := ⟨a.toNat, by omega⟩
 have hm : m ≤ s.size := by omega
 rw [J5 hm]
 refine zg (T := tt) (N := 17) (rs := [.tmp 4]) (fun vs w => by simp) Tryz.func42 rfl rfl rfl rfl (by kernel_rfl) (zd rfl) (qo _ rfl) ?_
 repeat' first
  | refine zl env rfl ?_
  | (refine qc ?_ ?_; (· simp only [d1]))
  | (refine qd ?_ ?_; (· simp only [d1]))
  | (refine qf ?_ ?_; (· simp only [d1]))
  | (refine qe ?_ ?_; (· simp only [d1]))
  | (refine qh ?_ ?_; (· simp only [d1]))
  | (refine qi ?_ ?_; (· simp only [d1]))
  | (refine qc ?_ ?_; (· simp only [d2]))
  | (refine qd ?_ ?_; (· simp only [d2]))
  | (refine qf ?_ ?_; (· simp only [d2]))
  | (refine qe ?_ ?_; (· simp only [d2]))
  | (refine qh ?_ ?_; (· simp only [d2]))
  | (refine qi ?_ ?_; (· simp only [d2]))
  | refine ql (trivia_walk_End s m hm hs) ?_
  | refine qm (fun h => ?_) (fun h => ?_)
  | refine qr (fun h => ?_) (fun h => ?_)
  | refine qg (fun h => ?_) (fun h => ?_)
  | refine zi env rfl rfl (qq ?_)
  | refine zb env rfl (qq ?_)
 all_goals rfl
set_option maxHeartbeats 4000000 in
/-- treemerge/trivia.Valid -/
theorem trivia_Valid (s : ByteArray) (hs : s.size ≤ 9223372036854775807) : Fn Tryz.prog G 74 [.str s] (.bool (ye s)) := by
 refine zg (T := tt) (N := 8) (rs := [.tmp 2]) (fun vs w => by simp) Tryz.func74 rfl rfl rfl rfl (by kernel_rfl) (zd rfl) (qo _ rfl) ?_
 repeat' first
  | refine zl env rfl ?_
  | refine ql (trivia_End s 0 hs) ?_
  | refine qm (fun h => ?_) (fun h => ?_)
  | refine qr (fun h => ?_) (fun h => ?_)
  | refine qg (fun h => ?_) (fun h => ?_)
  | refine zi env rfl rfl (qq ?_)
  | refine zb env rfl (qq ?_)
 all_goals rfl
def j8 (s : ByteArray) (k : Nat) : Nat := match jk (s.data.toList.drop k) with | some r => s.size - r.length | none => k
theorem stepEnd_spec (s : ByteArray) (k : Nat) (hk : k ≤ s.size) : j8 s k ≤ s.size ∧ ((k < j8 s k ∧ z8 s k = z8 s (j8 s k)) ∨ (j8 s k = k ∧ z8 s k = k)) := by
 have hl := len_bytes s
 unfold j8
 cases h : jk (s.data.toList.drop k) with
 | none => exact ⟨hk, .inr ⟨rfl, Zg s k hk h⟩⟩
 | some r =>
   have h1 := vc _ r h
   rw [List.length_drop, hl] at h1
   have h2 : s.data.toList.drop (s.size - r.length) = r := by
    have : ∃ j, r = (s.data.toList.drop k).drop j := by
     cases hd : s.data.toList.drop k with
     | nil => rw [hd] at h; cases h
     | cons c l =>
       rw [hd, jx] at h
       split at h
       ·simp only [Option.some.injEq] at h; exact ⟨1, by rw [← h]; rfl⟩
       ·split at h
        ·rcases wj l with ⟨_, h5⟩ | ⟨m, _, _, h5⟩
         ·rw [h5] at h; cases h
         ·rw [h5] at h; simp only [Option.some.injEq] at h; exact ⟨m + 1 + 1, by rw [← h]; rfl⟩
        ·cases h
    obtain ⟨j, hj⟩ := this
    rw [List.drop_drop] at hj
    have h3 : r.length = s.size - (k + j) := by rw [hj, List.length_drop, hl]
    by_cases h4 : k + j ≤ s.size
    ·rw [hj, List.length_drop, hl]; congr 1; omega
    ·have : r = [] := by rw [hj]; exact List.drop_of_length_le (by omega)
     rw [this, List.drop_of_length_le (by simp [hl])]
   refine ⟨by simp, .inl ⟨by show k < s.size - r.length; omega, ?_⟩⟩
   unfold z8
   rw [wd _ r h]
   simp only
   rw [h2]
theorem step_turn (s : ByteArray) (k : Nat) (hs : s.size ≤ 9223372036854775807) (hk : k ≤ s.size) :
 (decide ((s.size : Int) ≤ (k : Int)) = true ∧ j8 s k = k) ∨
 (∃ b, s[k]? = some b ∧ decide ((s.size : Int) ≤ (k : Int)) = false ∧ IntKind.i64.wrap ((k : Int) + 1) = ((k + 1 : Nat) : Int) ∧ j8 s k = k + 1 ∧
   (decide ((b.toNat : Int) = 32) = true ∨ (decide ((b.toNat : Int) = 32) = false ∧ decide ((b.toNat : Int) = 9) = true) ∨ (decide ((b.toNat : Int) = 32) = false ∧ decide ((b.toNat : Int) = 9) = false ∧ decide ((b.toNat : Int) = 10) = true))) ∨
 (∃ b, s[k]? = some b ∧ decide ((s.size : Int) ≤ (k : Int)) = false ∧ decide ((b.toNat : Int) = 32) = false ∧ decide ((b.toNat : Int) = 9) = false ∧ decide ((b.toNat : Int) = 10) = false ∧ IntKind.i64.wrap ((k : Int) + 1) = ((k + 1 : Nat) : Int) ∧
   ((j8 s k = k ∧ (decide ((b.toNat : Int) = 47) = false ∨ (decide ((b.toNat : Int) = 47) = true ∧ decide ((s.size : Int) ≤ IntKind.i64.wrap ((k : Int) + 1)) = true))) ∨
    (∃ c, s[k + 1]? = some c ∧ decide ((b.toNat : Int) = 47) = true ∧ decide ((s.size : Int) ≤ IntKind.i64.wrap ((k : Int) + 1)) = false ∧
     ((j8 s k = k ∧ decide ((c.toNat : Int) = 47) = false) ∨
      (decide ((c.toNat : Int) = 47) = true ∧ ∀ i : Nat, k ≤ i → i ≤ s.size → zy (s.data.toList.drop k) = zy (s.data.toList.drop i) →
       (∃ e, s[i]? = some e ∧ decide ((i : Int) < (s.size : Int)) = true ∧ IntKind.i64.wrap ((i : Int) + 1) = ((i + 1 : Nat) : Int) ∧ i < s.size ∧
         ((decide ((e.toNat : Int) = 10) = true ∧ j8 s k = i + 1) ∨ (decide ((e.toNat : Int) = 10) = false ∧ zy (s.data.toList.drop k) = zy (s.data.toList.drop (i + 1))))) ∨
       (decide ((i : Int) < (s.size : Int)) = false ∧ j8 s k = k)))))) := by
 have hl := len_bytes s
 have t1 : ∀ b : UInt8, decide ((b.toNat : Int) = 32) = decide (b = 32) := fun b => utest b 32
 have t2 : ∀ b : UInt8, decide ((b.toNat : Int) = 9) = decide (b = 9) := fun b => utest b 9
 have t3 : ∀ b : UInt8, decide ((b.toNat : Int) = 10) = decide (b = 10) := fun b => utest b 10
 have t4 : ∀ b : UInt8, decide ((b.toNat : Int) = 47) = decide (b = 47) := fun b => utest b 47
 simp only [t1, t2, t3, t4]
 by_cases hlt : k < s.size
 ·have hd : decide ((s.size : Int) ≤ (k : Int)) = false := decide_eq_false (by omega)
  have hw : IntKind.i64.wrap ((k : Int) + 1) = ((k + 1 : Nat) : Int) := zr (by omega) (by omega)
  have hb : s[k]? = some s[k] := getElem?_pos s k hlt
  have hst : jk (s.data.toList.drop k) = if s[k] = 32 ∨ s[k] = 9 ∨ s[k] = 10 then some (s.data.toList.drop (k + 1)) else if s[k] = 47 ∧ (s.data.toList.drop (k + 1)).head? = some 47 then zy (s.data.toList.drop (k + 1)) else none := by
   rw [yi s k hlt, jx]
  by_cases h : s[k] = 32 ∨ s[k] = 9 ∨ s[k] = 10
  ·refine .inr (.inl ⟨s[k], hb, hd, hw, ?_, ?_⟩)
   ·unfold j8
    rw [hst, if_pos h]
    simp only [List.length_drop, hl]; omega
   ·rcases h with h | h | h <;> rw [h] <;> simp
  ·have h1 : ¬ s[k] = 32 := fun e => h (.inl e)
   have h2 : ¬ s[k] = 9 := fun e => h (.inr (.inl e))
   have h3 : ¬ s[k] = 10 := fun e => h (.inr (.inr e))
   rw [if_neg h] at hst
   refine .inr (.inr ⟨s[k], hb, hd, decide_eq_false h1, decide_eq_false h2, decide_eq_false h3, hw, ?_⟩)
   rw [hw]
   by_cases h47 : s[k] = 47
   ·by_cases h5 : k + 1 < s.size
    ·have hc : s[k + 1]? = some s[k + 1] := getElem?_pos s (k + 1) h5
     have hhd : (s.data.toList.drop (k + 1)).head? = some s[k + 1] := by rw [yi s (k + 1) h5]; rfl
     refine .inr ⟨s[k + 1], hc, decide_eq_true h47, decide_eq_false (by omega), ?_⟩
     by_cases h6 : s[k + 1] = 47
     ·refine .inr ⟨decide_eq_true h6, fun i hi1 hi2 hi3 => ?_⟩
      rw [if_pos ⟨h47, by rw [hhd, h6]⟩] at hst
      have hst2 : jk (s.data.toList.drop k) = zy (s.data.toList.drop k) := by
       rw [hst, yi s k hlt]
       show _ = if s[k] = 10 then _ else _
       rw [if_neg h3]
      rw [hi3] at hst2
      by_cases h7 : i < s.size
      ·refine .inl ⟨s[i], getElem?_pos s i h7, by simpa using h7, zr (by omega) (by omega), h7, ?_⟩
       have e : zy (s.data.toList.drop i) = if s[i] = 10 then some (s.data.toList.drop (i + 1)) else zy (s.data.toList.drop (i + 1)) := by rw [yi s i h7]; rfl
       by_cases h8 : s[i] = 10
       ·refine .inl ⟨decide_eq_true h8, ?_⟩
        unfold j8
        rw [hst2, e, if_pos h8]
        simp only [List.length_drop, hl]; omega
       ·refine .inr ⟨decide_eq_false h8, ?_⟩
        rw [hi3, e, if_neg h8]
      ·refine .inr ⟨decide_eq_false (by omega), ?_⟩
       unfold j8
       rw [hst2, List.drop_of_length_le (by omega)]
       rfl
     ·refine .inl ⟨?_, decide_eq_false h6⟩
      unfold j8
      rw [hst, if_neg (by rw [hhd]; intro h9; exact h6 (Option.some.inj h9.2))]
    ·refine .inl ⟨?_, .inr ⟨decide_eq_true h47, decide_eq_true (by omega)⟩⟩
     unfold j8
     rw [hst, if_neg (by rw [List.drop_of_length_le (by omega)]; intro h9; cases h9.2)]
   ·refine .inl ⟨?_, .inl (decide_eq_false h47)⟩
    unfold j8
    rw [hst, if_neg (fun h9 => h47 h9.1)]
 ·refine .inl ⟨decide_eq_true (by omega), ?_⟩
  unfold j8
  rw [List.drop_of_length_le (by omega)]
  rfl
set_option maxHeartbeats 4000000 in
/-- R4.step -/
theorem R4_step (s : ByteArray) (k : Nat) (hs : s.size ≤ 9223372036854775807) (hk : k ≤ s.size) : Fn Tryz.prog G 96 [.str s, .int .i64 k] (.int .i64 (j8 s k : Nat)) := by
 rcases step_turn s k hs hk with ⟨hd, he⟩ | ⟨b, hb, hd, hw, he, h1 | ⟨h1, h2⟩ | ⟨h1, h2, h3⟩⟩ | ⟨b, hb, hd, h1, h2, h3, hw, ⟨he, h4 | ⟨h4, h5⟩⟩ | ⟨c, hc, h4, h5, ⟨he, h6⟩ | ⟨h6, h7⟩⟩⟩
 all_goals
  refine zg (T := tt) (N := 62) (rs := [.tmp 4]) (fun vs w => by simp) Tryz.func96 rfl rfl rfl rfl (by kernel_rfl) (zd rfl) (qo _ rfl) ?_
  repeat' first
   | refine zl env rfl ?_
   | (refine k7 (α := Nat) (fun i => k ≤ i ∧ i ≤ s.size ∧ zy (s.data.toList.drop k) = zy (s.data.toList.drop i)) (fun i => s.size - i) (fun i => [(5, .int .i64 i)]) (fun _ => []) (k) (fun _ => rfl) (fun _ => rfl) (⟨Nat.le_refl _, hk, rfl⟩) ?_ ?_ (fun i hJ => ?_); (· simp [leFT, leV, leOs, leO, leC, rho, AV.ren, AV.ren1, AV.un, AV.un1, AV.closed]); (· simp [leFT, leV, leOs, leO, leC, rho, AV.ren, AV.ren1, AV.un, AV.un1, AV.closed]); rcases h7 i hJ.1 hJ.2.1 hJ.2.2 with ⟨e, hx, g1, hw1, hle, ⟨g2, he⟩ | ⟨g2, he⟩⟩ | ⟨g1, he⟩)
   | refine kz rfl ?_
   | refine yz rfl rfl ?_
   | (refine ko (i + 1) ?_ ?_ ?_ ?_; (· exact ⟨by omega, by omega, he⟩); (· omega); (· (simp only [hw1]; simp [leFT, leV, leOs, leO, leC, rho, AV.ren, AV.ren1, AV.un, AV.un1, AV.closed])); (· simp [leFT, leV, leOs, leO, leC, rho, AV.ren, AV.ren1, AV.un, AV.un1, AV.closed]))
   | (refine qc ?_ ?_; (· simp only [hd]))
   | (refine qd ?_ ?_; (· simp only [hd]))
   | (refine qf ?_ ?_; (· simp only [hd]))
   | (refine qe ?_ ?_; (· simp only [hd]))
   | (refine qh ?_ ?_; (· simp only [hd]))
   | (refine qi ?_ ?_; (· simp only [hd]))
   | (refine qc ?_ ?_; (· simp only [h1]))
   | (refine qd ?_ ?_; (· simp only [h1]))
   | (refine qf ?_ ?_; (· simp only [h1]))
   | (refine qe ?_ ?_; (· simp only [h1]))
   | (refine qh ?_ ?_; (· simp only [h1]))
   | (refine qi ?_ ?_; (· simp only [h1]))
   | (refine qc ?_ ?_; (· simp only [h2]))
   | (refine qd ?_ ?_; (· simp only [h2]))
   | (refine qf ?_ ?_; (· simp only [h2]))
   | (refine qe ?_ ?_; (· simp only [h2]))
   | (refine qh ?_ ?_; (· simp only [h2]))
   | (refine qi ?_ ?_; (· simp only [h2]))
   | (refine qc ?_ ?_; (· simp only [h3]))
   | (refine qd ?_ ?_; (· simp only [h3]))
   | (refine qf ?_ ?_; (· simp only [h3]))
   | (refine qe ?_ ?_; (· simp only [h3]))
   | (refine qh ?_ ?_; (· simp only [h3]))
   | (refine qi ?_ ?_; (· simp only [h3]))
   | (refine qc ?_ ?_; (· simp only [h4, Bool.not_true, Bool.not_false]))
   | (refine qd ?_ ?_; (· simp only [h4, Bool.not_true, Bool.not_false]))
   | (refine qf ?_ ?_; (· simp only [h4, Bool.not_true, Bool.not_false]))
   | (refine qe ?_ ?_; (· simp only [h4, Bool.not_true, Bool.not_false]))
   | (refine qh ?_ ?_; (· simp only [h4, Bool.not_true, Bool.not_false]))
   | (refine qi ?_ ?_; (· simp only [h4, Bool.not_true, Bool.not_false]))
   | (refine qc ?_ ?_; (· simp only [h5]))
   | (refine qd ?_ ?_; (· simp only [h5]))
   | (refine qf ?_ ?_; (· simp only [h5]))
   | (refine qe ?_ ?_; (· simp only [h5]))
   | (refine qh ?_ ?_; (· simp only [h5]))
   | (refine qi ?_ ?_; (· simp only [h5]))
   | (refine qc ?_ ?_; (· simp only [h6, Bool.not_true, Bool.not_false]))
   | (refine qd ?_ ?_; (· simp only [h6, Bool.not_true, Bool.not_false]))
   | (refine qf ?_ ?_; (· simp only [h6, Bool.not_true, Bool.not_false]))
   | (refine qe ?_ ?_; (· simp only [h6, Bool.not_true, Bool.not_false]))
   | (refine qh ?_ ?_; (· simp only [h6, Bool.not_true, Bool.not_false]))
   | (refine qi ?_ ?_; (· simp only [h6, Bool.not_true, Bool.not_false]))
   | (refine qc ?_ ?_; (· simp only [g1]))
   | (refine qd ?_ ?_; (· simp only [g1]))
   | (refine qf ?_ ?_; (· simp only [g1]))
   | (refine qe ?_ ?_; (· simp only [g1]))
   | (refine qh ?_ ?_; (· simp only [g1]))
   | (refine qi ?_ ?_; (· simp only [g1]))
   | (refine qc ?_ ?_; (· simp only [g2]))
   | (refine qd ?_ ?_; (· simp only [g2]))
   | (refine qf ?_ ?_; (· simp only [g2]))
   | (refine qe ?_ ?_; (· simp only [g2]))
   | (refine qh ?_ ?_; (· simp only [g2]))
   | (refine qi ?_ ?_; (· simp only [g2]))
   | refine Zw env rfl rfl rfl rfl rfl hb ?_
   | refine Zw env rfl rfl rfl rfl hw hc ?_
   | refine Zw env rfl rfl rfl rfl rfl hx ?_
   | refine qm (fun h => ?_) (fun h => ?_)
   | refine qr (fun h => ?_) (fun h => ?_)
   | refine qg (fun h => ?_) (fun h => ?_)
   | refine zi env rfl rfl (qq ?_)
   | refine zb env rfl (qq ?_)
  all_goals refine kw ?_
  all_goals simp only [he]
  all_goals first | done | assumption
theorem end_turn (s : ByteArray) (a k : Nat) (hJ : k ≤ s.size ∧ z8 s a = z8 s k) :
 (decide ((k : Int) < (j8 s k : Nat)) = true ∧ k < j8 s k ∧ j8 s k ≤ s.size ∧ z8 s a = z8 s (j8 s k)) ∨ (decide ((k : Int) < (j8 s k : Nat)) = false ∧ z8 s a = k) := by
 obtain ⟨h1, h2 | h2⟩ := stepEnd_spec s k hJ.1
 ·exact .inl ⟨decide_eq_true (by omega), h2.1, h1, by rw [hJ.2, h2.2]⟩
 ·exact .inr ⟨decide_eq_false (by omega), by rw [hJ.2, h2.2]⟩
set_option maxHeartbeats 4000000 in
/-- treemerge/treemergeref04.End -/
theorem R4_End (s : ByteArray) (a : Int) (hs : s.size ≤ 9223372036854775807) : Fn Tryz.prog G 85 [.str s, .int .i64 a] (.int .i64 (Y2 s a)) := by
 by_cases hlo : a < 0
 case pos =>
  have d1 : decide (a < 0) = true := decide_eq_true hlo
  rw [show Y2 s a = a from if_neg (by omega)]
  refine zg (T := tt) (N := 23) (rs := [.tmp 4]) (fun vs w => by simp) Tryz.func85 rfl rfl rfl rfl (by kernel_rfl) (zd rfl) (qo _ rfl) ?_
  repeat' first
   | refine zl env rfl ?_
   | (refine qc ?_ ?_; (· simp only [d1]))
   | (refine qd ?_ ?_; (· simp only [d1]))
   | (refine qf ?_ ?_; (· simp only [d1]))
   | (refine qe ?_ ?_; (· simp only [d1]))
   | (refine qh ?_ ?_; (· simp only [d1]))
   | (refine qi ?_ ?_; (· simp only [d1]))
   | (refine qc ?_ ?_; (· simp only [d2]))
   | (refine qd ?_ ?_; (· simp only [d2]))
   | (refine qf ?_ ?_; (· simp only [d2]))
   | (refine qe ?_ ?_; (· simp only [d2]))
   | (refine qh ?_ ?_; (· simp only [d2]))
   | (refine qi ?_ ?_; (· simp only [d2]))
   | refine qm (fun h => ?_) (fun h => ?_)
   | refine qr (fun h => ?_) (fun h => ?_)
   | refine qg (fun h => ?_) (fun h => ?_)
   | refine zi env rfl rfl (qq ?_)
   | refine zb env rfl (qq ?_)
  all_goals rfl
 have d1 : decide (a < 0) = false := decide_eq_false hlo
 by_cases hhi : (s.size : Int) < a
 case pos =>
  have d2 : decide ((s.size : Int) < a) = true := decide_eq_true hhi
  rw [show Y2 s a = a from if_neg (by omega)]
  refine zg (T := tt) (N := 23) (rs := [.tmp 4]) (fun vs w => by simp) Tryz.func85 rfl rfl rfl rfl (by kernel_rfl) (zd rfl) (qo _ rfl) ?_
  repeat' first
   | refine zl env rfl ?_
   | (refine qc ?_ ?_; (· simp only [d1]))
   | (refine qd ?_ ?_; (· simp only [d1]))
   | (refine qf ?_ ?_; (· simp only [d1]))
   | (refine qe ?_ ?_; (· simp only [d1]))
   | (refine qh ?_ ?_; (· simp only [d1]))
   | (refine qi ?_ ?_; (· simp only [d1]))
   | (refine qc ?_ ?_; (· simp only [d2]))
   | (refine qd ?_ ?_; (· simp only [d2]))
   | (refine qf ?_ ?_; (· simp only [d2]))
   | (refine qe ?_ ?_; (· simp only [d2]))
   | (refine qh ?_ ?_; (· simp only [d2]))
   | (refine qi ?_ ?_; (· simp only [d2]))
   | refine qm (fun h => ?_) (fun h => ?_)
   | refine qr (fun h => ?_) (fun h => ?_)
   | refine qg (fun h => ?_) (fun h => ?_)
   | refine zi env rfl rfl (qq ?_)
   | refine zb env rfl (qq ?_)
  all_goals rfl
 have d2 : decide ((s.size : Int) < a) = false := decide_eq_false hhi
 obtain ⟨m, rfl⟩ : ∃ m : Nat, a = m := ⟨a.toNat, by omega⟩
 have hm : m ≤ s.size := by omega
 rw [J5 hm]
 refine zg (T := tt) (N := 23) (rs := [.tmp 4]) (fun vs w => by simp) Tryz.func85 rfl rfl rfl rfl (by kernel_rfl) (zd rfl) (qo _ rfl) ?_
 repeat' first
  | refine zl env rfl ?_
  | (refine k7 (α := Nat) (fun k => k ≤ s.size ∧ z8 s m = z8 s k) (fun k => s.size - k) (fun k => [(1, .int .i64 k)]) (fun _ => []) (m) (fun _ => rfl) (fun _ => rfl) (⟨hm, rfl⟩) ?_ ?_ (fun k hJ => ?_); (· simp [leFT, leV, leOs, leO, leC, rho, AV.ren, AV.ren1, AV.un, AV.un1, AV.closed]); (· simp [leFT, leV, leOs, leO, leC, rho, AV.ren, AV.ren1, AV.un, AV.un1, AV.closed]); rcases end_turn s m k hJ with ⟨hd, hlt, hle, he⟩ | ⟨hd, he⟩)
  | refine kz rfl ?_
  | refine yz rfl rfl ?_
  | (refine ko (j8 s k) ?_ ?_ ?_ ?_; (· exact ⟨hle, he⟩); (· omega); (· simp [leFT, leV, leOs, leO, leC, rho, AV.ren, AV.ren1, AV.un, AV.un1, AV.closed]); (· simp [leFT, leV, leOs, leO, leC, rho, AV.ren, AV.ren1, AV.un, AV.un1, AV.closed]))
  | (refine qc ?_ ?_; (· simp only [d1]))
  | (refine qd ?_ ?_; (· simp only [d1]))
  | (refine qf ?_ ?_; (· simp only [d1]))
  | (refine qe ?_ ?_; (· simp only [d1]))
  | (refine qh ?_ ?_; (· simp only [d1]))
  | (refine qi ?_ ?_; (· simp only [d1]))
  | (refine qc ?_ ?_; (· simp only [d2]))
  | (refine qd ?_ ?_; (· simp only [d2]))
  | (refine qf ?_ ?_; (· simp only [d2]))
  | (refine qe ?_ ?_; (· simp only [d2]))
  | (refine qh ?_ ?_; (· simp only [d2]))
  | (refine qi ?_ ?_; (· simp only [d2]))
  | (refine qc ?_ ?_; (· simp only [hd]))
  | (refine qd ?_ ?_; (· simp only [hd]))
  | (refine qf ?_ ?_; (· simp only [hd]))
  | (refine qe ?_ ?_; (· simp only [hd]))
  | (refine qh ?_ ?_; (· simp only [hd]))
  | (refine qi ?_ ?_; (· simp only [hd]))
  | refine ql (R4_step s k hs hJ.1) ?_
  | refine qm (fun h => ?_) (fun h => ?_)
  | refine qr (fun h => ?_) (fun h => ?_)
  | refine qg (fun h => ?_) (fun h => ?_)
  | refine zi env rfl rfl (qq ?_)
  | refine zb env rfl (qq ?_)
 all_goals refine kw ?_
 all_goals simp only [he]
set_option maxHeartbeats 4000000 in
/-- treemerge/treemergeref04.Valid -/
theorem R4_Valid (s : ByteArray) (hs : s.size ≤ 9223372036854775807) : Fn Tryz.prog G 64 [.str s] (.bool (ye s)) := by
 refine zg (T := tt) (N := 8) (rs := [.tmp 2]) (fun vs w => by simp) Tryz.func64 rfl rfl rfl rfl (by kernel_rfl) (zd rfl) (qo _ rfl) ?_
 repeat' first
  | refine zl env rfl ?_
  | refine ql (R4_End s 0 hs) ?_
  | refine qm (fun h => ?_) (fun h => ?_)
  | refine qr (fun h => ?_) (fun h => ?_)
  | refine qg (fun h => ?_) (fun h => ?_)
  | refine zi env rfl rfl (qq ?_)
  | refine zb env rfl (qq ?_)
 all_goals rfl
end Go.Proofs.YtimcdpioclioiaaGreatDoorW.Ex.Gr
