/- Strings: the library's functions, trivia and names, in the program and in the references. No conditions beside those in each theorem. -/
import Derived.Test.YtigmilhpeodhbaaGreatDoorExF
import Derived.Test.YtigmilhpeodhbaaGreatDoorPlain
import Derived.LoopTactic
import Derived.WalkKit
import Derived.KernelRfl
namespace Go.Proofs.YtigmilhpeodhbaaGreatDoorW.Ex.Gr
open Go Go.Proofs.YtigmilhpeodhbaaGreatDoorW.Ex
set_option linter.all false
set_option maxRecDepth 100000
open Go.Proofs.YtigmilhpeodhbaaGreatDoorW.Plain Go.RowKit
variable {G : Nat → List AV}
theorem Jt {k : IntKind} {a b : Int} (h : a = b) : AV.int k a = AV.int k b := by rw [h]
theorem wy {a b : Bool} (h : a = b) : AV.bool a = AV.bool b := by rw [h]
theorem j6 {x : Int} (h0 : -9223372036854775808 ≤ x) (h1 : x ≤ 9223372036854775807) : IntKind.i64.wrap x = x := by
 have hb : IntKind.i64.bits = 64 := rfl
 have hs : IntKind.i64.signed = true := rfl
 simp only [IntKind.wrap, hb, hs, Bool.true_and]
 split <;> rename_i h <;> simp at h <;> omega
section
variable {w : World} {S : Nat → Prop} {β : Nat → Nat} {n : Nat} {vs : Array Value}
theorem qvm {s : ByteArray} (h : RVs w S β n [.str s] vs) : vs = #[.string s] := by
 obtain ⟨h1, h2⟩ := h
 have a := h2 0 _ rfl
 have e : vs = #[vs.getD 0 Go.undef] := by
  apply Array.ext
  ·simpa using h1
  ·intro i h3 h4
   have hi : i < 1 := by simpa using h4
   obtain rfl : i = 0 := by omega
   simp [Array.getD_eq_getD_getElem?, h3]
 generalize vs.getD 0 Go.undef = v at a e
 cases a
 exact e
theorem qvl {s : ByteArray} {k : IntKind} {m : Int} (h : RVs w S β n [.str s, .int k m] vs) : vs = #[.string s, .int k m] := by
 obtain ⟨h1, h2⟩ := h
 have a := h2 0 _ rfl
 have b := h2 1 _ rfl
 have e := two vs h1
 generalize vs.getD 0 Go.undef = v at a e
 generalize vs.getD 1 Go.undef = u at b e
 cases a
 cases b
 exact e
end
theorem qvs (a0 : ByteArray) (a1 : Int) (w : World) : Calls Tryz.prog 151 #[.string a0, .int .u8 a1] w fun e w' => e = .returned (.int .i64 (Lib.indexByte a0.data.toList a1.toNat.toUInt8)) ∧ w' = w := by
 go_enter Tryz.func151, Tryz.ntmps151
 go_wp2
 rw [run_callFunc_extern Tryz.func160 (by kernel_rfl) (by kernel_rfl) (by kernel_rfl) (e := Extern.BytealgIndexByte.indexByte) (by kernel_rfl), Lib.run_indexByteString]
 simp only [Result.andThen]
 rw [Oper.upon_value]
 go_wp2
 go_ret
 exact ⟨rfl, rfl⟩
theorem qfy (s : ByteArray) (c : Int) : Fn Tryz.prog G 151 [.str s, .int .u8 c] (.int .i64 (Lib.indexByte s.data.toList c.toNat.toUInt8)) :=
 qg4 (fun vs w => by simp) fun w S β n vs hv => by
  rw [qvl hv]
  refine (qvs s c w).mono ?_
  rintro e w' ⟨rfl, rfl⟩
  exact ⟨⟨_, rfl, fun _ _ _ => .int _ _⟩, Below.refl _ _⟩
set_option maxHeartbeats 4000000 in
/-- strings.IndexByte -/
theorem qc4 (s : ByteArray) (c : Int) : Fn Tryz.prog G 142 [.str s, .int .u8 c] (.int .i64 (Lib.indexByte s.data.toList c.toNat.toUInt8)) := by
 refine zk (T := tt) (N := 8) (rs := [.tmp 4]) (fun vs w => by simp) Tryz.func142 rfl rfl rfl rfl (by kernel_rfl) (zl rfl) (qz _ rfl) ?_
 repeat' first
  | refine ji env rfl ?_
  | refine ql (qfy _ _) ?_
  | refine qr (fun h => ?_) (fun h => ?_)
  | refine qu (fun h => ?_) (fun h => ?_)
  | refine qj (fun h => ?_) (fun h => ?_)
  | refine zd env rfl rfl (q4 ?_)
  | refine zm env rfl (q4 ?_)
 all_goals rfl
theorem qi1 (b c : UInt8) : decide ((b.toNat : Int) = (c.toNat : Int)) = decide (b = c) := by
 rw [decide_eq_decide]
 constructor
 ·intro h; exact UInt8.toNat_inj.1 (by omega)
 ·rintro rfl; rfl
def Zx (s p : ByteArray) : Bool := decide (p.size ≤ s.size) && decide (s.extract 0 p.size = p)
theorem qti (s : ByteArray) (k : Nat) (h : k ≤ s.size) : Zx (s.extract k s.size) (⟨#[47, 47]⟩ : ByteArray) = Kr (s.data.toList.drop k) := by
 have hd := qjr s k
 generalize s.extract k s.size = t at *
 have ht : t.data.toList.length = t.size := len_bytes t
 rw [← hd]
 unfold Zx
 have h2 : (⟨#[47, 47]⟩ : ByteArray).size = 2 := rfl
 rw [h2]
 have e : ∀ u : ByteArray, (u = ⟨#[47, 47]⟩) = (u.data.toList = [47, 47]) := by
  intro u
  apply propext
  constructor
  ·rintro rfl; rfl
  ·intro h
   rcases u with ⟨⟨l⟩⟩
   simp only at h
   subst h; rfl
 rw [Bool.eq_iff_iff]
 simp only [Bool.and_eq_true, decide_eq_true_eq, e, ByteArray.data_extract, Array.toList_extract, List.extract_eq_take_drop]
 match hl : t.data.toList with
 | [] => rw [hl] at ht; simp [Kr]
 | [c] => rw [hl] at ht; simp [Kr]
 | c :: d :: r => rw [hl] at ht; simp [Kr]; simp at ht; omega
set_option maxHeartbeats 4000000 in
/-- internal/stringslite.HasPrefix -/
theorem qfz (s p : ByteArray) : Fn Tryz.prog G 89 [.str s, .str p] (.bool (Zx s p)) := by
 refine zk (T := tt) (N := 18) (rs := [.tmp 4]) (fun vs w => by simp) Tryz.func89 rfl rfl rfl rfl (by kernel_rfl) (zl rfl) (qz _ rfl) ?_
 repeat' first
  | refine ji env rfl ?_
  | (refine qse (l := 0) (h := p.size) env rfl rfl rfl rfl (qjx rfl) (Nat.zero_le _) ?_ ?_; (· simpa using h))
  | refine qr (fun h => ?_) (fun h => ?_)
  | refine qu (fun h => ?_) (fun h => ?_)
  | refine qj (fun h => ?_) (fun h => ?_)
  | refine zd env rfl rfl (q4 ?_)
  | refine zm env rfl (q4 ?_)
 all_goals refine wy ?_
 all_goals simp_all [Zx]
 all_goals omega
set_option maxHeartbeats 4000000 in
/-- strings.HasPrefix -/
theorem qi5 (s p : ByteArray) : Fn Tryz.prog G 43 [.str s, .str p] (.bool (Zx s p)) := by
 refine zk (T := tt) (N := 8) (rs := [.tmp 4]) (fun vs w => by simp) Tryz.func43 rfl rfl rfl rfl (by kernel_rfl) (zl rfl) (qz _ rfl) ?_
 repeat' first
  | refine ji env rfl ?_
  | refine ql (qfz _ _) ?_
  | refine qr (fun h => ?_) (fun h => ?_)
  | refine qu (fun h => ?_) (fun h => ?_)
  | refine qj (fun h => ?_) (fun h => ?_)
  | refine zd env rfl rfl (q4 ?_)
  | refine zm env rfl (q4 ?_)
 all_goals rfl
set_option maxHeartbeats 4000000 in
/-- treemerge/trivia.End$1 -/
theorem qi2 (s : ByteArray) : Fn Tryz.prog G 127 [.str s] (.tup []) := by
 refine zk (T := tt) (N := 2) (rs := []) (fun vs w => by simp) Tryz.func127 rfl rfl rfl rfl (by kernel_rfl) (zl rfl) (qz _ rfl) ?_
 repeat' first
  | refine ji env rfl ?_
  | refine qr (fun h => ?_) (fun h => ?_)
  | refine qu (fun h => ?_) (fun h => ?_)
  | refine qj (fun h => ?_) (fun h => ?_)
  | refine zd env rfl rfl (q4 ?_)
  | refine zm env rfl (q4 ?_)
 all_goals rfl
theorem qyo (s : ByteArray) (a k : Nat) (hs : s.size ≤ 9223372036854775807) (hJ : k ≤ s.size ∧ y6 s a = y6 s k) :
 (∃ b, s[k]? = some b ∧ decide ((k : Int) < (s.size : Int)) = true ∧ IntKind.i64.wrap ((k : Int) + 1) = ((k + 1 : Nat) : Int) ∧ k + 1 ≤ s.size ∧ y6 s a = y6 s (k + 1) ∧
   (decide ((b.toNat : Int) = 32) = true ∨ (decide ((b.toNat : Int) = 32) = false ∧ decide ((b.toNat : Int) = 9) = true) ∨ (decide ((b.toNat : Int) = 32) = false ∧ decide ((b.toNat : Int) = 9) = false ∧ decide ((b.toNat : Int) = 10) = true))) ∨
 (∃ b, s[k]? = some b ∧ decide ((k : Int) < (s.size : Int)) = true ∧ decide ((b.toNat : Int) = 32) = false ∧ decide ((b.toNat : Int) = 9) = false ∧ decide ((b.toNat : Int) = 10) = false ∧
   ((Zx (s.extract k s.size) ⟨#[47, 47]⟩ = false ∧ y6 s a = k) ∨
    (Zx (s.extract k s.size) ⟨#[47, 47]⟩ = true ∧ decide (Lib.indexByte (s.extract k s.size).data.toList (10 : Int).toNat.toUInt8 < 0) = true ∧ y6 s a = k) ∨
    (∃ n : Nat, Zx (s.extract k s.size) ⟨#[47, 47]⟩ = true ∧ decide (Lib.indexByte (s.extract k s.size).data.toList (10 : Int).toNat.toUInt8 < 0) = false ∧ Lib.indexByte (s.extract k s.size).data.toList (10 : Int).toNat.toUInt8 = n ∧
      IntKind.i64.wrap ((k : Int) + Lib.indexByte (s.extract k s.size).data.toList (10 : Int).toNat.toUInt8) = ((k + n : Nat) : Int) ∧ IntKind.i64.wrap ((k : Int) + IntKind.i64.wrap (Lib.indexByte (s.extract k s.size).data.toList (10 : Int).toNat.toUInt8 + 1)) = ((k + n + 1 : Nat) : Int) ∧
      k + n + 1 ≤ s.size ∧ y6 s a = y6 s (k + n + 1)))) ∨
 (decide ((k : Int) < (s.size : Int)) = false ∧ y6 s a = k) := by
 obtain ⟨hk, he⟩ := hJ
 have c10 : (10 : Int).toNat.toUInt8 = 10 := rfl
 have t1 : ∀ b : UInt8, decide ((b.toNat : Int) = 32) = decide (b = 32) := fun b => qi1 b 32
 have t2 : ∀ b : UInt8, decide ((b.toNat : Int) = 9) = decide (b = 9) := fun b => qi1 b 9
 have t3 : ∀ b : UInt8, decide ((b.toNat : Int) = 10) = decide (b = 10) := fun b => qi1 b 10
 simp only [t1, t2, t3, c10, qti s k hk, qjr]
 by_cases hlt : k < s.size
 ·have hd : decide ((k : Int) < (s.size : Int)) = true := by simpa using hlt
  have hb : s[k]? = some s[k] := getElem?_pos s k hlt
  by_cases h : s[k] = 32 ∨ s[k] = 9 ∨ s[k] = 10
  ·refine .inl ⟨s[k], hb, hd, j6 (by omega) (by omega), hlt, by rw [he, qpg s k hlt h], ?_⟩
   rcases h with h | h | h <;> rw [h] <;> simp
  ·refine .inr (.inl ⟨s[k], hb, hd, ?_⟩)
   have h1 : ¬ s[k] = 32 := fun e => h (.inl e)
   have h2 : ¬ s[k] = 9 := fun e => h (.inr (.inl e))
   have h3 : ¬ s[k] = 10 := fun e => h (.inr (.inr e))
   refine ⟨decide_eq_false h1, decide_eq_false h2, decide_eq_false h3, ?_⟩
   cases hsl : Kr (s.data.toList.drop k) with
   | false => exact .inl ⟨rfl, by rw [he, qq7 s k hlt h hsl]⟩
   | true =>
     rcases Yv (s.data.toList.drop k) with ⟨hi, _⟩ | ⟨n, hi, hn2, _⟩
     ·exact .inr (.inl ⟨rfl, by rw [hi]; rfl, by rw [he, qq8 s k hlt hsl hi]⟩)
     ·have hln := qq9 s k n hlt hsl hi
      refine .inr (.inr ⟨n, rfl, by rw [hi]; simp, hi, ?_, ?_, hln.1, by rw [he, hln.2]⟩)
      ·rw [hi, j6 (by omega) (by omega)]; rfl
      ·rw [hi, j6 (x := (n : Int) + 1) (by omega) (by omega), j6 (by omega) (by omega)]; omega
 ·exact .inr (.inr ⟨by simpa using hlt, by rw [he, qs5 s k (by omega)]⟩)
set_option maxHeartbeats 4000000 in
/-- treemerge/trivia.walk -/
theorem qlv (s : ByteArray) (a : Nat) (ha : a ≤ s.size) (hs : s.size ≤ 9223372036854775807) : Fn Tryz.prog G 126 [.str s, .int .i64 a, .fn 127 []] (.int .i64 (y6 s a : Nat)) := by
 refine zk (T := tt) (N := 47) (rs := [.tmp 6]) (fun vs w => by simp) Tryz.func126 rfl rfl rfl rfl (by kernel_rfl) (zl rfl) (qz _ rfl) ?_
 repeat' first
  | refine ji env rfl ?_
  | refine q2k (qi2 _) ?_
  | refine ql (qi2 _) ?_
  | (refine Jy (α := Nat) (fun k => k ≤ s.size ∧ y6 s a = y6 s k) (fun k => s.size - k) (fun k => [(1, .int .i64 k)]) (fun _ => []) (a) (fun _ => rfl) (fun _ => rfl) (⟨ha, rfl⟩) ?_ ?_ (fun k hJ => ?_); (· simp [leFT, leV, leOs, leO, leC, rho, AV.ren, AV.ren1, AV.un, AV.un1, AV.closed]); (· simp [leFT, leV, leOs, leO, leC, rho, AV.ren, AV.ren1, AV.un, AV.un1, AV.closed]); rcases qyo s a k hs hJ with ⟨b, hb, hd, hw, hle, he, h1 | ⟨h1, h2⟩ | ⟨h1, h2, h3⟩⟩ | ⟨b, hb, hd, h1, h2, h3, ⟨hp, he⟩ | ⟨hp, hi, he⟩ | ⟨n, hp, hi, hn, hw1, hw2, hle, he⟩⟩ | ⟨hd, he⟩)
  | refine Jx rfl ?_
  | refine Zh rfl rfl ?_
  | (refine Jg (k + 1) ?_ ?_ ?_ ?_; (· exact ⟨hle, he⟩); (· omega); (· simp [leFT, leV, leOs, leO, leC, rho, AV.ren, AV.ren1, AV.un, AV.un1, AV.closed, hw]); (· simp [leFT, leV, leOs, leO, leC, rho, AV.ren, AV.ren1, AV.un, AV.un1, AV.closed]))
  | (refine Jg (k + n + 1) ?_ ?_ ?_ ?_; (· exact ⟨hle, he⟩); (· omega); (· (simp only [hw2]; simp [leFT, leV, leOs, leO, leC, rho, AV.ren, AV.ren1, AV.un, AV.un1, AV.closed])); (· simp [leFT, leV, leOs, leO, leC, rho, AV.ren, AV.ren1, AV.un, AV.un1, AV.closed]))
  | refine qfg env rfl rfl rfl rfl rfl hb ?_
  | refine qse (l := k) (h := s.size) env rfl rfl rfl (qjx rfl) rfl hJ.1 (Nat.le_refl _) ?_
  | refine qse (l := k) (h := k + n) env rfl rfl rfl (qjx rfl) (qjx hw1) (Nat.le_add_right _ _) (by omega) ?_
  | (refine qe ?_ ?_; (· simp only [hd]))
  | (refine qf ?_ ?_; (· simp only [hd]))
  | (refine qh ?_ ?_; (· simp only [hd]))
  | (refine qg ?_ ?_; (· simp only [hd]))
  | (refine qo ?_ ?_; (· simp only [hd]))
  | (refine qp ?_ ?_; (· simp only [hd]))
  | (refine qe ?_ ?_; (· simp only [h1]))
  | (refine qf ?_ ?_; (· simp only [h1]))
  | (refine qh ?_ ?_; (· simp only [h1]))
  | (refine qg ?_ ?_; (· simp only [h1]))
  | (refine qo ?_ ?_; (· simp only [h1]))
  | (refine qp ?_ ?_; (· simp only [h1]))
  | (refine qe ?_ ?_; (· simp only [h2]))
  | (refine qf ?_ ?_; (· simp only [h2]))
  | (refine qh ?_ ?_; (· simp only [h2]))
  | (refine qg ?_ ?_; (· simp only [h2]))
  | (refine qo ?_ ?_; (· simp only [h2]))
  | (refine qp ?_ ?_; (· simp only [h2]))
  | (refine qe ?_ ?_; (· simp only [h3]))
  | (refine qf ?_ ?_; (· simp only [h3]))
  | (refine qh ?_ ?_; (· simp only [h3]))
  | (refine qg ?_ ?_; (· simp only [h3]))
  | (refine qo ?_ ?_; (· simp only [h3]))
  | (refine qp ?_ ?_; (· simp only [h3]))
  | (refine qe ?_ ?_; (· simp only [hp, Bool.not_true, Bool.not_false]))
  | (refine qf ?_ ?_; (· simp only [hp, Bool.not_true, Bool.not_false]))
  | (refine qh ?_ ?_; (· simp only [hp, Bool.not_true, Bool.not_false]))
  | (refine qg ?_ ?_; (· simp only [hp, Bool.not_true, Bool.not_false]))
  | (refine qo ?_ ?_; (· simp only [hp, Bool.not_true, Bool.not_false]))
  | (refine qp ?_ ?_; (· simp only [hp, Bool.not_true, Bool.not_false]))
  | (refine qe ?_ ?_; (· simp only [hi]))
  | (refine qf ?_ ?_; (· simp only [hi]))
  | (refine qh ?_ ?_; (· simp only [hi]))
  | (refine qg ?_ ?_; (· simp only [hi]))
  | (refine qo ?_ ?_; (· simp only [hi]))
  | (refine qp ?_ ?_; (· simp only [hi]))
  | refine ql (qi5 _ _) ?_
  | refine ql (qc4 _ _) ?_
  | refine qr (fun h => ?_) (fun h => ?_)
  | refine qu (fun h => ?_) (fun h => ?_)
  | refine qj (fun h => ?_) (fun h => ?_)
  | refine zd env rfl rfl (q4 ?_)
  | refine zm env rfl (q4 ?_)
 all_goals refine Jt ?_
 all_goals simp only [he]
def qgn (s : ByteArray) (a : Int) : Int := if 0 ≤ a ∧ a ≤ s.size then (y6 s a.toNat : Nat) else a
theorem qjt {s : ByteArray} {k : Nat} (h : k ≤ s.size) : qgn s k = (y6 s k : Nat) := by
 unfold qgn
 rw [if_pos ⟨by omega, by omega⟩, Int.toNat_natCast]
def Zd (s : ByteArray) : Bool := decide (qgn s 0 = s.size)
set_option maxHeartbeats 4000000 in
/-- treemerge/trivia.End -/
theorem qm4 (s : ByteArray) (a : Int) (hs : s.size ≤ 9223372036854775807) : Fn Tryz.prog G 94 [.str s, .int .i64 a] (.int .i64 (qgn s a)) := by
 by_cases hlo : a < 0
 case pos =>
  have d1 : decide (a < 0) = true := decide_eq_true hlo
  rw [show qgn s a = a from if_neg (by omega)]
  refine zk (T := tt) (N := 17) (rs := [.tmp 4]) (fun vs w => by simp) Tryz.func94 rfl rfl rfl rfl (by kernel_rfl) (zl rfl) (qz _ rfl) ?_
  repeat' first
   | refine ji env rfl ?_
   | (refine qe ?_ ?_; (· simp only [d1]))
   | (refine qf ?_ ?_; (· simp only [d1]))
   | (refine qh ?_ ?_; (· simp only [d1]))
   | (refine qg ?_ ?_; (· simp only [d1]))
   | (refine qo ?_ ?_; (· simp only [d1]))
   | (refine qp ?_ ?_; (· simp only [d1]))
   | (refine qe ?_ ?_; (· simp only [d2]))
   | (refine qf ?_ ?_; (· simp only [d2]))
   | (refine qh ?_ ?_; (· simp only [d2]))
   | (refine qg ?_ ?_; (· simp only [d2]))
   | (refine qo ?_ ?_; (· simp only [d2]))
   | (refine qp ?_ ?_; (· simp only [d2]))
   | refine qr (fun h => ?_) (fun h => ?_)
   | refine qu (fun h => ?_) (fun h => ?_)
   | refine qj (fun h => ?_) (fun h => ?_)
   | refine zd env rfl rfl (q4 ?_)
   | refine zm env rfl (q4 ?_)
  all_goals rfl
 have d1 : decide (a < 0) = false := decide_eq_false hlo
 by_cases hhi : (s.size : Int) < a
 case pos =>
  have d2 : decide ((s.size : Int) < a) = true := decide_eq_true hhi
  rw [show qgn s a = a from if_neg (by omega)]
  refine zk (T := tt) (N := 17) (rs := [.tmp 4]) (fun vs w => by simp) Tryz.func94 rfl rfl rfl rfl (by kernel_rfl) (zl rfl) (qz _ rfl) ?_
  repeat' first
   | refine ji env rfl ?_
   | (refine qe ?_ ?_; (· simp only [d1]))
   | (refine qf ?_ ?_; (· simp only [d1]))
   | (refine qh ?_ ?_; (· simp only [d1]))
   | (refine qg ?_ ?_; (· simp only [d1]))
   | (refine qo ?_ ?_; (· simp only [d1]))
   | (refine qp ?_ ?_; (· simp only [d1]))
   | (refine qe ?_ ?_; (· simp only [d2]))
   | (refine qf ?_ ?_; (· simp only [d2]))
   | (refine qh ?_ ?_; (· simp only [d2]))
   | (refine qg ?_ ?_; (· simp only [d2]))
   | (refine qo ?_ ?_; (· simp only [d2]))
   | (refine qp ?_ ?_; (· simp only [d2]))
   | refine qr (fun h => ?_) (fun h => ?_)
   | refine qu (fun h => ?_) (fun h => ?_)
   | refine qj (fun h => ?_) (fun h => ?_)
   | refine zd env rfl rfl (q4 ?_)
   | refine zm env rfl (q4 ?_)
  all_goals rfl
 have d2 : decide ((s.size : Int) < a) = false := decide_eq_false hhi
 obtain ⟨m, rfl⟩ : ∃ m : Nat, a = m := ⟨a.toNat, by omega⟩
 have hm : m ≤ s.size := by omega
 rw [qjt hm]
 refine zk (T := tt) (N := 17) (rs := [.tmp 4]) (fun vs w => by simp) Tryz.func94 rfl rfl rfl rfl (by kernel_rfl) (zl rfl) (qz _ rfl) ?_
 repeat' first
  | refine ji env rfl ?_
  | (refine qe ?_ ?_; (· simp only [d1]))
  | (refine qf ?_ ?_; (· simp only [d1]))
  | (refine qh ?_ ?_; (· simp only [d1]))
  | (refine qg ?_ ?_; (· simp only [d1]))
  | (refine qo ?_ ?_; (· simp only [d1]))
  | (refine qp ?_ ?_; (· simp only [d1]))
  | (refine qe ?_ ?_; (· simp only [d2]))
  | (refine qf ?_ ?_; (· simp only [d2]))
  | (refine qh ?_ ?_; (· simp only [d2]))
  | (refine qg ?_ ?_; (· simp only [d2]))
  | (refine qo ?_ ?_; (· simp only [d2]))
  | (refine qp ?_ ?_; (· simp only [d2]))
  | refine ql (qlv s m hm hs) ?_
  | refine qr (fun h => ?_) (fun h => ?_)
  | refine qu (fun h => ?_) (fun h => ?_)
  | refine qj (fun h => ?_) (fun h => ?_)
  | refine zd env rfl rfl (q4 ?_)
  | refine zm env rfl (q4 ?_)
 all_goals rfl
set_option maxHeartbeats 4000000 in
/-- treemerge/trivia.Valid -/
theorem qq6 (s : ByteArray) (hs : s.size ≤ 9223372036854775807) : Fn Tryz.prog G 118 [.str s] (.bool (Zd s)) := by
 refine zk (T := tt) (N := 8) (rs := [.tmp 2]) (fun vs w => by simp) Tryz.func118 rfl rfl rfl rfl (by kernel_rfl) (zl rfl) (qz _ rfl) ?_
 repeat' first
  | refine ji env rfl ?_
  | refine ql (qm4 s 0 hs) ?_
  | refine qr (fun h => ?_) (fun h => ?_)
  | refine qu (fun h => ?_) (fun h => ?_)
  | refine qj (fun h => ?_) (fun h => ?_)
  | refine zd env rfl rfl (q4 ?_)
  | refine zm env rfl (q4 ?_)
 all_goals rfl
def uo (s : ByteArray) (k : Nat) : Nat := match uh (s.data.toList.drop k) with | some r => s.size - r.length | none => k
theorem qrc (s : ByteArray) (k : Nat) (hk : k ≤ s.size) : uo s k ≤ s.size ∧ ((k < uo s k ∧ y6 s k = y6 s (uo s k)) ∨ (uo s k = k ∧ y6 s k = k)) := by
 have hl := len_bytes s
 unfold uo
 cases h : uh (s.data.toList.drop k) with
 | none => exact ⟨hk, .inr ⟨rfl, qev s k hk h⟩⟩
 | some r =>
   have h1 := Wb _ r h
   rw [List.length_drop, hl] at h1
   have h2 : s.data.toList.drop (s.size - r.length) = r := by
    have : ∃ j, r = (s.data.toList.drop k).drop j := by
     cases hd : s.data.toList.drop k with
     | nil => rw [hd] at h; cases h
     | cons c l =>
       rw [hd, Qb] at h
       split at h
       ·simp only [Option.some.injEq] at h; exact ⟨1, by rw [← h]; rfl⟩
       ·split at h
        ·rcases Yv l with ⟨_, h5⟩ | ⟨m, _, _, h5⟩
         ·rw [h5] at h; cases h
         ·rw [h5] at h; simp only [Option.some.injEq] at h; exact ⟨m + 1 + 1, by rw [← h]; rfl⟩
        ·cases h
    obtain ⟨j, hj⟩ := this
    rw [List.drop_drop] at hj
    have h3 : r.length = s.size - (k + j) := by rw [hj, List.length_drop, hl]
    by_cases h4 : k + j ≤ s.size
    ·rw [hj, List.length_drop, hl]; congr 1; omega
    ·have : r = [] := by rw [hj]; exact List.drop_of_length_le (by omega)
     rw [this, List.drop_of_length_le (by simp [hl])]
   refine ⟨by simp, .inl ⟨by show k < s.size - r.length; omega, ?_⟩⟩
   unfold y6
   rw [Kh _ r h]
   simp only
   rw [h2]
theorem qyt (s : ByteArray) (k : Nat) (hs : s.size ≤ 9223372036854775807) (hk : k ≤ s.size) :
 (decide ((s.size : Int) ≤ (k : Int)) = true ∧ uo s k = k) ∨
 (∃ b, s[k]? = some b ∧ decide ((s.size : Int) ≤ (k : Int)) = false ∧ IntKind.i64.wrap ((k : Int) + 1) = ((k + 1 : Nat) : Int) ∧ uo s k = k + 1 ∧
   (decide ((b.toNat : Int) = 32) = true ∨ (decide ((b.toNat : Int) = 32) = false ∧ decide ((b.toNat : Int) = 9) = true) ∨ (decide ((b.toNat : Int) = 32) = false ∧ decide ((b.toNat : Int) = 9) = false ∧ decide ((b.toNat : Int) = 10) = true))) ∨
 (∃ b, s[k]? = some b ∧ decide ((s.size : Int) ≤ (k : Int)) = false ∧ decide ((b.toNat : Int) = 32) = false ∧ decide ((b.toNat : Int) = 9) = false ∧ decide ((b.toNat : Int) = 10) = false ∧ IntKind.i64.wrap ((k : Int) + 1) = ((k + 1 : Nat) : Int) ∧
   ((uo s k = k ∧ (decide ((b.toNat : Int) = 47) = false ∨ (decide ((b.toNat : Int) = 47) = true ∧ decide ((s.size : Int) ≤ IntKind.i64.wrap ((k : Int) + 1)) = true))) ∨
    (∃ c, s[k + 1]? = some c ∧ decide ((b.toNat : Int) = 47) = true ∧ decide ((s.size : Int) ≤ IntKind.i64.wrap ((k : Int) + 1)) = false ∧
     ((uo s k = k ∧ decide ((c.toNat : Int) = 47) = false) ∨
      (decide ((c.toNat : Int) = 47) = true ∧ ∀ i : Nat, k ≤ i → i ≤ s.size → yi (s.data.toList.drop k) = yi (s.data.toList.drop i) →
       (∃ e, s[i]? = some e ∧ decide ((i : Int) < (s.size : Int)) = true ∧ IntKind.i64.wrap ((i : Int) + 1) = ((i + 1 : Nat) : Int) ∧ i < s.size ∧
         ((decide ((e.toNat : Int) = 10) = true ∧ uo s k = i + 1) ∨ (decide ((e.toNat : Int) = 10) = false ∧ yi (s.data.toList.drop k) = yi (s.data.toList.drop (i + 1))))) ∨
       (decide ((i : Int) < (s.size : Int)) = false ∧ uo s k = k)))))) := by
 have hl := len_bytes s
 have t1 : ∀ b : UInt8, decide ((b.toNat : Int) = 32) = decide (b = 32) := fun b => qi1 b 32
 have t2 : ∀ b : UInt8, decide ((b.toNat : Int) = 9) = decide (b = 9) := fun b => qi1 b 9
 have t3 : ∀ b : UInt8, decide ((b.toNat : Int) = 10) = decide (b = 10) := fun b => qi1 b 10
 have t4 : ∀ b : UInt8, decide ((b.toNat : Int) = 47) = decide (b = 47) := fun b => qi1 b 47
 simp only [t1, t2, t3, t4]
 by_cases hlt : k < s.size
 ·have hd : decide ((s.size : Int) ≤ (k : Int)) = false := decide_eq_false (by omega)
  have hw : IntKind.i64.wrap ((k : Int) + 1) = ((k + 1 : Nat) : Int) := j6 (by omega) (by omega)
  have hb : s[k]? = some s[k] := getElem?_pos s k hlt
  have hst : uh (s.data.toList.drop k) = if s[k] = 32 ∨ s[k] = 9 ∨ s[k] = 10 then some (s.data.toList.drop (k + 1)) else if s[k] = 47 ∧ (s.data.toList.drop (k + 1)).head? = some 47 then yi (s.data.toList.drop (k + 1)) else none := by
   rw [vw s k hlt, Qb]
  by_cases h : s[k] = 32 ∨ s[k] = 9 ∨ s[k] = 10
  ·refine .inr (.inl ⟨s[k], hb, hd, hw, ?_, ?_⟩)
   ·unfold uo
    rw [hst, if_pos h]
    simp only [List.length_drop, hl]; omega
   ·rcases h with h | h | h <;> rw [h] <;> simp
  ·have h1 : ¬ s[k] = 32 := fun e => h (.inl e)
   have h2 : ¬ s[k] = 9 := fun e => h (.inr (.inl e))
   have h3 : ¬ s[k] = 10 := fun e => h (.inr (.inr e))
   rw [if_neg h] at hst
   refine .inr (.inr ⟨s[k], hb, hd, decide_eq_false h1, decide_eq_false h2, decide_eq_false h3, hw, ?_⟩)
   rw [hw]
   by_cases h47 : s[k] = 47
   ·by_cases h5 : k + 1 < s.size
    ·have hc : s[k + 1]? = some s[k + 1] := getElem?_pos s (k + 1) h5
     have hhd : (s.data.toList.drop (k + 1)).head? = some s[k + 1] := by rw [vw s (k + 1) h5]; rfl
     refine .inr ⟨s[k + 1], hc, decide_eq_true h47, decide_eq_false (by omega), ?_⟩
     by_cases h6 : s[k + 1] = 47
     ·refine .inr ⟨decide_eq_true h6, fun i hi1 hi2 hi3 => ?_⟩
      rw [if_pos ⟨h47, by rw [hhd, h6]⟩] at hst
      have hst2 : uh (s.data.toList.drop k) = yi (s.data.toList.drop k) := by
       rw [hst, vw s k hlt]
       show _ = if s[k] = 10 then _ else _
       rw [if_neg h3]
      rw [hi3] at hst2
      by_cases h7 : i < s.size
      ·refine .inl ⟨s[i], getElem?_pos s i h7, by simpa using h7, j6 (by omega) (by omega), h7, ?_⟩
       have e : yi (s.data.toList.drop i) = if s[i] = 10 then some (s.data.toList.drop (i + 1)) else yi (s.data.toList.drop (i + 1)) := by rw [vw s i h7]; rfl
       by_cases h8 : s[i] = 10
       ·refine .inl ⟨decide_eq_true h8, ?_⟩
        unfold uo
        rw [hst2, e, if_pos h8]
        simp only [List.length_drop, hl]; omega
       ·refine .inr ⟨decide_eq_false h8, ?_⟩
        rw [hi3, e, if_neg h8]
      ·refine .inr ⟨decide_eq_false (by omega), ?_⟩
       unfold uo
       rw [hst2, List.drop_of_length_le (by omega)]
       rfl
     ·refine .inl ⟨?_, decide_eq_false h6⟩
      unfold uo
      rw [hst, if_neg (by rw [hhd]; intro h9; exact h6 (Option.some.inj h9.2))]
    ·refine .inl ⟨?_, .inr ⟨decide_eq_true h47, decide_eq_true (by omega)⟩⟩
     unfold uo
     rw [hst, if_neg (by rw [List.drop_of_length_le (by omega)]; intro h9; cases h9.2)]
   ·refine .inl ⟨?_, .inl (decide_eq_false h47)⟩
    unfold uo
    rw [hst, if_neg (fun h9 => h47 h9.1)]
 ·refine .inl ⟨decide_eq_true (by omega), ?_⟩
  unfold uo
  rw [List.drop_of_length_le (by omega)]
  rfl
set_option maxHeartbeats 4000000 in
/-- R4.step -/
theorem q3q (s : ByteArray) (k : Nat) (hs : s.size ≤ 9223372036854775807) (hk : k ≤ s.size) : Fn Tryz.prog G 130 [.str s, .int .i64 k] (.int .i64 (uo s k : Nat)) := by
 rcases qyt s k hs hk with ⟨hd, he⟩ | ⟨b, hb, hd, hw, he, h1 | ⟨h1, h2⟩ | ⟨h1, h2, h3⟩⟩ | ⟨b, hb, hd, h1, h2, h3, hw, ⟨he, h4 | ⟨h4, h5⟩⟩ | ⟨c, hc, h4, h5, ⟨he, h6⟩ | ⟨h6, h7⟩⟩⟩
 all_goals
  refine zk (T := tt) (N := 62) (rs := [.tmp 4]) (fun vs w => by simp) Tryz.func130 rfl rfl rfl rfl (by kernel_rfl) (zl rfl) (qz _ rfl) ?_
  repeat' first
   | refine ji env rfl ?_
   | (refine Jy (α := Nat) (fun i => k ≤ i ∧ i ≤ s.size ∧ yi (s.data.toList.drop k) = yi (s.data.toList.drop i)) (fun i => s.size - i) (fun i => [(5, .int .i64 i)]) (fun _ => []) (k) (fun _ => rfl) (fun _ => rfl) (⟨Nat.le_refl _, hk, rfl⟩) ?_ ?_ (fun i hJ => ?_); (· simp [leFT, leV, leOs, leO, leC, rho, AV.ren, AV.ren1, AV.un, AV.un1, AV.closed]); (· simp [leFT, leV, leOs, leO, leC, rho, AV.ren, AV.ren1, AV.un, AV.un1, AV.closed]); rcases h7 i hJ.1 hJ.2.1 hJ.2.2 with ⟨e, hx, g1, hw1, hle, ⟨g2, he⟩ | ⟨g2, he⟩⟩ | ⟨g1, he⟩)
   | refine Jx rfl ?_
   | refine Zh rfl rfl ?_
   | (refine Jg (i + 1) ?_ ?_ ?_ ?_; (· exact ⟨by omega, by omega, he⟩); (· omega); (· (simp only [hw1]; simp [leFT, leV, leOs, leO, leC, rho, AV.ren, AV.ren1, AV.un, AV.un1, AV.closed])); (· simp [leFT, leV, leOs, leO, leC, rho, AV.ren, AV.ren1, AV.un, AV.un1, AV.closed]))
   | (refine qe ?_ ?_; (· simp only [hd]))
   | (refine qf ?_ ?_; (· simp only [hd]))
   | (refine qh ?_ ?_; (· simp only [hd]))
   | (refine qg ?_ ?_; (· simp only [hd]))
   | (refine qo ?_ ?_; (· simp only [hd]))
   | (refine qp ?_ ?_; (· simp only [hd]))
   | (refine qe ?_ ?_; (· simp only [h1]))
   | (refine qf ?_ ?_; (· simp only [h1]))
   | (refine qh ?_ ?_; (· simp only [h1]))
   | (refine qg ?_ ?_; (· simp only [h1]))
   | (refine qo ?_ ?_; (· simp only [h1]))
   | (refine qp ?_ ?_; (· simp only [h1]))
   | (refine qe ?_ ?_; (· simp only [h2]))
   | (refine qf ?_ ?_; (· simp only [h2]))
   | (refine qh ?_ ?_; (· simp only [h2]))
   | (refine qg ?_ ?_; (· simp only [h2]))
   | (refine qo ?_ ?_; (· simp only [h2]))
   | (refine qp ?_ ?_; (· simp only [h2]))
   | (refine qe ?_ ?_; (· simp only [h3]))
   | (refine qf ?_ ?_; (· simp only [h3]))
   | (refine qh ?_ ?_; (· simp only [h3]))
   | (refine qg ?_ ?_; (· simp only [h3]))
   | (refine qo ?_ ?_; (· simp only [h3]))
   | (refine qp ?_ ?_; (· simp only [h3]))
   | (refine qe ?_ ?_; (· simp only [h4, Bool.not_true, Bool.not_false]))
   | (refine qf ?_ ?_; (· simp only [h4, Bool.not_true, Bool.not_false]))
   | (refine qh ?_ ?_; (· simp only [h4, Bool.not_true, Bool.not_false]))
   | (refine qg ?_ ?_; (· simp only [h4, Bool.not_true, Bool.not_false]))
   | (refine qo ?_ ?_; (· simp only [h4, Bool.not_true, Bool.not_false]))
   | (refine qp ?_ ?_; (· simp only [h4, Bool.not_true, Bool.not_false]))
   | (refine qe ?_ ?_; (· simp only [h5]))
   | (refine qf ?_ ?_; (· simp only [h5]))
   | (refine qh ?_ ?_; (· simp only [h5]))
   | (refine qg ?_ ?_; (· simp only [h5]))
   | (refine qo ?_ ?_; (· simp only [h5]))
   | (refine qp ?_ ?_; (· simp only [h5]))
   | (refine qe ?_ ?_; (· simp only [h6, Bool.not_true, Bool.not_false]))
   | (refine qf ?_ ?_; (· simp only [h6, Bool.not_true, Bool.not_false]))
   | (refine qh ?_ ?_; (· simp only [h6, Bool.not_true, Bool.not_false]))
   | (refine qg ?_ ?_; (· simp only [h6, Bool.not_true, Bool.not_false]))
   | (refine qo ?_ ?_; (· simp only [h6, Bool.not_true, Bool.not_false]))
   | (refine qp ?_ ?_; (· simp only [h6, Bool.not_true, Bool.not_false]))
   | (refine qe ?_ ?_; (· simp only [g1]))
   | (refine qf ?_ ?_; (· simp only [g1]))
   | (refine qh ?_ ?_; (· simp only [g1]))
   | (refine qg ?_ ?_; (· simp only [g1]))
   | (refine qo ?_ ?_; (· simp only [g1]))
   | (refine qp ?_ ?_; (· simp only [g1]))
   | (refine qe ?_ ?_; (· simp only [g2]))
   | (refine qf ?_ ?_; (· simp only [g2]))
   | (refine qh ?_ ?_; (· simp only [g2]))
   | (refine qg ?_ ?_; (· simp only [g2]))
   | (refine qo ?_ ?_; (· simp only [g2]))
   | (refine qp ?_ ?_; (· simp only [g2]))
   | refine qfg env rfl rfl rfl rfl rfl hb ?_
   | refine qfg env rfl rfl rfl rfl hw hc ?_
   | refine qfg env rfl rfl rfl rfl rfl hx ?_
   | refine qr (fun h => ?_) (fun h => ?_)
   | refine qu (fun h => ?_) (fun h => ?_)
   | refine qj (fun h => ?_) (fun h => ?_)
   | refine zd env rfl rfl (q4 ?_)
   | refine zm env rfl (q4 ?_)
  all_goals refine Jt ?_
  all_goals simp only [he]
  all_goals first | done | assumption
theorem q1x (s : ByteArray) (a k : Nat) (hJ : k ≤ s.size ∧ y6 s a = y6 s k) :
 (decide ((k : Int) < (uo s k : Nat)) = true ∧ k < uo s k ∧ uo s k ≤ s.size ∧ y6 s a = y6 s (uo s k)) ∨ (decide ((k : Int) < (uo s k : Nat)) = false ∧ y6 s a = k) := by
 obtain ⟨h1, h2 | h2⟩ := qrc s k hJ.1
 ·exact .inl ⟨decide_eq_true (by omega), h2.1, h1, by rw [hJ.2, h2.2]⟩
 ·exact .inr ⟨decide_eq_false (by omega), by rw [hJ.2, h2.2]⟩
set_option maxHeartbeats 4000000 in
/-- treemerge/treemergeref04.End -/
theorem q2d (s : ByteArray) (a : Int) (hs : s.size ≤ 9223372036854775807) : Fn Tryz.prog G 97 [.str s, .int .i64 a] (.int .i64 (qgn s a)) := by
 by_cases hlo : a < 0
 case pos =>
  have d1 : decide (a < 0) = true := decide_eq_true hlo
  rw [show qgn s a = a from if_neg (by omega)]
  refine zk (T := tt) (N := 23) (rs := [.tmp 4]) (fun vs w => by simp) Tryz.func97 rfl rfl rfl rfl (by kernel_rfl) (zl rfl) (qz _ rfl) ?_
  repeat' first
   | refine ji env rfl ?_
   | (refine qe ?_ ?_; (· simp only [d1]))
   | (refine qf ?_ ?_; (· simp only [d1]))
   | (refine qh ?_ ?_; (· simp only [d1]))
   | (refine qg ?_ ?_; (· simp only [d1]))
   | (refine qo ?_ ?_; (· simp only [d1]))
   | (refine qp ?_ ?_; (· simp only [d1]))
   | (refine qe ?_ ?_; (· simp only [d2]))
   | (refine qf ?_ ?_; (· simp only [d2]))
   | (refine qh ?_ ?_; (· simp only [d2]))
   | (refine qg ?_ ?_; (· simp only [d2]))
   | (refine qo ?_ ?_; (· simp only [d2]))
   | (refine qp ?_ ?_; (· simp only [d2]))
   | refine qr (fun h => ?_) (fun h => ?_)
   | refine qu (fun h => ?_) (fun h => ?_)
   | refine qj (fun h => ?_) (fun h => ?_)
   | refine zd env rfl rfl (q4 ?_)
   | refine zm env rfl (q4 ?_)
  all_goals rfl
 have d1 : decide (a < 0) = false := decide_eq_false hlo
 by_cases hhi : (s.size : Int) < a
 case pos =>
  have d2 : decide ((s.size : Int) < a) = true := decide_eq_true hhi
  rw [show qgn s a = a from if_neg (by omega)]
  refine zk (T := tt) (N := 23) (rs := [.tmp 4]) (fun vs w => by simp) Tryz.func97 rfl rfl rfl rfl (by kernel_rfl) (zl rfl) (qz _ rfl) ?_
  repeat' first
   | refine ji env rfl ?_
   | (refine qe ?_ ?_; (· simp only [d1]))
   | (refine qf ?_ ?_; (· simp only [d1]))
   | (refine qh ?_ ?_; (· simp only [d1]))
   | (refine qg ?_ ?_; (· simp only [d1]))
   | (refine qo ?_ ?_; (· simp only [d1]))
   | (refine qp ?_ ?_; (· simp only [d1]))
   | (refine qe ?_ ?_; (· simp only [d2]))
   | (refine qf ?_ ?_; (· simp only [d2]))
   | (refine qh ?_ ?_; (· simp only [d2]))
   | (refine qg ?_ ?_; (· simp only [d2]))
   | (refine qo ?_ ?_; (· simp only [d2]))
   | (refine qp ?_ ?_; (· simp only [d2]))
   | refine qr (fun h => ?_) (fun h => ?_)
   | refine qu (fun h => ?_) (fun h => ?_)
   | refine qj (fun h => ?_) (fun h => ?_)
   | refine zd env rfl rfl (q4 ?_)
   | refine zm env rfl (q4 ?_)
  all_goals rfl
 have d2 : decide ((s.size : Int) < a) = false := decide_eq_false hhi
 obtain ⟨m, rfl⟩ : ∃ m : Nat, a = m := ⟨a.toNat, by omega⟩
 have hm : m ≤ s.size := by omega
 rw [qjt hm]
 refine zk (T := tt) (N := 23) (rs := [.tmp 4]) (fun vs w => by simp) Tryz.func97 rfl rfl rfl rfl (by kernel_rfl) (zl rfl) (qz _ rfl) ?_
 repeat' first
  | refine ji env rfl ?_
  | (refine Jy (α := Nat) (fun k => k ≤ s.size ∧ y6 s m = y6 s k) (fun k => s.size - k) (fun k => [(1, .int .i64 k)]) (fun _ => []) (m) (fun _ => rfl) (fun _ => rfl) (⟨hm, rfl⟩) ?_ ?_ (fun k hJ => ?_); (· simp [leFT, leV, leOs, leO, leC, rho, AV.ren, AV.ren1, AV.un, AV.un1, AV.closed]); (· simp [leFT, leV, leOs, leO, leC, rho, AV.ren, AV.ren1, AV.un, AV.un1, AV.closed]); rcases q1x s m k hJ with ⟨hd, hlt, hle, he⟩ | ⟨hd, he⟩)
  | refine Jx rfl ?_
  | refine Zh rfl rfl ?_
  | (refine Jg (uo s k) ?_ ?_ ?_ ?_; (· exact ⟨hle, he⟩); (· omega); (· simp [leFT, leV, leOs, leO, leC, rho, AV.ren, AV.ren1, AV.un, AV.un1, AV.closed]); (· simp [leFT, leV, leOs, leO, leC, rho, AV.ren, AV.ren1, AV.un, AV.un1, AV.closed]))
  | (refine qe ?_ ?_; (· simp only [d1]))
  | (refine qf ?_ ?_; (· simp only [d1]))
  | (refine qh ?_ ?_; (· simp only [d1]))
  | (refine qg ?_ ?_; (· simp only [d1]))
  | (refine qo ?_ ?_; (· simp only [d1]))
  | (refine qp ?_ ?_; (· simp only [d1]))
  | (refine qe ?_ ?_; (· simp only [d2]))
  | (refine qf ?_ ?_; (· simp only [d2]))
  | (refine qh ?_ ?_; (· simp only [d2]))
  | (refine qg ?_ ?_; (· simp only [d2]))
  | (refine qo ?_ ?_; (· simp only [d2]))
  | (refine qp ?_ ?_; (· simp only [d2]))
  | (refine qe ?_ ?_; (· simp only [hd]))
  | (refine qf ?_ ?_; (· simp only [hd]))
  | (refine qh ?_ ?_; (· simp only [hd]))
  | (refine qg ?_ ?_; (· simp only [hd]))
  | (refine qo ?_ ?_; (· simp only [hd]))
  | (refine qp ?_ ?_; (· simp only [hd]))
  | refine ql (q3q s k hs hJ.1) ?_
  | refine qr (fun h => ?_) (fun h => ?_)
  | refine qu (fun h => ?_) (fun h => ?_)
  | refine qj (fun h => ?_) (fun h => ?_)
  | refine zd env rfl rfl (q4 ?_)
  | refine zm env rfl (q4 ?_)
 all_goals refine Jt ?_
 all_goals simp only [he]
set_option maxHeartbeats 4000000 in
/-- treemerge/treemergeref04.Valid -/
theorem qj0 (s : ByteArray) (hs : s.size ≤ 9223372036854775807) : Fn Tryz.prog G 150 [.str s] (.bool (Zd s)) := by
 refine zk (T := tt) (N := 8) (rs := [.tmp 2]) (fun vs w => by simp) Tryz.func150 rfl rfl rfl rfl (by kernel_rfl) (zl rfl) (qz _ rfl) ?_
 repeat' first
  | refine ji env rfl ?_
  | refine ql (q2d s 0 hs) ?_
  | refine qr (fun h => ?_) (fun h => ?_)
  | refine qu (fun h => ?_) (fun h => ?_)
  | refine qj (fun h => ?_) (fun h => ?_)
  | refine zd env rfl rfl (q4 ?_)
  | refine zm env rfl (q4 ?_)
 all_goals rfl
end Go.Proofs.YtigmilhpeodhbaaGreatDoorW.Ex.Gr
