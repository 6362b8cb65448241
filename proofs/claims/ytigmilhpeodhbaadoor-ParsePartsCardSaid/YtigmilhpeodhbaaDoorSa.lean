/- Strings: the library's functions, trivia and names, in the program and in the references. No conditions beside those in each theorem. -/
import Derived.Test.YtigmilhpeodhbaaDoorExF
import Derived.Test.YtigmilhpeodhbaaDoorPlain
import Derived.LoopTactic
import Derived.WalkKit
import Derived.KernelRfl
namespace Go.Proofs.YtigmilhpeodhbaaDoorW.Ex.Gr
open Go Go.Proofs.YtigmilhpeodhbaaDoorW.Ex
set_option linter.all false
set_option maxRecDepth 100000
open Go.Proofs.YtigmilhpeodhbaaDoorW.Plain Go.RowKit
variable {G : Nat → List AV}
theorem qbj {k : IntKind} {a b : Int} (h : a = b) : AV.int k a = AV.int k b := by rw [h]
theorem Zr {a b : Bool} (h : a = b) : AV.bool a = AV.bool b := by rw [h]
theorem wt {x : Int} (h0 : -9223372036854775808 ≤ x) (h1 : x ≤ 9223372036854775807) : IntKind.i64.wrap x = x := by
 have hb : IntKind.i64.bits = 64 := rfl
 have hs : IntKind.i64.signed = true := rfl
 simp only [IntKind.wrap, hb, hs, Bool.true_and]
 split <;> rename_i h <;> simp at h <;> omega
section
variable {w : World} {S : Nat → Prop} {β : Nat → Nat} {n : Nat} {vs : Array Value}
theorem qqp {s : ByteArray} (h : RVs w S β n [.str s] vs) : vs = #[.string s] := by
 obtain ⟨h1, h2⟩ := h
 have a := h2 0 _ rfl
 have e : vs = #[vs.getD 0 Go.undef] := by
  apply Array.ext
  ·simpa using h1
  intro i h3 h4
  have hi : i < 1 := by simpa using h4
  obtain rfl : i = 0 := by omega
  simp [Array.getD_eq_getD_getElem?, h3]
 generalize vs.getD 0 Go.undef = v at a e
 cases a
 exact e
theorem qqo {s : ByteArray} {k : IntKind} {m : Int} (h : RVs w S β n [.str s, .int k m] vs) : vs = #[.string s, .int k m] := by
 obtain ⟨h1, h2⟩ := h
 have a := h2 0 _ rfl
 have b := h2 1 _ rfl
 have e := two vs h1
 generalize vs.getD 0 Go.undef = v at a e
 generalize vs.getD 1 Go.undef = u at b e
 cases a
 cases b
 exact e
end
theorem qqw (a0 : ByteArray) (a1 : Int) (w : World) : Calls Tryd.prog 70 #[.string a0, .int .u8 a1] w fun e w' => e = .returned (.int .i64 (Lib.indexByte a0.data.toList a1.toNat.toUInt8)) ∧ w' = w := by
 go_enter Tryd.func70, Tryd.ntmps70
 go_wp2
 rw [run_callFunc_extern Tryd.func76 (by kernel_rfl) (by kernel_rfl) (by kernel_rfl) (e := Extern.BytealgIndexByte.indexByte) (by kernel_rfl), Lib.run_indexByteString]
 simp only [Result.andThen]
 rw [Oper.upon_value]
 go_wp2
 go_ret
 exact ⟨rfl, rfl⟩
theorem qb0 (s : ByteArray) (c : Int) : Fn Tryd.prog G 70 [.str s, .int .u8 c] (.int .i64 (Lib.indexByte s.data.toList c.toNat.toUInt8)) :=
 qc0 (fun vs w => by simp) fun w S β n vs hv => by
  rw [qqo hv]
  refine (qqw s c w).mono ?_
  rintro e w' ⟨rfl, rfl⟩
  exact ⟨⟨_, rfl, fun _ _ _ => .int _ _⟩, Below.refl _ _⟩
set_option maxHeartbeats 4000000 in
theorem Wl (s : ByteArray) (c : Int) : Fn Tryd.prog G 59 [.str s, .int .u8 c] (.int .i64 (Lib.indexByte s.data.toList c.toNat.toUInt8)) := by
 refine jj (T := tt) (N := 8) (rs := [.tmp 4]) (fun vs w => by simp) Tryd.func59 rfl rfl rfl rfl (by kernel_rfl) (jb rfl) (q8 _ rfl) ?_
 repeat' first
  | refine yo env rfl ?_
  | refine qr (qb0 _ _) ?_
  | refine qq (fun h => ?_) (fun h => ?_)
  | refine qu (fun h => ?_) (fun h => ?_)
  | refine qi (fun h => ?_) (fun h => ?_)
  | refine yc env rfl rfl (za ?_)
  | refine jc env rfl (za ?_)
 all_goals rfl
theorem qvq (b c : UInt8) : decide ((b.toNat : Int) = (c.toNat : Int)) = decide (b = c) := by
 rw [decide_eq_decide]
 constructor
 ·intro h; exact UInt8.toNat_inj.1 (by omega)
 rintro rfl; rfl
def Qh (s p : ByteArray) : Bool := decide (p.size ≤ s.size) && decide (s.extract 0 p.size = p)
theorem qoz (s : ByteArray) (k : Nat) (h : k ≤ s.size) : Qh (s.extract k s.size) (⟨#[47, 47]⟩ : ByteArray) = J7 (s.data.toList.drop k) := by
 have hd := qfk s k
 generalize s.extract k s.size = t at *
 have ht : t.data.toList.length = t.size := len_bytes t
 rw [← hd]
 unfold Qh
 have h2 : (⟨#[47, 47]⟩ : ByteArray).size = 2 := rfl
 rw [h2]
 have e : ∀ u : ByteArray, (u = ⟨#[47, 47]⟩) = (u.data.toList = [47, 47]) := by
  intro u
  apply propext
  constructor
  ·rintro rfl; rfl
  intro h
  rcases u with ⟨⟨l⟩⟩
  simp only at h
  subst h; rfl
 rw [Bool.eq_iff_iff]
 simp only [Bool.and_eq_true, decide_eq_true_eq, e, ByteArray.data_extract, Array.toList_extract, List.extract_eq_take_drop]
 match hl : t.data.toList with
 | [] => rw [hl] at ht; simp [J7]
 | [c] => rw [hl] at ht; simp [J7]
 | c :: d :: r => rw [hl] at ht; simp [J7]; simp at ht; omega
set_option maxHeartbeats 4000000 in
theorem qb1 (s p : ByteArray) : Fn Tryd.prog G 63 [.str s, .str p] (.bool (Qh s p)) := by
 refine jj (T := tt) (N := 18) (rs := [.tmp 4]) (fun vs w => by simp) Tryd.func63 rfl rfl rfl rfl (by kernel_rfl) (jb rfl) (q8 _ rfl) ?_
 repeat' first
  | refine yo env rfl ?_
  | (refine qnt (l := 0) (h := p.size) env rfl rfl rfl rfl (qfp rfl) (Nat.zero_le _) ?_ ?_; (· simpa using h))
  | refine qq (fun h => ?_) (fun h => ?_)
  | refine qu (fun h => ?_) (fun h => ?_)
  | refine qi (fun h => ?_) (fun h => ?_)
  | refine yc env rfl rfl (za ?_)
  | refine jc env rfl (za ?_)
 all_goals refine Zr ?_
 all_goals simp_all [Qh]
 all_goals omega
set_option maxHeartbeats 4000000 in
theorem qev (s p : ByteArray) : Fn Tryd.prog G 51 [.str s, .str p] (.bool (Qh s p)) := by
 refine jj (T := tt) (N := 8) (rs := [.tmp 4]) (fun vs w => by simp) Tryd.func51 rfl rfl rfl rfl (by kernel_rfl) (jb rfl) (q8 _ rfl) ?_
 repeat' first
  | refine yo env rfl ?_
  | refine qr (qb1 _ _) ?_
  | refine qq (fun h => ?_) (fun h => ?_)
  | refine qu (fun h => ?_) (fun h => ?_)
  | refine qi (fun h => ?_) (fun h => ?_)
  | refine yc env rfl rfl (za ?_)
  | refine jc env rfl (za ?_)
 all_goals rfl
set_option maxHeartbeats 4000000 in
theorem qes (s : ByteArray) : Fn Tryd.prog G 47 [.str s] (.tup []) := by
 refine jj (T := tt) (N := 2) (rs := []) (fun vs w => by simp) Tryd.func47 rfl rfl rfl rfl (by kernel_rfl) (jb rfl) (q8 _ rfl) ?_
 repeat' first
  | refine yo env rfl ?_
  | refine qq (fun h => ?_) (fun h => ?_)
  | refine qu (fun h => ?_) (fun h => ?_)
  | refine qi (fun h => ?_) (fun h => ?_)
  | refine yc env rfl rfl (za ?_)
  | refine jc env rfl (za ?_)
 all_goals rfl
theorem qt6 (s : ByteArray) (a k : Nat) (hs : s.size ≤ 9223372036854775807) (hJ : k ≤ s.size ∧ ku s a = ku s k) :
 (∃ b, s[k]? = some b ∧ decide ((k : Int) < (s.size : Int)) = true ∧ IntKind.i64.wrap ((k : Int) + 1) = ((k + 1 : Nat) : Int) ∧ k + 1 ≤ s.size ∧ ku s a = ku s (k + 1) ∧
   (decide ((b.toNat : Int) = 32) = true ∨ (decide ((b.toNat : Int) = 32) = false ∧ decide ((b.toNat : Int) = 9) = true) ∨ (decide ((b.toNat : Int) = 32) = false ∧ decide ((b.toNat : Int) = 9) = false ∧ decide ((b.toNat : Int) = 10) = true))) ∨
 (∃ b, s[k]? = some b ∧ decide ((k : Int) < (s.size : Int)) = true ∧ decide ((b.toNat : Int) = 32) = false ∧ decide ((b.toNat : Int) = 9) = false ∧ decide ((b.toNat : Int) = 10) = false ∧
   ((Qh (s.extract k s.size) ⟨#[47, 47]⟩ = false ∧ ku s a = k) ∨
    (Qh (s.extract k s.size) ⟨#[47, 47]⟩ = true ∧ decide (Lib.indexByte (s.extract k s.size).data.toList (10 : Int).toNat.toUInt8 < 0) = true ∧ ku s a = k) ∨
    (∃ n : Nat, Qh (s.extract k s.size) ⟨#[47, 47]⟩ = true ∧ decide (Lib.indexByte (s.extract k s.size).data.toList (10 : Int).toNat.toUInt8 < 0) = false ∧ Lib.indexByte (s.extract k s.size).data.toList (10 : Int).toNat.toUInt8 = n ∧
      IntKind.i64.wrap ((k : Int) + Lib.indexByte (s.extract k s.size).data.toList (10 : Int).toNat.toUInt8) = ((k + n : Nat) : Int) ∧ IntKind.i64.wrap ((k : Int) + IntKind.i64.wrap (Lib.indexByte (s.extract k s.size).data.toList (10 : Int).toNat.toUInt8 + 1)) = ((k + n + 1 : Nat) : Int) ∧
      k + n + 1 ≤ s.size ∧ ku s a = ku s (k + n + 1)))) ∨
 (decide ((k : Int) < (s.size : Int)) = false ∧ ku s a = k) := by
 obtain ⟨hk, he⟩ := hJ
 have c10 : (10 : Int).toNat.toUInt8 = 10 := rfl
 have t1 : ∀ b : UInt8, decide ((b.toNat : Int) = 32) = decide (b = 32) := fun b => qvq b 32
 have t2 : ∀ b : UInt8, decide ((b.toNat : Int) = 9) = decide (b = 9) := fun b => qvq b 9
 have t3 : ∀ b : UInt8, decide ((b.toNat : Int) = 10) = decide (b = 10) := fun b => qvq b 10
 simp only [t1, t2, t3, c10, qoz s k hk, qfk]
 by_cases hlt : k < s.size
 ·have hd : decide ((k : Int) < (s.size : Int)) = true := by simpa using hlt
  have hb : s[k]? = some s[k] := getElem?_pos s k hlt
  by_cases h : s[k] = 32 ∨ s[k] = 9 ∨ s[k] = 10
  ·refine .inl ⟨s[k], hb, hd, wt (by omega) (by omega), hlt, by rw [he, qkv s k hlt h], ?_⟩
   rcases h with h | h | h <;> rw [h] <;> simp
  refine .inr (.inl ⟨s[k], hb, hd, ?_⟩)
  have h1 : ¬ s[k] = 32 := fun e => h (.inl e)
  have h2 : ¬ s[k] = 9 := fun e => h (.inr (.inl e))
  have h3 : ¬ s[k] = 10 := fun e => h (.inr (.inr e))
  refine ⟨decide_eq_false h1, decide_eq_false h2, decide_eq_false h3, ?_⟩
  cases hsl : J7 (s.data.toList.drop k) with
  | false => exact .inl ⟨rfl, by rw [he, qmj s k hlt h hsl]⟩
  | true =>
    rcases J8 (s.data.toList.drop k) with ⟨hi, _⟩ | ⟨n, hi, hn2, _⟩
    ·exact .inr (.inl ⟨rfl, by rw [hi]; rfl, by rw [he, qmk s k hlt hsl hi]⟩)
    have hln := qml s k n hlt hsl hi
    refine .inr (.inr ⟨n, rfl, by rw [hi]; simp, hi, ?_, ?_, hln.1, by rw [he, hln.2]⟩)
    ·rw [hi, wt (by omega) (by omega)]; rfl
    rw [hi, wt (x := (n : Int) + 1) (by omega) (by omega), wt (by omega) (by omega)]; omega
 exact .inr (.inr ⟨by simpa using hlt, by rw [he, qoc s k (by omega)]⟩)
set_option maxHeartbeats 4000000 in
theorem qhm (s : ByteArray) (a : Nat) (ha : a ≤ s.size) (hs : s.size ≤ 9223372036854775807) : Fn Tryd.prog G 46 [.str s, .int .i64 a, .fn 47 []] (.int .i64 (ku s a : Nat)) := by
 refine jj (T := tt) (N := 47) (rs := [.tmp 6]) (fun vs w => by simp) Tryd.func46 rfl rfl rfl rfl (by kernel_rfl) (jb rfl) (q8 _ rfl) ?_
 repeat' first
  | refine yo env rfl ?_
  | refine qx6 (qes _) ?_
  | refine qr (qes _) ?_
  | (refine qdg (α := Nat) (fun k => k ≤ s.size ∧ ku s a = ku s k) (fun k => s.size - k) (fun k => [(1, .int .i64 k)]) (fun _ => []) (a) (fun _ => rfl) (fun _ => rfl) (⟨ha, rfl⟩) ?_ ?_ (fun k hJ => ?_); (· simp [leFT, leV, leOs, leO, leC, rho, AV.ren, AV.ren1, AV.un, AV.un1, AV.closed]); (· simp [leFT, leV, leOs, leO, leC, rho, AV.ren, AV.ren1, AV.un, AV.un1, AV.closed]); rcases qt6 s a k hs hJ with ⟨b, hb, hd, hw, hle, he, h1 | ⟨h1, h2⟩ | ⟨h1, h2, h3⟩⟩ | ⟨b, hb, hd, h1, h2, h3, ⟨hp, he⟩ | ⟨hp, hi, he⟩ | ⟨n, hp, hi, hn, hw1, hw2, hle, he⟩⟩ | ⟨hd, he⟩)
  | refine qdf rfl ?_
  | refine qar rfl rfl ?_
  | (refine qbo (k + 1) ?_ ?_ ?_ ?_; (· exact ⟨hle, he⟩); (· omega); (· simp [leFT, leV, leOs, leO, leC, rho, AV.ren, AV.ren1, AV.un, AV.un1, AV.closed, hw]); (· simp [leFT, leV, leOs, leO, leC, rho, AV.ren, AV.ren1, AV.un, AV.un1, AV.closed]))
  | (refine qbo (k + n + 1) ?_ ?_ ?_ ?_; (· exact ⟨hle, he⟩); (· omega); (· (simp only [hw2]; simp [leFT, leV, leOs, leO, leC, rho, AV.ren, AV.ren1, AV.un, AV.un1, AV.closed])); (· simp [leFT, leV, leOs, leO, leC, rho, AV.ren, AV.ren1, AV.un, AV.un1, AV.closed]))
  | refine qx4 env rfl rfl rfl rfl rfl hb ?_
  | refine qnt (l := k) (h := s.size) env rfl rfl rfl (qfp rfl) rfl hJ.1 (Nat.le_refl _) ?_
  | refine qnt (l := k) (h := k + n) env rfl rfl rfl (qfp rfl) (qfp hw1) (Nat.le_add_right _ _) (by omega) ?_
  | (refine qk ?_ ?_; (· simp only [hd]))
  | (refine ql ?_ ?_; (· simp only [hd]))
  | (refine qn ?_ ?_; (· simp only [hd]))
  | (refine qm ?_ ?_; (· simp only [hd]))
  | (refine qx ?_ ?_; (· simp only [hd]))
  | (refine qy ?_ ?_; (· simp only [hd]))
  | (refine qk ?_ ?_; (· simp only [h1]))
  | (refine ql ?_ ?_; (· simp only [h1]))
  | (refine qn ?_ ?_; (· simp only [h1]))
  | (refine qm ?_ ?_; (· simp only [h1]))
  | (refine qx ?_ ?_; (· simp only [h1]))
  | (refine qy ?_ ?_; (· simp only [h1]))
  | (refine qk ?_ ?_; (· simp only [h2]))
  | (refine ql ?_ ?_; (· simp only [h2]))
  | (refine qn ?_ ?_; (· simp only [h2]))
  | (refine qm ?_ ?_; (· simp only [h2]))
  | (refine qx ?_ ?_; (· simp only [h2]))
  | (refine qy ?_ ?_; (· simp only [h2]))
  | (refine qk ?_ ?_; (· simp only [h3]))
  | (refine ql ?_ ?_; (· simp only [h3]))
  | (refine qn ?_ ?_; (· simp only [h3]))
  | (refine qm ?_ ?_; (· simp only [h3]))
  | (refine qx ?_ ?_; (· simp only [h3]))
  | (refine qy ?_ ?_; (· simp only [h3]))
  | (refine qk ?_ ?_; (· simp only [hp, Bool.not_true, Bool.not_false]))
  | (refine ql ?_ ?_; (· simp only [hp, Bool.not_true, Bool.not_false]))
  | (refine qn ?_ ?_; (· simp only [hp, Bool.not_true, Bool.not_false]))
  | (refine qm ?_ ?_; (· simp only [hp, Bool.not_true, Bool.not_false]))
  | (refine qx ?_ ?_; (· simp only [hp, Bool.not_true, Bool.not_false]))
  | (refine qy ?_ ?_; (· simp only [hp, Bool.not_true, Bool.not_false]))
  | (refine qk ?_ ?_; (· simp only [hi]))
  | (refine ql ?_ ?_; (· simp only [hi]))
  | (refine qn ?_ ?_; (· simp only [hi]))
  | (refine qm ?_ ?_; (· simp only [hi]))
  | (refine qx ?_ ?_; (· simp only [hi]))
  | (refine qy ?_ ?_; (· simp only [hi]))
  | refine qr (qev _ _) ?_
  | refine qr (Wl _ _) ?_
  | refine qq (fun h => ?_) (fun h => ?_)
  | refine qu (fun h => ?_) (fun h => ?_)
  | refine qi (fun h => ?_) (fun h => ?_)
  | refine yc env rfl rfl (za ?_)
  | refine jc env rfl (za ?_)
 all_goals refine qbj ?_
 all_goals simp only [he]
def qj1 (s : ByteArray) (a : Int) : Int := if 0 ≤ a ∧ a ≤ s.size then (ku s a.toNat : Nat) else a
theorem qfm {s : ByteArray} {k : Nat} (h : k ≤ s.size) : qj1 s k = (ku s k : Nat) := by
 unfold qj1
 rw [if_pos ⟨by omega, by omega⟩, Int.toNat_natCast]
def trivValid (s : ByteArray) : Bool := decide (qj1 s 0 = s.size)
set_option maxHeartbeats 4000000 in
theorem qin (s : ByteArray) (a : Int) (hs : s.size ≤ 9223372036854775807) : Fn Tryd.prog G 41 [.str s, .int .i64 a] (.int .i64 (qj1 s a)) := by
 by_cases hlo : a < 0
 case pos =>
  have d1 : decide (a < 0) = true := decide_eq_true hlo
  rw [show qj1 s a = a from if_neg (by omega)]
  refine jj (T := tt) (N := 17) (rs := [.tmp 4]) (fun vs w => by simp) Tryd.func41 rfl rfl rfl rfl (by kernel_rfl) (jb rfl) (q8 _ rfl) ?_
  repeat' first
   | refine yo env rfl ?_
   | (refine qk ?_ ?_; (· simp only [d1]))
   | (refine ql ?_ ?_; (· simp only [d1]))
   | (refine qn ?_ ?_; (· simp only [d1]))
   | (refine qm ?_ ?_; (· simp only [d1]))
   | (refine qx ?_ ?_; (· simp only [d1]))
   | (refine qy ?_ ?_; (· simp only [d1]))
   | (refine qk ?_ ?_; (· simp only [d2]))
   | (refine ql ?_ ?_; (· simp only [d2]))
   | (refine qn ?_ ?_; (· simp only [d2]))
   | (refine qm ?_ ?_; (· simp only [d2]))
   | (refine qx ?_ ?_; (· simp only [d2]))
   | (refine qy ?_ ?_; (· simp only [d2]))
   | refine qq (fun h => ?_) (fun h => ?_)
   | refine qu (fun h => ?_) (fun h => ?_)
   | refine qi (fun h => ?_) (fun h => ?_)
   | refine yc env rfl rfl (za ?_)
   | refine jc env rfl (za ?_)
  all_goals rfl
 have d1 : decide (a < 0) = false := decide_eq_false hlo
 by_cases hhi : (s.size : Int) < a
 case pos =>
  have d2 : decide ((s.size : Int) < a) = true := decide_eq_true hhi
  rw [show qj1 s a = a from if_neg (by omega)]
  refine jj (T := tt) (N := 17) (rs := [.tmp 4]) (fun vs w => by simp) Tryd.func41 rfl rfl rfl rfl (by kernel_rfl) (jb rfl) (q8 _ rfl) ?_
  repeat' first
   | refine yo env rfl ?_
   | (refine qk ?_ ?_; (· simp only [d1]))
   | (refine ql ?_ ?_; (· simp only [d1]))
   | (refine qn ?_ ?_; (· simp only [d1]))
   | (refine qm ?_ ?_; (· simp only [d1]))
   | (refine qx ?_ ?_; (· simp only [d1]))
   | (refine qy ?_ ?_; (· simp only [d1]))
   | (refine qk ?_ ?_; (· simp only [d2]))
   | (refine ql ?_ ?_; (· simp only [d2]))
   | (refine qn ?_ ?_; (· simp only [d2]))
   | (refine qm ?_ ?_; (· simp only [d2]))
   | (refine qx ?_ ?_; (· simp only [d2]))
   | (refine qy ?_ ?_; (· simp only [d2]))
   | refine qq (fun h => ?_) (fun h => ?_)
   | refine qu (fun h => ?_) (fun h => ?_)
   | refine qi (fun h => ?_) (fun h => ?_)
   | refine yc env rfl rfl (za ?_)
   | refine jc env rfl (za ?_)
  all_goals rfl
 have d2 : decide ((s.size : Int) < a) = false := decide_eq_false hhi
 obtain ⟨m, rfl⟩ : ∃ m : Nat, a = m := ⟨a.toNat, by omega⟩
 have hm : m ≤ s.size := by omega
 rw [qfm hm]
 refine jj (T := tt) (N := 17) (rs := [.tmp 4]) (fun vs w => by simp) Tryd.func41 rfl rfl rfl rfl (by kernel_rfl) (jb rfl) (q8 _ rfl) ?_
 repeat' first
  | refine yo env rfl ?_
  | (refine qk ?_ ?_; (· simp only [d1]))
  | (refine ql ?_ ?_; (· simp only [d1]))
  | (refine qn ?_ ?_; (· simp only [d1]))
  | (refine qm ?_ ?_; (· simp only [d1]))
  | (refine qx ?_ ?_; (· simp only [d1]))
  | (refine qy ?_ ?_; (· simp only [d1]))
  | (refine qk ?_ ?_; (· simp only [d2]))
  | (refine ql ?_ ?_; (· simp only [d2]))
  | (refine qn ?_ ?_; (· simp only [d2]))
  | (refine qm ?_ ?_; (· simp only [d2]))
  | (refine qx ?_ ?_; (· simp only [d2]))
  | (refine qy ?_ ?_; (· simp only [d2]))
  | refine qr (qhm s m hm hs) ?_
  | refine qq (fun h => ?_) (fun h => ?_)
  | refine qu (fun h => ?_) (fun h => ?_)
  | refine qi (fun h => ?_) (fun h => ?_)
  | refine yc env rfl rfl (za ?_)
  | refine jc env rfl (za ?_)
 all_goals rfl
set_option maxHeartbeats 4000000 in
theorem qmi (s : ByteArray) (hs : s.size ≤ 9223372036854775807) : Fn Tryd.prog G 68 [.str s] (.bool (trivValid s)) := by
 refine jj (T := tt) (N := 8) (rs := [.tmp 2]) (fun vs w => by simp) Tryd.func68 rfl rfl rfl rfl (by kernel_rfl) (jb rfl) (q8 _ rfl) ?_
 repeat' first
  | refine yo env rfl ?_
  | refine qr (qin s 0 hs) ?_
  | refine qq (fun h => ?_) (fun h => ?_)
  | refine qu (fun h => ?_) (fun h => ?_)
  | refine qi (fun h => ?_) (fun h => ?_)
  | refine yc env rfl rfl (za ?_)
  | refine jc env rfl (za ?_)
 all_goals rfl
end Go.Proofs.YtigmilhpeodhbaaDoorW.Ex.Gr
