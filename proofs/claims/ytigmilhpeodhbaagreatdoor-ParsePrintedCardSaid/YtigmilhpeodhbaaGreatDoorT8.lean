/- strings.Builder's methods as contracts on the objects that they are handed (the builder, its row of bytes); strings.Repeat. The library's contracts, laid at this program. Conditions: those in each theorem. -/
import Derived.Test.YtigmilhpeodhbaaGreatDoorExR
import Derived.Test.YtigmilhpeodhbaaGreatDoorExF
import Derived.Test.YtigmilhpeodhbaaGreatDoorSa
import Derived.Shelf.Strings.Repeat
import Derived.WalkKit
import Derived.BigCall
import Derived.KernelRfl
namespace Go.Proofs.YtigmilhpeodhbaaGreatDoorW.Ex.Gr
open Go Go.Shelf Go.Proofs.YtigmilhpeodhbaaGreatDoorW.Ex Go.RowKit
set_option linter.all false
set_option maxRecDepth 100000
def q6s : Go.Shelf.Ren := ⟨fun | 166 => 45 | 240 => 90 | 276 => 120 | n => n, fun | 70 => 57 | 9 => 9 | 3 => 3 | 75 => 64 | 0 => 0 | 72 => 60 | 37 => 58 | 4 => 4 | 164 => 116 | 80 => 73 | 5 => 5 | n => n, fun | n => n⟩
theorem qw8 : Go.Proofs.Lays.n166 Tryz.prog q6s where
 mixed := by kernel_rfl
 f166 := Tryz.func45.trans (congrArg some (by kernel_rfl))
 f240 := Tryz.func90.trans (congrArg some (by kernel_rfl))
 f276 := Tryz.func120.trans (congrArg some (by kernel_rfl))
 t0 := Tryz.underlying0
 a0 := Tryz.isAgg0
 z0 := Tryz.sizeOf0
 v0 := Tryz.zeroValue0
 t3 := Tryz.underlying3
 a3 := Tryz.isAgg3
 z3 := Tryz.sizeOf3
 v3 := Tryz.zeroValue3
 t4 := Tryz.underlying4
 a4 := Tryz.isAgg4
 z4 := Tryz.sizeOf4
 v4 := Tryz.zeroValue4
 t9 := Tryz.underlying9
 a9 := Tryz.isAgg9
 z9 := Tryz.sizeOf9
 v9 := Tryz.zeroValue9
 t20 := Tryz.underlying20
 a20 := Tryz.isAgg20
 z20 := Tryz.sizeOf20
 v20 := Tryz.zeroValue20
 t37 := Tryz.underlying58
 a37 := Tryz.isAgg58
 z37 := Tryz.sizeOf58
 v37 := Tryz.zeroValue58
 t70 := Tryz.underlying57
 a70 := Tryz.isAgg57
 z70 := Tryz.sizeOf57
 v70 := Tryz.zeroValue57
 t72 := Tryz.underlying60
 a72 := Tryz.isAgg60
 z72 := Tryz.sizeOf60
 v72 := Tryz.zeroValue60
 t75 := Tryz.underlying64
 a75 := Tryz.isAgg64
 z75 := Tryz.sizeOf64
 v75 := Tryz.zeroValue64
 t164 := Tryz.underlying116
 a164 := Tryz.isAgg116
 z164 := Tryz.sizeOf116
 v164 := Tryz.zeroValue116
def q2k : Go.Shelf.Ren := ⟨fun | 105 => 152 | 212 => 161 | 99 => 43 | 165 => 162 | 166 => 45 | 170 => 47 | 169 => 48 | 263 => 171 | 264 => 172 | 206 => 89 | 240 => 90 | 241 => 173 | 276 => 120 | 277 => 181 | n => n, fun | 9 => 9 | 3 => 3 | 4 => 4 | 20 => 20 | 0 => 0 | 46 => 125 | 109 => 126 | 5 => 5 | 72 => 60 | 76 => 66 | 51 => 135 | 146 => 136 | 53 => 138 | 148 => 139 | 70 => 57 | 37 => 58 | 75 => 64 | 127 => 98 | 164 => 116 | 80 => 73 | n => n, fun | n => n⟩
theorem q5p : Go.Proofs.Lays.n105 Tryz.prog q2k where
 mixed := by kernel_rfl
 f99 := Tryz.func43.trans (congrArg some (by kernel_rfl))
 f105 := Tryz.func152.trans (congrArg some (by kernel_rfl))
 f165 := Tryz.func162.trans (congrArg some (by kernel_rfl))
 f166 := Tryz.func45.trans (congrArg some (by kernel_rfl))
 f169 := Tryz.func48.trans (congrArg some (by kernel_rfl))
 f170 := Tryz.func47.trans (congrArg some (by kernel_rfl))
 f206 := Tryz.func89.trans (congrArg some (by kernel_rfl))
 f212 := Tryz.func161.trans (congrArg some (by kernel_rfl))
 f240 := Tryz.func90.trans (congrArg some (by kernel_rfl))
 f241 := Tryz.func173.trans (congrArg some (by kernel_rfl))
 f263 := Tryz.func171.trans (congrArg some (by kernel_rfl))
 f264 := Tryz.func172.trans (congrArg some (by kernel_rfl))
 f276 := Tryz.func120.trans (congrArg some (by kernel_rfl))
 f277 := Tryz.func181.trans (congrArg some (by kernel_rfl))
 t0 := Tryz.underlying0
 a0 := Tryz.isAgg0
 z0 := Tryz.sizeOf0
 v0 := Tryz.zeroValue0
 t3 := Tryz.underlying3
 a3 := Tryz.isAgg3
 z3 := Tryz.sizeOf3
 v3 := Tryz.zeroValue3
 t4 := Tryz.underlying4
 a4 := Tryz.isAgg4
 z4 := Tryz.sizeOf4
 v4 := Tryz.zeroValue4
 t5 := Tryz.underlying5
 a5 := Tryz.isAgg5
 z5 := Tryz.sizeOf5
 v5 := Tryz.zeroValue5
 t9 := Tryz.underlying9
 a9 := Tryz.isAgg9
 z9 := Tryz.sizeOf9
 v9 := Tryz.zeroValue9
 t20 := Tryz.underlying20
 a20 := Tryz.isAgg20
 z20 := Tryz.sizeOf20
 v20 := Tryz.zeroValue20
 t37 := Tryz.underlying58
 a37 := Tryz.isAgg58
 z37 := Tryz.sizeOf58
 v37 := Tryz.zeroValue58
 t46 := Tryz.underlying125
 a46 := Tryz.isAgg125
 z46 := Tryz.sizeOf125
 v46 := Tryz.zeroValue125
 t51 := Tryz.underlying135
 a51 := Tryz.isAgg135
 z51 := Tryz.sizeOf135
 v51 := Tryz.zeroValue135
 t53 := Tryz.underlying138
 a53 := Tryz.isAgg138
 z53 := Tryz.sizeOf138
 v53 := Tryz.zeroValue138
 t70 := Tryz.underlying57
 a70 := Tryz.isAgg57
 z70 := Tryz.sizeOf57
 v70 := Tryz.zeroValue57
 t72 := Tryz.underlying60
 a72 := Tryz.isAgg60
 z72 := Tryz.sizeOf60
 v72 := Tryz.zeroValue60
 t75 := Tryz.underlying64
 a75 := Tryz.isAgg64
 z75 := Tryz.sizeOf64
 v75 := Tryz.zeroValue64
 t76 := Tryz.underlying66
 a76 := Tryz.isAgg66
 z76 := Tryz.sizeOf66
 v76 := Tryz.zeroValue66
 t109 := Tryz.underlying126
 a109 := Tryz.isAgg126
 z109 := Tryz.sizeOf126
 v109 := Tryz.zeroValue126
 t127 := Tryz.underlying98
 a127 := Tryz.isAgg98
 z127 := Tryz.sizeOf98
 v127 := Tryz.zeroValue98
 t146 := Tryz.underlying136
 a146 := Tryz.isAgg136
 z146 := Tryz.sizeOf136
 v146 := Tryz.zeroValue136
 t148 := Tryz.underlying139
 a148 := Tryz.isAgg139
 z148 := Tryz.sizeOf139
 v148 := Tryz.zeroValue139
 t164 := Tryz.underlying116
 a164 := Tryz.isAgg116
 z164 := Tryz.sizeOf116
 v164 := Tryz.zeroValue116
theorem qs1 : Builder.Extra Tryz.prog q6s where
 sizeBuilder := by kernel_rfl
 liesBuilder := by kernel_rfl
 t5 := Tryz.underlying5
 a5 := Tryz.isAgg5
 z5 := Tryz.sizeOf5
 v5 := Tryz.zeroValue5
 infoByte := by kernel_rfl
 cellsByte := by kernel_rfl
 sizeByte := by kernel_rfl
 neB5 := by decide
theorem q3r : Builder.Extra Tryz.prog q2k where
 sizeBuilder := by kernel_rfl
 liesBuilder := by kernel_rfl
 t5 := Tryz.underlying5
 a5 := Tryz.isAgg5
 z5 := Tryz.sizeOf5
 v5 := Tryz.zeroValue5
 infoByte := by kernel_rfl
 cellsByte := by kernel_rfl
 sizeByte := by kernel_rfl
 neB5 := by decide
theorem strings_Repeat {G : Nat → List AV} (s : ByteArray) (i : Int) (h0 : 0 ≤ i) (h1 : i ≤ 9223372036854775807) (h2 : s.size * i.toNat ≤ 140737488355328) : Fn Tryz.prog G 152 [.str s, .int .i64 i] (.str ⟨(Lib.repeatL s.data.toList i.toNat).toArray⟩) :=
 qcl (fun vs w => by simp) fun w S β n vs hv => by
  rw [qm0 hv]
  have e : i = (i.toNat : Int) := (Int.toNat_of_nonneg h0).symm
  rw [show Value.int .i64 i = .int .i64 (i.toNat : Int) by rw [← e]]
  refine (Any.strings_Repeat q5p q3r s i.toNat w (by omega) h2).mono ?_
  rintro e w' ⟨rfl, hb⟩
  exact ⟨⟨_, rfl, fun _ _ _ => .str _⟩, hb⟩
def c8 (x : UInt8) : List AV := [.int .u8 x.toNat]
theorem zx : CellsOk c8 1 := ⟨fun _ => rfl, by decide, fun a z hz => by
 simp only [c8, List.mem_cons, List.not_mem_nil, or_false] at hz
 subst hz
 exact ⟨rfl, rfl⟩⟩
variable {G : Nat → List AV}
theorem q1y {w : World} {S : Nat → Prop} {β : Nat → Nat} {n id s o : Nat} {vs : Array Value} (h : RVs w S β n [.ptr id s o] vs) : vs = #[.pointer (some ⟨β s, o, none⟩)] := by
 obtain ⟨h1, h2⟩ := h
 have a := h2 0 _ rfl
 have e : vs = #[vs.getD 0 Go.undef] := by
  apply Array.ext
  ·simpa using h1
  intro i h3 h4
  obtain rfl : i = 0 := by simp at h4; omega
  simp [Array.getD_eq_getD_getElem?, h3]
 generalize vs.getD 0 Go.undef = v at a e
 cases a
 exact e
theorem qot (len : Nat) (cs : List AV) : ACalls Tryz.prog G 90 [.ptr 0 0 0] ⟨2, [(0, .var 60 [.optr 0 0 0, .bs 1 1 1 0 len]), (1, .row 5 cs)]⟩ (.tup []) ⟨2, [(0, .var 60 [.optr 0 0 0, .bs 1 1 1 0 len]), (1, .row 5 cs)]⟩ := by
 intro w S F β vs hH hv
 rw [q1y hv]
 obtain ⟨c, h1, h2, h3, h4, h5⟩ := hH.obj 0 0 _ rfl
 have c0 : w.cell? ⟨β 0, 0, none⟩ = some (c.getD 0 Go.undef) := by
  rw [Lib.cell_of_heap h1, Array.getElem?_eq_getElem (by rw [h2]; exact Nat.zero_lt_succ _)]
  simp [Array.getD, h2]
 have hsh : w.shape? (β 0) = some (60, 2) := by simp [World.shape?, h1, h2]
 rw [show (callFunc 90 #[.pointer (some ⟨β 0, 0, none⟩)]).run Tryz.prog w = .ok (.enter 90 #[.pointer (some ⟨β 0, 0, none⟩)]) w by simp]
 show Calls Tryz.prog 90 _ w _
 have hv0 := (h5 0 _ rfl).2
 generalize hg : c.getD 0 Go.undef = v0 at c0 hv0
 cases hv0 with
 | optr _ _ _ _ hs hv0 =>
   rcases hv0 with rfl | rfl
   ·refine (Any.Builder_copyCheck_fresh (P := Tryz.prog) { qw8 with } qs1.toX72 (β 0) w c0 hsh (Lib.frozen_of_heap h1 0)).mono ?_
    rintro e w' ⟨rfl, rfl⟩
    have hheap : (w.setCell ⟨β 0, 0, none⟩ (.pointer (some ⟨β 0, 0, none⟩))).heap[β 0]? = some (.cells (c.setIfInBounds 0 (.pointer (some ⟨β 0, 0, none⟩))) 60 (0, 0)) := by
     simp [World.setCell, Array.getElem?_modify, h1]
    obtain ⟨hx, hH2⟩ := hH.turn (id := 0) (s := 0) (o := .var 60 [.optr 0 0 0, .bs 1 1 1 0 len]) (o' := .var 60 [.optr 0 0 0, .bs 1 1 1 0 len]) rfl rfl (w' := w.setCell ⟨β 0, 0, none⟩ (.pointer (some ⟨β 0, 0, none⟩))) rfl rfl rfl (by simp [World.setCell])
     (fun k hk => by simp [World.setCell, Array.getElem?_modify, Ne.symm hk]) (fun x hx => by
       rw [hsh] at hx
       rw [← hx]
       simp [World.shape?, hheap, h2]) (fun up => ⟨_, hheap, by simp [h2], h3, h4, fun i x hi => by
       match i, hi with
       | 0, hi =>
         simp only [List.getElem?_cons_zero, Option.some.injEq] at hi
         subst hi
         refine ⟨rfl, ?_⟩
         simp only [Array.getD_eq_getD_getElem?, Array.getElem?_setIfInBounds]
         rw [if_pos trivial, if_pos (by rw [h2]; exact Nat.zero_lt_succ _)]
         exact .optr _ _ _ _ hs (.inr rfl)
       | 1, hi =>
         have h51 := h5 1 x hi
         refine ⟨h51.1, ?_⟩
         have e1 : (c.setIfInBounds 0 (.pointer (some ⟨β 0, 0, none⟩))).getD 1 Go.undef = c.getD 1 Go.undef := by
          simp only [Array.getD_eq_getD_getElem?, Array.getElem?_setIfInBounds]
          rw [if_neg (by decide)]
         rw [e1]
         exact up _ _ h51.2
       | i + 2, hi => simp at hi⟩)
    exact ⟨_, rfl, S, β, hx, hH2, .tup [] #[] rfl (by simp)⟩
   refine (Any.Builder_copyCheck_used (P := Tryz.prog) { qw8 with } qs1.toX72 (β 0) w c0).mono ?_
   rintro e w' ⟨rfl, rfl⟩
   exact ⟨_, rfl, S, β, .refl .., hH, .tup [] #[] rfl (by simp)⟩
theorem qsz (w : World) (a : Addr) (n k : Nat) (h : k ≠ a.block) : (w.freeze a n).heap[k]? = w.heap[k]? := by
 unfold World.freeze
 split
 ·rfl
 simp [Array.getElem?_modify, Ne.symm h]
theorem qsy (w : World) (a : Addr) (n k : Nat) (x : TypeId × Nat) (h : w.shape? k = some x) : (w.freeze a n).shape? k = some x := by
 unfold World.freeze
 split
 ·exact h
 unfold World.shape? at *
 simp only [Array.getElem?_modify]
 by_cases e : a.block = k
 ·subst e
  rw [if_pos rfl]
  cases hh : w.heap[a.block]? with
  | none => rw [hh] at h; cases h
  | some o =>
    rw [hh] at h
    cases o with
    | cells c e f => exact h
    | _ => cases h
 rw [if_neg e]; exact h
theorem qvm (w : World) (a : Addr) (n : Nat) : (w.freeze a n).heap.size = w.heap.size := by
 unfold World.freeze
 split
 ·rfl
 simp
theorem q3h {G : Nat → List AV} {w w' : World} {S F : Nat → Prop} {β : Nat → Nat} {H : Hp} (hH : HR G w S F β H) (hn : H.n = 2) (hx : Ext w S F β 2 w' S β 2) : HR G w' S F β ⟨2, [(0, .dead), (1, .dead)]⟩ := by
 refine ⟨fun k hk => Nat.lt_of_lt_of_le (hH.lts k hk) hx.size, fun k hk => Nat.lt_of_lt_of_le (hH.ltf k hk) hx.size, fun g => by
  have := (hH.glob g)
  rw [hn] at this
  exact this.ext hx, fun i s o hi => ?_, fun i j si sj oi oj hi hj hne l1 l2 => ?_, fun i s o hi => ?_⟩
 ·match i, hi with
  | 0, hi => simp at hi; rw [← hi.1]; show 0 < 2; omega
  | 1, hi => simp at hi; rw [← hi.1]; show 1 < 2; omega
  | i + 2, hi => simp at hi
 ·match i, hi with
  | 0, hi => simp at hi; rw [← hi.2] at l1; cases l1
  | 1, hi => simp at hi; rw [← hi.2] at l1; cases l1
  | i + 2, hi => simp at hi
 match i, hi with
 | 0, hi => simp at hi; rw [← hi.2]; trivial
 | 1, hi => simp at hi; rw [← hi.2]; trivial
 | i + 2, hi => simp at hi
theorem q71 (l : List UInt8) (j : Nat) (x : UInt8) (h : l[j]? = some x) : (l.map c8).flatten[j]? = some (.int .u8 x.toNat) := by
 have : (l.map c8).flatten = l.map fun x => AV.int .u8 x.toNat := by
  clear h
  induction l with
  | nil => rfl
  | cons a l ih => rw [List.map_cons, List.flatten_cons, ih]; rfl
 rw [this, List.getElem?_map, h]; rfl
set_option maxHeartbeats 4000000 in
theorem qgb {w w2 w3 : World} {b n cap : Nat} {A p : Option Addr} {s : ByteArray} (c1 : w.drew.cell? ⟨b, 1, none⟩ = some (.slice A n cap)) (c2 : w2.cell? ⟨b, 1, none⟩ = some (.slice A n cap))
 (hSD : (Builtin.unsafeSliceData_ #[58] 98 #[.slice A n cap]).run Tryz.prog w.drew = .ok (.pointer p) w2) (hUS : (Builtin.unsafeString_ #[98, 3] 9 #[.pointer p, .int .i64 n]).run Tryz.prog w2 = .ok (.string s) w3) :
 Calls Tryz.prog 48 #[.pointer (some ⟨b, 0, none⟩)] w fun e w' => e = .returned (.string s) ∧ w' = w3 := by
 have mixed := qw8.mixed
 go_enter Tryz.func48, Tryz.ntmps48
 go_wp2
 go_region_o
 all_goals (go_wp2; go_ret; exact ⟨rfl, rfl⟩)
theorem qv6 (l : List UInt8) : ACalls Tryz.prog G 48 [.ptr 0 0 0] ⟨2, [(0, .var 60 [.optr 0 0 0, .bs 1 1 1 0 l.length]), (1, .row 5 (l.map c8).flatten)]⟩ (.str ⟨l.toArray⟩) ⟨2, [(0, .dead), (1, .dead)]⟩ := by
 intro w S F β vs hH hv
 rw [q1y hv]
 obtain ⟨c, h1, h2, h3, h4, h5⟩ := hH.obj 0 0 _ rfl
 rw [show (callFunc 48 #[.pointer (some ⟨β 0, 0, none⟩)]).run Tryz.prog w = .ok (.enter 48 #[.pointer (some ⟨β 0, 0, none⟩)]) w by simp]
 show Calls Tryz.prog 48 _ w _
 have c1 : w.drew.cell? ⟨β 0, 1, none⟩ = some (c.getD 1 Go.undef) := by
  rw [Lib.cell_of_heap (w := w.drew) h1, Array.getElem?_eq_getElem (by rw [h2]; exact Nat.lt_succ_self _)]
  simp [Array.getD, h2]
 have hv1 := (h5 1 _ rfl).2
 generalize c.getD 1 Go.undef = v1 at c1 hv1
 -- what is left when the block of bytes has been frozen, or nothing has
 have fin : ∀ (w' : World), w'.os = w.os → w'.tape = w.tape → w'.output = w.output → w.heap.size ≤ w'.heap.size → (∀ k, k < w.heap.size → (S k ∨ F k) → w'.heap[k]? = w.heap[k]?) → (∀ k x, w.shape? k = some x → w'.shape? k = some x) →
  ∃ S' β', Ext w S F β 2 w' S' β' 2 ∧ HR G w' S' F β' ⟨2, [(0, .dead), (1, .dead)]⟩ ∧ RV w' S' β' 2 (.str ⟨l.toArray⟩) (.string ⟨l.toArray⟩) := by
  intro w' e1 e2 e3 e4 e5 e6
  have hx : Ext w S F β 2 w' S β 2 := ⟨e1, e2, e3, e4, Nat.le_refl _, fun _ _ => rfl, fun _ h => h, fun _ h => .inl h, fun k hk => e5 k (hH.lts k hk) (.inl hk), fun k hk => e5 k (hH.ltf k hk) (.inr hk), e6⟩
  exact ⟨S, β, hx, q3h hH rfl hx, .str _⟩
 generalize hln : l.length = ln at hv1
 cases hv1 with
 | bs0 _ _ _ _ A hs hV =>
   have hl : l = [] := List.length_eq_zero_iff.1 hln
   subst hl
   cases A with
   | none =>
     refine (qgb c1 c1 (Lib.run_unsafeSliceData_nil _ _ _ _ _) (Lib.run_unsafeString_none _ _ _ _ _)).mono ?_
     rintro e w' ⟨rfl, rfl⟩
     exact ⟨_, rfl, fin _ rfl rfl rfl (Nat.le_refl _) (fun _ _ _ => rfl) (fun _ _ h => h)⟩
   | some a =>
     obtain ⟨sh, hsh⟩ := Option.isSome_iff_exists.1 (hV a rfl)
     have hb : β 0 < w.heap.size := (Array.getElem?_eq_some_iff.1 h1).1
     have c2 : (w.drew.alloc (.view a 5)).cell? ⟨β 0, 1, none⟩ = some (.slice (some a) 0 0) := by
      rw [← c1]
      exact qkm (Lib.alloc_old w.drew _ _ hb)
     refine (qgb c1 c2 (Lib.run_unsafeSliceData_zero (w := w.drew) _ _ 5 Tryz.underlying98 a 0 sh hsh) (Lib.run_unsafeString_none _ _ _ _ _)).mono ?_
     rintro e w' ⟨rfl, rfl⟩
     exact ⟨_, rfl, fin _ rfl rfl rfl (by show w.heap.size ≤ (w.heap.push _).size; simp) (fun k hk _ => Lib.alloc_old w.drew _ k hk) (fun k x h => by
      unfold World.shape? at *
      have hk : k < w.heap.size := by
       split at h
       ·rename_i hh; exact (Array.getElem?_eq_some_iff.1 hh).1
       cases h
      rw [Lib.alloc_old w.drew _ k hk]; exact h)⟩
 | bs _ _ _ _ _ cap m e hs hsh hn hl hm h0 =>
   subst hln
   have hne : (l.map c8).flatten ≠ [] := by
    intro e
    obtain ⟨x, t, rfl⟩ : ∃ x t, l = x :: t := by
     cases l with
     | nil => simp at h0
     | cons x t => exact ⟨x, t, rfl⟩
    cases e
   obtain ⟨cc, g1, g2, g3, g4, g5⟩ := hH.obj 1 1 _ rfl hne
   rw [Nat.zero_add, Nat.mul_one] at hn
   subst hn
   have he : e = 5 ∧ cap = cc.size := by
    simp only [World.shape?, g1, Option.some.injEq, Prod.mk.injEq] at hsh
    exact ⟨hsh.1.symm, hsh.2.symm⟩
   obtain ⟨rfl, rfl⟩ := he
   have hl0 : l ≠ [] := by intro e; subst e; simp at h0
   have hcell : ∀ j x, l[j]? = some x → w.drew.cell? ((⟨β 1, 0, none⟩ : Addr).add j) = some (.int .u8 x.toNat) := by
    intro j x hx
    have := (g5 j _ (q71 l j x hx)).2
    have hj := (List.getElem?_eq_some_iff.1 hx).1
    rw [Addr.add_lit, Nat.zero_add, Lib.cell_of_heap (w := w.drew) g1, Array.getElem?_eq_getElem (by omega)]
    simp only [Array.getD, dif_pos (show j < cc.size by omega)] at this
    have e2 : ∀ v, RV w S β 2 (.int .u8 x.toNat) v → v = .int .u8 x.toNat := by intro v hv; cases hv; rfl
    rw [show cc[j] = _ from e2 _ this]
   have hbg : β 1 ≠ β 0 := (hH.inj 0 1 0 1 _ _ rfl rfl (by decide) rfl (qc7 hne)).symm
   have c2 : (w.drew).cell? ⟨β 0, 1, none⟩ = some (.slice (some ⟨β 1, 0, none⟩) l.length cc.size) := c1
   have hcz : cc.size ≠ 0 := by omega
   refine (qgb c1 c2 (Lib.run_unsafeSliceData_row _ _ _ _ _ _ hcz) (Lib.run_unsafeString_row _ 98 3 9 5 Tryz.underlying98 qs1.cellsByte (β 1) cc.size (show w.drew.shape? (β 1) = _ from hsh) l hl0 hl (by omega) hcell)).mono ?_
   rintro e w' ⟨rfl, rfl⟩
   refine ⟨_, rfl, fin _ ?_ ?_ ?_ (by rw [qvm]; exact Nat.le_refl _) (fun k hk hSF => (qsz _ _ _ _ (fun e => ?_)).trans rfl) (fun k x h => qsy _ _ _ _ _ h)⟩
   ·unfold World.freeze; split <;> rfl
   ·unfold World.freeze; split <;> rfl
   ·unfold World.freeze; split <;> rfl
   rw [e] at hSF; exact hSF.elim g3 g4
theorem qjy (l : List UInt8) : AC Tryz.prog G 90 [.ptr 0 0 0] 2 [(0, .var 60 [.optr 0 0 0, .bs 1 1 1 0 l.length]), (1, .row 5 (l.map c8).flatten)] (.tup []) 2 [(0, .var 60 [.optr 0 0 0, .bs 1 1 1 0 l.length]), (1, .row 5 (l.map c8).flatten)] :=
 ⟨qot _ _, (zm rfl rfl (ju zx rfl jv)), (qj (ze zx zf)), (zo rfl (jt zx j3)), (qj (ze zx zf)), rfl, rfl, rfl, rfl⟩
theorem q1k (l : List UInt8) : AC Tryz.prog G 48 [.ptr 0 0 0] 2 [(0, .var 60 [.optr 0 0 0, .bs 1 1 1 0 l.length]), (1, .row 5 (l.map c8).flatten)] (.str ⟨l.toArray⟩) 2 [(0, .dead), (1, .dead)] :=
 ⟨qv6 l, (zm rfl rfl (ju zx rfl jv)), (qj (ze zx zf)), ⟨rfl, rfl, trivial⟩, ⟨trivial, trivial, trivial⟩, rfl, rfl, rfl, rfl⟩
theorem q8w (l : List UInt8) : AC Tryz.prog G 47 [.ptr 0 0 0] 2 [(0, .var 60 [.optr 0 0 0, .bs 1 1 1 0 l.length]), (1, .row 5 (l.map c8).flatten)] (.int .i64 (l.length : Int)) 2 [(0, .var 60 [.optr 0 0 0, .bs 1 1 1 0 l.length]), (1, .row 5 (l.map c8).flatten)] := by
 refine ⟨?_, (zm rfl rfl (ju zx rfl jv)), (qj (ze zx zf)), (zo rfl (jt zx j3)), (qj (ze zx zf)), rfl, rfl, rfl, rfl⟩
 refine wk (T := tt) (N := 8) (rs := [.tmp 2]) (fun vs w => by simp) Tryz.func47 rfl rfl rfl (by kernel_rfl) (by kernel_rfl) ?_
 refine qa5 env [] rfl ?_
 exact j8 env rfl rfl (qbh [some 0, some 1] rfl rfl rfl rfl (qc3 rfl rfl (K5 rfl rfl (K5 rfl rfl qi3)) (qc4 zx rfl rfl q7)) (yf (qad (qg (zy rfl) rfl) (by simp)) (by simp)))
theorem q72 (l m : List UInt8) : (l.map c8).flatten ++ m.map (fun c => AV.int .u8 c.toNat) = ((l ++ m).map c8).flatten := by
 rw [List.map_append, List.flatten_append]
 congr 1
 induction m with
 | nil => rfl
 | cons a m ih => rw [List.map_cons, List.map_cons, List.flatten_cons, ← ih]; rfl
theorem qtg {Q : Exit → Fr → Hp → Prop} {P : Program} {T : TT} {N p n : Nat} {kn : List Nat} {k : List Item} {fr : FT} {objs : Objs} {d : Bool} {all : Array Oper} {os : List Oper} {u : Tmp} {ty : TypeId} {pos : String} {aft : Array Edge} {a b : Operand} {t t1 e : TypeId} {sz by_ id s0 : Nat} {news cs z : List AV} {it ie : TI} (E : Env P T)
 (ha : ev G (frT fr) a = .bs sz id s0 0 0) (ht : T.get t = some it) (he : it.elem = some (e, sz)) (hie : T.get e = some ie) (hz : ie.zero = some z) (hzl : z.length = sz) (h0 : 0 < sz)
 (hby : qes P e = some by_) (hn : qbm P t1 = true) (hb : ww ⟨n, objs⟩ sz (ev G (frT fr) b) = some (0, news)) (ho : objs[id]? = some (s0, .row e cs))
 (hc : Ok P G T N p Q (.go [(u, .bs sz id s0 0 0)] (.ops d all os :: k) (unkn (some u) kn) fr n objs)) (hcp : d = false ∨ W9 a = false := by first | exact .inl rfl | exact .inr rfl) :
 Ok P G T N p Q (.gen ⟨some u, .call ⟨.builtin .append, #[a, b], #[t, t1]⟩, ty, pos, aft, none⟩ d all os k kn fr n objs) := by
 refine qcs (qo0 hcp) ?_ hc
 simp only [evalOp, Je, vq, List.map_cons, List.map_nil, ha, Wb, (ti E.hT ht).elem _ he, hby, (ti E.hT hie).zero _ hz]
 rw [if_pos ⟨h0, hzl, hn⟩]
 simp only [hb, if_true, ho]
 rw [if_neg (fun h => absurd h.2.2.2.1 (Nat.lt_irrefl 0)), if_pos ⟨trivial, trivial, trivial, trivial⟩]
theorem qpv (l : List UInt8) (s : ByteArray) (hc : l.length + s.size ≤ 140737488355328) : AC Tryz.prog G 45 [.ptr 0 0 0, .str s] 2 [(0, .var 60 [.optr 0 0 0, .bs 1 1 1 0 l.length]), (1, .row 5 (l.map c8).flatten)] (.tup [.int .i64 (s.size : Int), .nili]) 3 [(0, .var 60 [.optr 0 0 0, .bs 1 1 2 0 (l ++ s.data.toList).length]), (2, .row 5 ((l ++ s.data.toList).map c8).flatten)] := by
 refine ⟨?_, (zm rfl rfl (ju zx rfl jv)), (qj (ze zx zf)), (zo rfl (jt zx j3)), (qj (ze zx zf)), rfl, rfl, rfl, rfl⟩
 refine wk (T := tt) (N := 19) (rs := [.tmp 4, .tmp 5]) (fun vs w => by simp) Tryz.func45 rfl rfl rfl (by kernel_rfl) (by kernel_rfl) ?_
 refine qa5 env [] rfl ?_
 refine qb (AC.go (qjy l) [0, 1] [0, 1] rfl rfl rfl rfl rfl rfl rfl rfl rfl) ?_
 refine qa5 env [] rfl ?_
 have e2 : (l ++ s.data.toList).length = l.length + s.size := by rw [List.length_append, Array.length_toList]; rfl
 by_cases h0 : l.length + s.size = 0
 ·have hl : l = [] := List.length_eq_zero_iff.1 (by omega)
  have hs : s.data.toList = [] := List.length_eq_zero_iff.1 (by rw [Array.length_toList]; show s.size = 0; omega)
  subst hl
  have hz : s.size = 0 := by simpa using h0
  refine qtg (by_ := 1) (news := s.data.toList.map fun c => AV.int .u8 c.toNat) (cs := []) env rfl rfl rfl rfl rfl rfl (by decide) rfl rfl (show ww _ 1 (.str s) = _ by simp only [ww, if_true]; rw [hz]) rfl ?_
  refine qa5 env [] rfl ?_
  rw [hs]
  exact j8 env rfl rfl (qbh [some 0, some 1] rfl rfl rfl rfl (qc3 rfl rfl (K5 rfl rfl (K5 rfl rfl qi3)) (qc4 (x := []) zx rfl rfl q7)) (j4 (qec (qad (qg (zy rfl) rfl) (by simp)) (qec (qad (y := .nili) (x := .nili) (qg (Yf (qbg _) (by simp)) rfl) (by simp)) jg))))
 refine qp4 (by_ := 1) (news := s.data.toList.map fun c => AV.int .u8 c.toNat) (m := s.size) env rfl rfl rfl rfl rfl rfl (by decide) rfl rfl (show ww _ 1 (.str s) = _ by simp only [ww, if_true]) rfl (by rw [qf3 (C := c8) (sz := 1) (fun _ => rfl) l]) (by omega) (by omega) (by omega) ?_
 rw [q72, ← e2]
 refine qa5 env [] rfl ?_
 exact j8 env rfl rfl (qbh [some 0, some 1] rfl rfl rfl rfl (qc3 rfl rfl (K5 rfl rfl (K5 rfl rfl qi3)) (qc4 zx rfl rfl q7)) (j4 (qec (qad (qg (zy rfl) rfl) (by simp)) (qec (qad (y := .nili) (x := .nili) (qg (Yf (qbg _) (by simp)) rfl) (by simp)) jg))))
theorem q9a {c : Int} (h0 : 0 ≤ c) (h1 : c < 256) : c8 c.toNat.toUInt8 = [.int .u8 c] := by
 have : ((c.toNat.toUInt8).toNat : Int) = c := by
  rw [Nat.toUInt8_eq, UInt8.toNat_ofNat']
  omega
 unfold c8
 rw [this]
theorem qtr (l : List UInt8) (c : Int) (hc : l.length + 1 ≤ 140737488355328 ∧ 0 ≤ c ∧ c < 256) : AC Tryz.prog G 44 [.ptr 0 0 0, .int .u8 c] 2 [(0, .var 60 [.optr 0 0 0, .bs 1 1 1 0 l.length]), (1, .row 5 (l.map c8).flatten)] .nili 3 [(0, .var 60 [.optr 0 0 0, .bs 1 1 2 0 (l ++ [c.toNat.toUInt8]).length]), (2, .row 5 ((l ++ [c.toNat.toUInt8]).map c8).flatten)] := by
 refine ⟨?_, (zm rfl rfl (ju zx rfl jv)), (qj (ze zx zf)), (zo rfl (jt zx j3)), (qj (ze zx zf)), rfl, rfl, rfl, rfl⟩
 refine wk (T := tt) (N := 17) (rs := [.tmp 4]) (fun vs w => by simp) Tryz.func44 rfl rfl rfl (by kernel_rfl) (by kernel_rfl) ?_
 refine qa5 env [] rfl ?_
 refine qb (AC.go (qjy l) [0, 1] [0, 1] rfl rfl rfl rfl rfl rfl rfl rfl rfl) ?_
 refine qa5 env [] rfl ?_
 have hx : app 1 l [c.toNat.toUInt8] = some (l ++ [c.toNat.toUInt8]) := by
  unfold app
  rw [if_pos ⟨by simp; omega, by simp; omega⟩]
 refine qex (C := c8) env hx rfl (by rw [List.map_cons, q9a hc.2.1 hc.2.2]; rfl) (by simp) (fun _ => rfl) rfl rfl rfl rfl rfl (by decide) rfl rfl rfl ?_
 refine qa5 env [] rfl ?_
 exact j8 env rfl rfl (qbh [some 0, some 1] rfl rfl rfl rfl (qc3 rfl rfl (K5 rfl rfl (K5 rfl rfl qi3)) (qc4 zx rfl rfl q7)) (yf (qad (y := .nili) (x := .nili) (qg (Yf (qbg _) (by simp)) rfl) (by simp)) (by simp)))
end Go.Proofs.YtigmilhpeodhbaaGreatDoorW.Ex.Gr
