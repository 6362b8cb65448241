/- The functions of the program's layer 9 and of its references, printed as functions on numbers, strings, lists and trees, with the proofs that they are what the code computes. Conditions: those in each theorem. -/
import Derived.Test.YtigmilhpeodhbaaGreatDoorXRa
namespace Go.Proofs.YtigmilhpeodhbaaGreatDoorW.Ex.Gr
open Go Go.Proofs.YtigmilhpeodhbaaGreatDoorW.Ex
set_option linter.all false
set_option maxRecDepth 100000
set_option synthInstance.maxSize 4000
set_option maxHeartbeats 4000000
open Go.Proofs.YtigmilhpeodhbaaGreatDoorW.Plain
@[reducible] def qnw (o0 : Reader) (o2 : Node) (r : Except Int (Node × Reader)) : Prop :=
  Ok Tryz.prog G tt 21 1 (exq (fun (r : Node × Reader) => Ret Tryz.prog [.cell 3 26] (fun y H => ua Tryz.prog G 1 H y (.agg (zp r.1)) ⟨1, [(0, .var 77 (Reader.cells r.2))]⟩)) (fun e => Zl (flt e)) r) (.go [] (vc [17] Tryz.f64 17) [] (.n .undef (.n .undef (.n (.ptr 1 1 0) .z .z) .z) (.n .undef (.n (.ptr 2 2 0) .z .z) .z)) 3 [(0, .var 77 (Reader.cells o0)), (1, .var 26 [(.int .i64 0), (.str ⟨#[]⟩), (.sl 0 true []), (.sl 0 true [])]), (2, .var 26 (zp o2))])
theorem qa6 : PC2 qnw Ks := fun o0 o2 r h => by
 rw [Ks.eq_def] at h
 refine kr [17] ?_
 cases h
 exact jw env rfl rfl (tS [some 0] (sV (lS (lS lN)) qy) (j3 (ym (qh (qf (zw rfl) rfl) (qh (qf (jr rfl) rfl) (qh (qf (y5 (.inl rfl)) rfl) (qh (qf (y5 (.inl rfl)) rfl) yl))))) (by simp)))
def qba (a0 : Reader) : Option (Except Int (Node × Reader)) :=
 J2 a0 >>= fun x1 =>
 match x1 with
 | .error ee => some (.error ee)
 | .ok x1 =>
 zn x1.2 >>= fun x2 =>
 if (!decide (x2.Kind = (4 : Int))) = true then
  ja x1.2 >>= fun x5 =>
  match x5 with
  | .error ee => some (.error ee)
  | .ok x5 =>
  Ks x1.2 x1.1
 else
  zn x1.2 >>= fun x3 =>
  if (!decide (x3.Lead = (⟨#[]⟩ : BA))) = true then
   ja x1.2 >>= fun x4 =>
   match x4 with
   | .error ee => some (.error ee)
   | .ok x4 =>
   Ks x1.2 x1.1
  else
   Ks x1.2 x1.1
@[reducible] def qvp (a0 : Reader) (r : Except Int (Node × Reader)) : Prop :=
  exq (fun (r : Node × Reader) => AC Tryz.prog G 64 [(.ptr 0 0 0), (.rptr [(.fn 30 [])])] 1 [(0, .var 77 (Reader.cells a0))] (.agg (zp r.1)) 1 [(0, .var 77 (Reader.cells r.2))]) (fun e => FC Tryz.prog G 64 [(.ptr 0 0 0), (.rptr [(.fn 30 [])])] 1 [(0, .var 77 (Reader.cells a0))] (flt e)) r
theorem qn3 : PC1 qvp qba := fun a0 r h => by
 rw [qba.eq_def] at h
 refine Z3 (T := tt) (N := 21) (rs := [.cell 3 26]) (fun vs w => by simp) Tryz.func64 rfl rfl rfl (by kernel_rfl) (by kernel_rfl) (zm rfl rfl jk) (qj zd) (fun r => (zo rfl jq)) (fun r => (qj zd)) (fun _ => rfl) (fun _ => rfl) rfl (fun _ => rfl) ?_
 refine kr [17] ?_
 obtain ⟨x1, hx, h⟩ := bind_some h
 rcases x1 with ee | x1
 ·replace h : some (.error ee) = some r := h
  cases h
  exact ze (FC.go (qa2 _ _ hx) [0] [0] rfl rfl rfl rfl rfl rfl)
 refine qb (AC.g9 (qa2 _ _ hx) [0] [0]) ?_
 refine kr [17] ?_
 obtain ⟨x2, hx, h⟩ := bind_some h
 refine qb (AC.g9 (zu _ _ hx) [0] [0]) ?_
 refine kr [17] ?_
 refine q8 (fun hb => ?_) (fun hb => ?_)
 ·replace h := qx hb h
  refine kr [17] ?_
  obtain ⟨x3, hx, h⟩ := bind_some h
  refine qb (AC.g9 (zu _ _ hx) [0] [0]) ?_
  refine kr [17] ?_
  refine qg (fun hb => ?_) (fun hb => ?_)
  ·replace h := qw hb h
   refine kr [17] ?_
   obtain ⟨x4, hx, h⟩ := bind_some h
   rcases x4 with ee | x4
   ·replace h : some (.error ee) = some r := h
    cases h
    exact ze (FC.go (zq _ _ hx) [0] [0] rfl rfl rfl rfl rfl rfl)
   refine qb (AC.g9 (zq _ _ hx) [0] [0]) ?_
   refine kr [17] ?_
   exact qz (by kernel_rfl) rfl lQ (qa6 _ _ _ h)
  ·replace h := qx hb h
   refine kr [17] ?_
   exact qz (by kernel_rfl) rfl lQ (qa6 _ _ _ h)
 ·replace h := qw hb h
  refine kr [17] ?_
  obtain ⟨x5, hx, h⟩ := bind_some h
  rcases x5 with ee | x5
  ·replace h : some (.error ee) = some r := h
   cases h
   exact ze (FC.go (zq _ _ hx) [0] [0] rfl rfl rfl rfl rfl rfl)
  refine qb (AC.g9 (zq _ _ hx) [0] [0]) ?_
  refine kr [17] ?_
  exact qz (by kernel_rfl) rfl lQ (qa6 _ _ _ h)
/-- What read returns. -/
def Kp (s : BA) : Option (Node × Int × Int) :=
 ww s >>= fun t =>
 if (!decide (t.2.1 = (0 : Int))) = true then some (Node.mk 0 ⟨#[]⟩ [] [], t.2.1, t.2.2)
 else qba ⟨t.1, 0⟩ >>= fun x => match x with
  | .error e => some (Node.mk 0 ⟨#[]⟩ [] [], 1, e)
  | .ok x => yp x.1 >>= fun c => if (decide (c = (3 : Int))) = true then some (Node.mk 0 ⟨#[]⟩ [] [], 3, 0) else some (x.1, 0, 0)
/-- The code ahead of the deferred call. -/
def kh (t : List Token × Int × Int) (fr : Fr) (H : Hp) : Prop := (fr 1 = .fn 64 [(.rptr [.fn 30 []])] ∧ fr 4 = .ptr 0 0 0 ∧ fr 5 = .ptr 1 1 0 ∧ fr 6 = .ptr 2 2 0 ∧ fr 7 = .sl 4 false (t.1.map Token.cells)) ∧ H = ⟨3, rdO t.2.1 t.2.2⟩
theorem qjm (s : BA) (t : List Token × Int × Int) (ht : ww s = some t) (x : Node × Int × Int) :
 Ok Tryz.prog G tt 32 0 (Zp (fun fr H => fr 16 = .bool (!decide (t.2.1 = (0 : Int))) ∧ kh t fr H) (rdR x)) (.go (qd5 0 [.str s, .fn 64 [(.rptr [.fn 30 []])]]) [.code rd0, .code rd1, .code rd2a] [] .z 0 []) := by
 refine kr [] ?_
 refine qt (K5 _ _ ht) ?_
 refine kr [] ?_
 exact qkx ⟨rfl, ⟨rfl, rfl, rfl, rfl, rfl⟩, rfl⟩
theorem qjj (t : List Token × Int × Int) (x : Node × Int × Int) (hx : (!decide (t.2.1 = (0 : Int))) = true → x = (Node.mk 0 ⟨#[]⟩ [] [], t.2.1, t.2.2)) (fr : Fr) (H : Hp)
 (h : AWp Tryz.prog G 32 0 rd2a (Zp (fun fr H => fr 16 = .bool (!decide (t.2.1 = (0 : Int))) ∧ kh t fr H) (rdR x)) fr H) : AWp Tryz.prog G 32 0 rd2 (Zp (fun fr H => (!decide (t.2.1 = (0 : Int))) = false ∧ kh t fr H) (rdR x)) fr H := by
 rw [quv]
 refine qia (h.mono ?_)
 intro e fr H q
 cases e with
 | normal =>
   obtain ⟨hc, hk⟩ := (show _ ∧ _ from q)
   refine vh (qc4 hc (fun hb => ?_) (fun hb => qh9 (vh ⟨hb, hk⟩)))
   obtain ⟨⟨g1, g4, g5, g6, g7⟩, rfl⟩ := hk
   cases hx hb
   refine (qbb (qil [(4, .ptr 0 0 0), (5, .ptr 1 1 0), (6, .ptr 2 2 0)] (by simp [g4, g5, g6])) (qlu t.2.1 t.2.2)).mono ?_
   rintro e fr H ⟨rfl, q⟩
   exact q
 | _ => exact q
theorem qiw (l : List Token) (e : Int) (h : qba ⟨l, 0⟩ = some (.error e)) :
 Ok Tryz.prog G tt 32 3 (fun e' fr _ => e' = .panic (flt e) ∧ fr 4 = .ptr 0 0 0 ∧ fr 5 = .ptr 1 1 0 ∧ fr 6 = .ptr 2 2 0) (.go [(1, .fn 64 [(.rptr [.fn 30 []])]), (4, .ptr 0 0 0), (5, .ptr 1 1 0), (6, .ptr 2 2 0), (7, .sl 4 false (l.map Token.cells))] [.code rd4] [] .z 3 []) := by
 refine kr [] ?_
 exact qi0 (FC.go (qn3 _ _ h) [0] [3] rfl rfl rfl rfl rfl rfl) ⟨rfl, rfl, rfl, rfl⟩
theorem qi8 (l : List Token) (e at_ : Int) (r : Node × Reader) (h : qba ⟨l, 0⟩ = some (.ok r)) (c : Int) (hc : yp r.1 = some c) (x : Node × Int × Int) (hx : (if (decide (c = (3 : Int))) = true then some (Node.mk 0 ⟨#[]⟩ [] [], 3, 0) else some (r.1, 0, 0)) = some x) :
 Ok Tryz.prog G tt 32 0 (rdR x) (.go [(1, .fn 64 [(.rptr [.fn 30 []])]), (4, .ptr 0 0 0), (5, .ptr 1 1 0), (6, .ptr 2 2 0), (7, .sl 4 false (l.map Token.cells))] [.code rd4] [] .z 3 (rdO e at_)) := by
 refine kr [] ?_
 refine qb (AC.g9 (qn3 _ _ h) [3] [3]) ?_
 refine kr [] ?_
 refine qt (Q2 _ _ hc) ?_
 refine kr [] ?_
 refine qg (fun hb => ?_) (fun hb => ?_)
 ·rw [if_pos hb] at hx
  cases hx
  refine kr [] ?_
  exact jw env rfl rfl (qhd _ _)
 ·rw [if_neg (by rw [hb]; decide)] at hx
  cases hx
  refine kr [] ?_
  exact jw env rfl rfl (zj rfl)
theorem qjg (s : BA) (x : Node × Int × Int) (h : Kp s = some x) : ACalls Tryz.prog G 22 [.str s, .fn 64 [(.rptr [.fn 30 []])]] ⟨0, []⟩ (rdX x) ⟨0, []⟩ := by
 obtain ⟨t, ht, h⟩ := bind_some h
 intro w S F β vs hH hv
 rw [show (callFunc 22 vs).run Tryz.prog w = .ok (.enter 22 vs) w by simp]
 show Calls Tryz.prog 22 vs w (qfw w S F β x)
 refine calls_of_wp_defers Tryz.func22 qqm ?_
 have hA := Yc (N := 32) (by kernel_rfl) (qjm s t ht x)
 rw [Yw] at hA
 have hf := qch (N := 32) hv (Nat.le_of_ble_eq_true rfl)
 have fin : ∀ (e : Exit) (fr' : Fr) (H' : Hp) (w' : World) (S' : Nat → Prop) (β' : Nat → Nat) (a' : Act), rdR x e fr' H' → Ext w S F β 0 w' S' β' 0 → HR G w' S' F β' H' → FRx [] w' S' β' H'.n 32 fr' a' → bodyPostD Tryz.prog Tryz.f22 (qfw w S F β x) e a' w' := by
  intro e fr' H' w' S' β' a' q hx hH' hf'
  have hl := fun q => qdf (x := x) q hx hH' hf' hH
  cases e <;> first
   | exact q.elim
   | (show Leaves _ _ _ _ a'.defers _ _; rw [hf'.defers]; exact hl q)
 refine Y1 hA (Nat.zero_le _) hH hf (fun fr1 H1 w1 S1 β1 a1 q1 hx1 _ hH1 hf1 => ?_) (fun e fr' H' w' S' β' a' he q hx _ hH' hf' => fin e fr' H' w' S' β' a' (K9 he (qvi he q)) hx hH' hf')
 refine Y1 q1 (Nat.zero_le _) hH1 hf1 (fun fr2 H2 w2 S2 β2 a2 q2 hx2 _ hH2 hf2 => ?_) (fun e fr' H' w' S' β' a' he q hx _ hH' hf' => fin e fr' H' w' S' β' a' (K9 he q) (hx1.trans hx) hH' hf')
 refine Y1 (qjj t x (fun hb => by rw [if_pos hb] at h; cases h; rfl) fr2 H2 q2) (Nat.zero_le _) hH2 hf2 (fun fr3 H3 w3 S3 β3 a3 q3 hx3 _ hH3 hf3 => ?_) (fun e fr' H' w' S' β' a' he q hx _ hH' hf' => fin e fr' H' w' S' β' a' q ((hx1.trans hx2).trans hx) hH' hf')
 obtain ⟨hb, ⟨g1, g4, g5, g6, g7⟩, rfl⟩ := (show _ ∧ _ ∧ _ from q3)
 have hx0 := (hx1.trans hx2).trans hx3
 rw [if_neg (by rw [hb]; decide)] at h
 obtain ⟨r, hr, h⟩ := bind_some h
 refine wp_seq ?_
 refine qde (u := 20) (f := 50) (cs := #[.tmp 4, .tmp 5, .tmp 6]) (by rw [hf3.size]; decide) ?_
 have e4 := Wq (g4 ▸ hf3.val 4)
 have e5 := Wq (g5 ▸ hf3.val 5)
 have e6 := Wq (g6 ▸ hf3.val 6)
 have hcs : (#[Operand.tmp 4, .tmp 5, .tmp 6] : Array Operand).map a3.eval = #[.pointer (some ⟨β3 0, 0, none⟩), .pointer (some ⟨β3 1, 0, none⟩), .pointer (some ⟨β3 2, 0, none⟩)] := by
  simp [Act.eval, e4, e5, e6]
 rw [hcs]
 have hf3' := hf3.put (d := some 20) rfl (RV.undef (w := w3) (S := S3) (β := β3) (n := 3) (.func (.func 50) #[] #[.pointer (some ⟨β3 0, 0, none⟩), .pointer (some ⟨β3 1, 0, none⟩), .pointer (some ⟨β3 2, 0, none⟩)]))
 have hq := hf3'.some [(1, .fn 64 [(.rptr [.fn 30 []])]), (4, .ptr 0 0 0), (5, .ptr 1 1 0), (6, .ptr 2 2 0), (7, .sl 4 false (t.1.map Token.cells))] (by simp [vi, g1, g4, g5, g6, g7])
 generalize hd : a3.defers = d3 at *
 have hd3 : d3 = [] := by rw [← hd]; exact hf3.defers
 subst hd3
 have hf4 := FRx.of (a := ⟨a3.tmps.setIfInBounds 20 (.func (.func 50) #[] #[.pointer (some ⟨β3 0, 0, none⟩), .pointer (some ⟨β3 1, 0, none⟩), .pointer (some ⟨β3 2, 0, none⟩)]), [{ target := .fn (.func 50) #[.pointer (some ⟨β3 0, 0, none⟩), .pointer (some ⟨β3 1, 0, none⟩), .pointer (some ⟨β3 2, 0, none⟩)], args := #[] }]⟩) _ hf3'.size rfl hq
 show rd4.wp _ _ _ _
 cases r with
 | error e =>
   cases h
   have hB := Yc (N := 32) (by kernel_rfl) (qiw t.1 e hr)
   refine wp_mono (hB _ w3 S3 _ β3 _ (Nat.le_refl _) hH3.hide hf4) ?_
   rintro e' a' w' ⟨fr', H', S', β', ⟨rfl, k4, k5, k6⟩, hx, hp, hH', hf'⟩
   obtain ⟨hx', hH''⟩ := hH3.unhide hx hH'.lts
   show Leaves _ _ _ _ a'.defers _ _
   rw [hf'.defers]
   refine leaves_cons (f := 50) (args := #[.pointer (some ⟨β3 0, 0, none⟩), .pointer (some ⟨β3 1, 0, none⟩), .pointer (some ⟨β3 2, 0, none⟩)]) (by simp) (by simp [go_sem]) ?_
   have hc := qgb e t.2.2 (show HR G w' S' F β' ⟨3, rdO 0 t.2.2⟩ by
    have h0 : t.2.1 = 0 := by simpa using hb
    rw [← h0]; exact hH'')
   rw [hx'.beta 0 (show 0 < 3 by decide), hx'.beta 1 (show 1 < 3 by decide), hx'.beta 2 (show 2 < 3 by decide)] at hc
   refine hc.mono ?_
   rintro r u' w'' ⟨⟨v, rfl⟩, hs, S'', β'', hx'', hH3''⟩
   show Leaves _ _ _ _ [] (settle u') w''
   rw [hs]
   refine qdf (D := a'.defers) (a := a') (qih e) (hx0.trans ((hx'.trans hx'').lower (Nat.zero_le _))) hH3'' (FRx.of _ hf'.size rfl ?_) hH
   intro q hm
   simp only [List.mem_cons, List.not_mem_nil, or_false] at hm
   have hv : ∀ (i s : Nat) (t : Nat), s < 3 → fr' t = .ptr i s 0 → RV w'' S'' β'' 3 (.ptr i s 0) (a'.tmps.getD t Go.undef) := fun i s t hs3 ht => by
    have h1 := hf'.val t
    rw [ht] at h1
    rw [Wq h1, ← hx''.beta s hs3]
    exact .ptr i s 0 hs3
   rcases hm with rfl | rfl | rfl
   ·exact hv _ _ _ (by decide) k4
   ·exact hv _ _ _ (by decide) k5
   ·exact hv _ _ _ (by decide) k6
 | ok r =>
   obtain ⟨c, hc, h⟩ := bind_some h
   have hB := Yc (N := 32) (by kernel_rfl) (qi8 t.1 t.2.1 t.2.2 r hr c hc x h)
   refine wp_mono (hB _ w3 S3 F β3 _ (Nat.zero_le _) hH3 hf4) ?_
   rintro e' a' w' ⟨fr', H', S', β', q, hx, hp, hH', hf'⟩
   have hl : rdR x .normal fr' H' → Leaves Tryz.prog Tryz.f22 a'.tmps (qfw w S F β x) a'.defers .returning w' := fun q => by
    rw [hf'.defers]
    refine leaves_cons (f := 50) (args := #[.pointer (some ⟨β3 0, 0, none⟩), .pointer (some ⟨β3 1, 0, none⟩), .pointer (some ⟨β3 2, 0, none⟩)]) (by simp) (by simp [go_sem]) ?_
    refine (qlr _ _ _ w').mono ?_
    rintro r u' w'' ⟨⟨v, rfl⟩, rfl, rfl⟩
    exact qdf q (hx0.trans hx) hH' hf' hH
   cases e' <;> first
    | exact q.elim
    | exact hl q
theorem qjb : PC1 (fun (s : BA) (x : Node × Int × Int) => AC Tryz.prog G 22 [.str s, .fn 64 [(.rptr [.fn 30 []])]] 0 [] (.tup [.agg (zp x.1), .int .i64 x.2.1, .int .i64 x.2.2]) 0 []) Kp := fun s x h => AC.plain (qjg s x h) rfl rfl
/-- END OF READ -/
def uv (a0 : BA) : Option (Node × Int × Int) :=
 Kp a0 >>= fun x1 =>
 some (x1.1, x1.2.1, x1.2.2)
@[reducible] def Wv (a0 : BA) (r : Node × Int × Int) : Prop :=
  Fn Tryz.prog G 29 [(.str a0), (.fn 30 [])] (.tup [(.agg (zp r.1)), (.int .i64 r.2.1), (.int .i64 r.2.2)])
theorem W1 : PC1 Wv uv := fun a0 r h => by
 rw [uv.eq_def] at h
 refine ji (T := tt) (N := 13) (rs := [.cell 4 26, .tmp 5, .tmp 6]) (fun vs w => by simp) Tryz.func29 rfl rfl rfl rfl (by kernel_rfl) (kw rfl) (jv _ rfl) ?_
 refine kr [2000000] ?_
 refine qnl [(3, (.rptr [(.fn 30 [])]))] [0] rfl (qpo rfl rfl rfl rfl qtd) rfl rfl ?_
 refine qfp ?_
 refine kr [2000000] ?_
 obtain ⟨x1, hx, h⟩ := bind_some h
 refine qb (AC.g9 (qjb _ _ hx) [] []) ?_
 refine kr [2000000] ?_
 cases h
 exact kf
def Zz (a0 : BA) : Option (Node × Int × Int) :=
 uv a0 >>= fun x1 =>
 some (x1.1, x1.2.1, x1.2.2)
@[reducible] def qns (a0 : BA) (r : Node × Int × Int) : Prop :=
  Fn Tryz.prog G 12 [(.str a0)] (.tup [(.agg (zp r.1)), (.int .i64 r.2.1), (.int .i64 r.2.2)])
theorem qa3 : PC1 qns Zz := fun a0 r h => by
 rw [Zz.eq_def] at h
 refine ji (T := tt) (N := 10) (rs := [.cell 2 26, .tmp 3, .tmp 4]) (fun vs w => by simp) Tryz.func12 rfl rfl rfl rfl (by kernel_rfl) (kw rfl) (jv _ rfl) ?_
 refine kr [] ?_
 obtain ⟨x1, hx, h⟩ := bind_some h
 refine qt (W1 _ _ hx) ?_
 refine kr [] ?_
 cases h
 exact kf
def J1 (a0 : Reader) : Option (Except Int (Node × Reader)) :=
 jx a0 >>= fun x1 =>
 match x1 with
 | .error ee => some (.error ee)
 | .ok x1 =>
 some (.ok (x1.1, x1.2))
@[reducible] def qgx (a0 : Reader) (r : Except Int (Node × Reader)) : Prop :=
  exq (fun (r : Node × Reader) => AC Tryz.prog G 33 [(.ptr 0 0 0)] 1 [(0, .var 77 (Reader.cells a0))] (.agg (zp r.1)) 1 [(0, .var 77 (Reader.cells r.2))]) (fun e => FC Tryz.prog G 33 [(.ptr 0 0 0)] 1 [(0, .var 77 (Reader.cells a0))] (flt e)) r
theorem qaz : PC1 qgx J1 := fun a0 r h => by
 rw [J1.eq_def] at h
 refine Z3 (T := tt) (N := 5) (rs := [.cell 2 26]) (fun vs w => by simp) Tryz.func33 rfl rfl rfl (by kernel_rfl) (by kernel_rfl) (zm rfl rfl jk) (qj zd) (fun r => (zo rfl jq)) (fun r => (qj zd)) (fun _ => rfl) (fun _ => rfl) rfl (fun _ => rfl) ?_
 refine kr [] ?_
 obtain ⟨x1, hx, h⟩ := bind_some h
 rcases x1 with ee | x1
 ·replace h : some (.error ee) = some r := h
  cases h
  exact ze (FC.go (k7 _ _ hx) [0] [0] rfl rfl rfl rfl rfl rfl)
 refine qb (AC.g9 (k7 _ _ hx) [0] [0]) ?_
 refine kr [] ?_
 cases h
 exact jw env rfl rfl (tS [some 0] (sV (lS (lS lN)) qy) (j3 (ym (qh (qf (zw rfl) rfl) (qh (qf (jr rfl) rfl) (qh (qf (y5 (.inl rfl)) rfl) (qh (qf (y5 (.inl rfl)) rfl) yl))))) (by simp)))
def Kr (o0 : Reader) (o2 : Node) : Option (Except Int (Node × Reader)) :=
 some (.ok (o2, o0))
@[reducible] def qnv (o0 : Reader) (o2 : Node) (r : Except Int (Node × Reader)) : Prop :=
  Ok Tryz.prog G tt 21 1 (exq (fun (r : Node × Reader) => Ret Tryz.prog [.cell 3 26] (fun y H => ua Tryz.prog G 1 H y (.agg (zp r.1)) ⟨1, [(0, .var 77 (Reader.cells r.2))]⟩)) (fun e => Zl (flt e)) r) (.go [] (vc [17] Tryz.f64 17) [] (.n .undef (.n .undef (.n (.ptr 1 1 0) .z .z) .z) (.n .undef (.n (.ptr 2 2 0) .z .z) .z)) 3 [(0, .var 77 (Reader.cells o0)), (1, .var 26 [(.int .i64 0), (.str ⟨#[]⟩), (.sl 0 true []), (.sl 0 true [])]), (2, .var 26 (zp o2))])
theorem qa5 : PC2 qnv Kr := fun o0 o2 r h => by
 rw [Kr.eq_def] at h
 refine kr [17] ?_
 cases h
 exact jw env rfl rfl (tS [some 0] (sV (lS (lS lN)) qy) (j3 (ym (qh (qf (zw rfl) rfl) (qh (qf (jr rfl) rfl) (qh (qf (y5 (.inl rfl)) rfl) (qh (qf (y5 (.inl rfl)) rfl) yl))))) (by simp)))
def qa8 (a0 : Reader) : Option (Except Int (Node × Reader)) :=
 J1 a0 >>= fun x1 =>
 match x1 with
 | .error ee => some (.error ee)
 | .ok x1 =>
 zn x1.2 >>= fun x2 =>
 if (!decide (x2.Kind = (4 : Int))) = true then
  ja x1.2 >>= fun x5 =>
  match x5 with
  | .error ee => some (.error ee)
  | .ok x5 =>
  Kr x1.2 x1.1
 else
  zn x1.2 >>= fun x3 =>
  if (!decide (x3.Lead = (⟨#[]⟩ : BA))) = true then
   ja x1.2 >>= fun x4 =>
   match x4 with
   | .error ee => some (.error ee)
   | .ok x4 =>
   Kr x1.2 x1.1
  else
   Kr x1.2 x1.1
@[reducible] def qvn (a0 : Reader) (r : Except Int (Node × Reader)) : Prop :=
  exq (fun (r : Node × Reader) => AC Tryz.prog G 64 [(.ptr 0 0 0), (.rptr [(.fn 33 [])])] 1 [(0, .var 77 (Reader.cells a0))] (.agg (zp r.1)) 1 [(0, .var 77 (Reader.cells r.2))]) (fun e => FC Tryz.prog G 64 [(.ptr 0 0 0), (.rptr [(.fn 33 [])])] 1 [(0, .var 77 (Reader.cells a0))] (flt e)) r
theorem qn1 : PC1 qvn qa8 := fun a0 r h => by
 rw [qa8.eq_def] at h
 refine Z3 (T := tt) (N := 21) (rs := [.cell 3 26]) (fun vs w => by simp) Tryz.func64 rfl rfl rfl (by kernel_rfl) (by kernel_rfl) (zm rfl rfl jk) (qj zd) (fun r => (zo rfl jq)) (fun r => (qj zd)) (fun _ => rfl) (fun _ => rfl) rfl (fun _ => rfl) ?_
 refine kr [17] ?_
 obtain ⟨x1, hx, h⟩ := bind_some h
 rcases x1 with ee | x1
 ·replace h : some (.error ee) = some r := h
  cases h
  exact ze (FC.go (qaz _ _ hx) [0] [0] rfl rfl rfl rfl rfl rfl)
 refine qb (AC.g9 (qaz _ _ hx) [0] [0]) ?_
 refine kr [17] ?_
 obtain ⟨x2, hx, h⟩ := bind_some h
 refine qb (AC.g9 (zu _ _ hx) [0] [0]) ?_
 refine kr [17] ?_
 refine q8 (fun hb => ?_) (fun hb => ?_)
 ·replace h := qx hb h
  refine kr [17] ?_
  obtain ⟨x3, hx, h⟩ := bind_some h
  refine qb (AC.g9 (zu _ _ hx) [0] [0]) ?_
  refine kr [17] ?_
  refine qg (fun hb => ?_) (fun hb => ?_)
  ·replace h := qw hb h
   refine kr [17] ?_
   obtain ⟨x4, hx, h⟩ := bind_some h
   rcases x4 with ee | x4
   ·replace h : some (.error ee) = some r := h
    cases h
    exact ze (FC.go (zq _ _ hx) [0] [0] rfl rfl rfl rfl rfl rfl)
   refine qb (AC.g9 (zq _ _ hx) [0] [0]) ?_
   refine kr [17] ?_
   exact qz (by kernel_rfl) rfl lQ (qa5 _ _ _ h)
  ·replace h := qx hb h
   refine kr [17] ?_
   exact qz (by kernel_rfl) rfl lQ (qa5 _ _ _ h)
 ·replace h := qw hb h
  refine kr [17] ?_
  obtain ⟨x5, hx, h⟩ := bind_some h
  rcases x5 with ee | x5
  ·replace h : some (.error ee) = some r := h
   cases h
   exact ze (FC.go (zq _ _ hx) [0] [0] rfl rfl rfl rfl rfl rfl)
  refine qb (AC.g9 (zq _ _ hx) [0] [0]) ?_
  refine kr [17] ?_
  exact qz (by kernel_rfl) rfl lQ (qa5 _ _ _ h)
/-- What read returns. -/
def Kn (s : BA) : Option (Node × Int × Int) :=
 ww s >>= fun t =>
 if (!decide (t.2.1 = (0 : Int))) = true then some (Node.mk 0 ⟨#[]⟩ [] [], t.2.1, t.2.2)
 else qa8 ⟨t.1, 0⟩ >>= fun x => match x with
  | .error e => some (Node.mk 0 ⟨#[]⟩ [] [], 1, e)
  | .ok x => yp x.1 >>= fun c => if (decide (c = (3 : Int))) = true then some (Node.mk 0 ⟨#[]⟩ [] [], 3, 0) else some (x.1, 0, 0)
/-- The code ahead of the deferred call. -/
def kg (t : List Token × Int × Int) (fr : Fr) (H : Hp) : Prop := (fr 1 = .fn 64 [(.rptr [.fn 33 []])] ∧ fr 4 = .ptr 0 0 0 ∧ fr 5 = .ptr 1 1 0 ∧ fr 6 = .ptr 2 2 0 ∧ fr 7 = .sl 4 false (t.1.map Token.cells)) ∧ H = ⟨3, rdO t.2.1 t.2.2⟩
theorem qjk (s : BA) (t : List Token × Int × Int) (ht : ww s = some t) (x : Node × Int × Int) :
 Ok Tryz.prog G tt 32 0 (Zp (fun fr H => fr 16 = .bool (!decide (t.2.1 = (0 : Int))) ∧ kg t fr H) (rdR x)) (.go (qd5 0 [.str s, .fn 64 [(.rptr [.fn 33 []])]]) [.code rd0, .code rd1, .code rd2a] [] .z 0 []) := by
 refine kr [] ?_
 refine qt (K5 _ _ ht) ?_
 refine kr [] ?_
 exact qkx ⟨rfl, ⟨rfl, rfl, rfl, rfl, rfl⟩, rfl⟩
theorem qjh (t : List Token × Int × Int) (x : Node × Int × Int) (hx : (!decide (t.2.1 = (0 : Int))) = true → x = (Node.mk 0 ⟨#[]⟩ [] [], t.2.1, t.2.2)) (fr : Fr) (H : Hp)
 (h : AWp Tryz.prog G 32 0 rd2a (Zp (fun fr H => fr 16 = .bool (!decide (t.2.1 = (0 : Int))) ∧ kg t fr H) (rdR x)) fr H) : AWp Tryz.prog G 32 0 rd2 (Zp (fun fr H => (!decide (t.2.1 = (0 : Int))) = false ∧ kg t fr H) (rdR x)) fr H := by
 rw [quv]
 refine qia (h.mono ?_)
 intro e fr H q
 cases e with
 | normal =>
   obtain ⟨hc, hk⟩ := (show _ ∧ _ from q)
   refine vh (qc4 hc (fun hb => ?_) (fun hb => qh9 (vh ⟨hb, hk⟩)))
   obtain ⟨⟨g1, g4, g5, g6, g7⟩, rfl⟩ := hk
   cases hx hb
   refine (qbb (qil [(4, .ptr 0 0 0), (5, .ptr 1 1 0), (6, .ptr 2 2 0)] (by simp [g4, g5, g6])) (qlu t.2.1 t.2.2)).mono ?_
   rintro e fr H ⟨rfl, q⟩
   exact q
 | _ => exact q
theorem qiu (l : List Token) (e : Int) (h : qa8 ⟨l, 0⟩ = some (.error e)) :
 Ok Tryz.prog G tt 32 3 (fun e' fr _ => e' = .panic (flt e) ∧ fr 4 = .ptr 0 0 0 ∧ fr 5 = .ptr 1 1 0 ∧ fr 6 = .ptr 2 2 0) (.go [(1, .fn 64 [(.rptr [.fn 33 []])]), (4, .ptr 0 0 0), (5, .ptr 1 1 0), (6, .ptr 2 2 0), (7, .sl 4 false (l.map Token.cells))] [.code rd4] [] .z 3 []) := by
 refine kr [] ?_
 exact qi0 (FC.go (qn1 _ _ h) [0] [3] rfl rfl rfl rfl rfl rfl) ⟨rfl, rfl, rfl, rfl⟩
theorem qi6 (l : List Token) (e at_ : Int) (r : Node × Reader) (h : qa8 ⟨l, 0⟩ = some (.ok r)) (c : Int) (hc : yp r.1 = some c) (x : Node × Int × Int) (hx : (if (decide (c = (3 : Int))) = true then some (Node.mk 0 ⟨#[]⟩ [] [], 3, 0) else some (r.1, 0, 0)) = some x) :
 Ok Tryz.prog G tt 32 0 (rdR x) (.go [(1, .fn 64 [(.rptr [.fn 33 []])]), (4, .ptr 0 0 0), (5, .ptr 1 1 0), (6, .ptr 2 2 0), (7, .sl 4 false (l.map Token.cells))] [.code rd4] [] .z 3 (rdO e at_)) := by
 refine kr [] ?_
 refine qb (AC.g9 (qn1 _ _ h) [3] [3]) ?_
 refine kr [] ?_
 refine qt (Q2 _ _ hc) ?_
 refine kr [] ?_
 refine qg (fun hb => ?_) (fun hb => ?_)
 ·rw [if_pos hb] at hx
  cases hx
  refine kr [] ?_
  exact jw env rfl rfl (qhd _ _)
 ·rw [if_neg (by rw [hb]; decide)] at hx
  cases hx
  refine kr [] ?_
  exact jw env rfl rfl (zj rfl)
theorem qje (s : BA) (x : Node × Int × Int) (h : Kn s = some x) : ACalls Tryz.prog G 22 [.str s, .fn 64 [(.rptr [.fn 33 []])]] ⟨0, []⟩ (rdX x) ⟨0, []⟩ := by
 obtain ⟨t, ht, h⟩ := bind_some h
 intro w S F β vs hH hv
 rw [show (callFunc 22 vs).run Tryz.prog w = .ok (.enter 22 vs) w by simp]
 show Calls Tryz.prog 22 vs w (qfw w S F β x)
 refine calls_of_wp_defers Tryz.func22 qqm ?_
 have hA := Yc (N := 32) (by kernel_rfl) (qjk s t ht x)
 rw [Yw] at hA
 have hf := qch (N := 32) hv (Nat.le_of_ble_eq_true rfl)
 have fin : ∀ (e : Exit) (fr' : Fr) (H' : Hp) (w' : World) (S' : Nat → Prop) (β' : Nat → Nat) (a' : Act), rdR x e fr' H' → Ext w S F β 0 w' S' β' 0 → HR G w' S' F β' H' → FRx [] w' S' β' H'.n 32 fr' a' → bodyPostD Tryz.prog Tryz.f22 (qfw w S F β x) e a' w' := by
  intro e fr' H' w' S' β' a' q hx hH' hf'
  have hl := fun q => qdf (x := x) q hx hH' hf' hH
  cases e <;> first
   | exact q.elim
   | (show Leaves _ _ _ _ a'.defers _ _; rw [hf'.defers]; exact hl q)
 refine Y1 hA (Nat.zero_le _) hH hf (fun fr1 H1 w1 S1 β1 a1 q1 hx1 _ hH1 hf1 => ?_) (fun e fr' H' w' S' β' a' he q hx _ hH' hf' => fin e fr' H' w' S' β' a' (K9 he (qvi he q)) hx hH' hf')
 refine Y1 q1 (Nat.zero_le _) hH1 hf1 (fun fr2 H2 w2 S2 β2 a2 q2 hx2 _ hH2 hf2 => ?_) (fun e fr' H' w' S' β' a' he q hx _ hH' hf' => fin e fr' H' w' S' β' a' (K9 he q) (hx1.trans hx) hH' hf')
 refine Y1 (qjh t x (fun hb => by rw [if_pos hb] at h; cases h; rfl) fr2 H2 q2) (Nat.zero_le _) hH2 hf2 (fun fr3 H3 w3 S3 β3 a3 q3 hx3 _ hH3 hf3 => ?_) (fun e fr' H' w' S' β' a' he q hx _ hH' hf' => fin e fr' H' w' S' β' a' q ((hx1.trans hx2).trans hx) hH' hf')
 obtain ⟨hb, ⟨g1, g4, g5, g6, g7⟩, rfl⟩ := (show _ ∧ _ ∧ _ from q3)
 have hx0 := (hx1.trans hx2).trans hx3
 rw [if_neg (by rw [hb]; decide)] at h
 obtain ⟨r, hr, h⟩ := bind_some h
 refine wp_seq ?_
 refine qde (u := 20) (f := 50) (cs := #[.tmp 4, .tmp 5, .tmp 6]) (by rw [hf3.size]; decide) ?_
 have e4 := Wq (g4 ▸ hf3.val 4)
 have e5 := Wq (g5 ▸ hf3.val 5)
 have e6 := Wq (g6 ▸ hf3.val 6)
 have hcs : (#[Operand.tmp 4, .tmp 5, .tmp 6] : Array Operand).map a3.eval = #[.pointer (some ⟨β3 0, 0, none⟩), .pointer (some ⟨β3 1, 0, none⟩), .pointer (some ⟨β3 2, 0, none⟩)] := by
  simp [Act.eval, e4, e5, e6]
 rw [hcs]
 have hf3' := hf3.put (d := some 20) rfl (RV.undef (w := w3) (S := S3) (β := β3) (n := 3) (.func (.func 50) #[] #[.pointer (some ⟨β3 0, 0, none⟩), .pointer (some ⟨β3 1, 0, none⟩), .pointer (some ⟨β3 2, 0, none⟩)]))
 have hq := hf3'.some [(1, .fn 64 [(.rptr [.fn 33 []])]), (4, .ptr 0 0 0), (5, .ptr 1 1 0), (6, .ptr 2 2 0), (7, .sl 4 false (t.1.map Token.cells))] (by simp [vi, g1, g4, g5, g6, g7])
 generalize hd : a3.defers = d3 at *
 have hd3 : d3 = [] := by rw [← hd]; exact hf3.defers
 subst hd3
 have hf4 := FRx.of (a := ⟨a3.tmps.setIfInBounds 20 (.func (.func 50) #[] #[.pointer (some ⟨β3 0, 0, none⟩), .pointer (some ⟨β3 1, 0, none⟩), .pointer (some ⟨β3 2, 0, none⟩)]), [{ target := .fn (.func 50) #[.pointer (some ⟨β3 0, 0, none⟩), .pointer (some ⟨β3 1, 0, none⟩), .pointer (some ⟨β3 2, 0, none⟩)], args := #[] }]⟩) _ hf3'.size rfl hq
 show rd4.wp _ _ _ _
 cases r with
 | error e =>
   cases h
   have hB := Yc (N := 32) (by kernel_rfl) (qiu t.1 e hr)
   refine wp_mono (hB _ w3 S3 _ β3 _ (Nat.le_refl _) hH3.hide hf4) ?_
   rintro e' a' w' ⟨fr', H', S', β', ⟨rfl, k4, k5, k6⟩, hx, hp, hH', hf'⟩
   obtain ⟨hx', hH''⟩ := hH3.unhide hx hH'.lts
   show Leaves _ _ _ _ a'.defers _ _
   rw [hf'.defers]
   refine leaves_cons (f := 50) (args := #[.pointer (some ⟨β3 0, 0, none⟩), .pointer (some ⟨β3 1, 0, none⟩), .pointer (some ⟨β3 2, 0, none⟩)]) (by simp) (by simp [go_sem]) ?_
   have hc := qgb e t.2.2 (show HR G w' S' F β' ⟨3, rdO 0 t.2.2⟩ by
    have h0 : t.2.1 = 0 := by simpa using hb
    rw [← h0]; exact hH'')
   rw [hx'.beta 0 (show 0 < 3 by decide), hx'.beta 1 (show 1 < 3 by decide), hx'.beta 2 (show 2 < 3 by decide)] at hc
   refine hc.mono ?_
   rintro r u' w'' ⟨⟨v, rfl⟩, hs, S'', β'', hx'', hH3''⟩
   show Leaves _ _ _ _ [] (settle u') w''
   rw [hs]
   refine qdf (D := a'.defers) (a := a') (qih e) (hx0.trans ((hx'.trans hx'').lower (Nat.zero_le _))) hH3'' (FRx.of _ hf'.size rfl ?_) hH
   intro q hm
   simp only [List.mem_cons, List.not_mem_nil, or_false] at hm
   have hv : ∀ (i s : Nat) (t : Nat), s < 3 → fr' t = .ptr i s 0 → RV w'' S'' β'' 3 (.ptr i s 0) (a'.tmps.getD t Go.undef) := fun i s t hs3 ht => by
    have h1 := hf'.val t
    rw [ht] at h1
    rw [Wq h1, ← hx''.beta s hs3]
    exact .ptr i s 0 hs3
   rcases hm with rfl | rfl | rfl
   ·exact hv _ _ _ (by decide) k4
   ·exact hv _ _ _ (by decide) k5
   ·exact hv _ _ _ (by decide) k6
 | ok r =>
   obtain ⟨c, hc, h⟩ := bind_some h
   have hB := Yc (N := 32) (by kernel_rfl) (qi6 t.1 t.2.1 t.2.2 r hr c hc x h)
   refine wp_mono (hB _ w3 S3 F β3 _ (Nat.zero_le _) hH3 hf4) ?_
   rintro e' a' w' ⟨fr', H', S', β', q, hx, hp, hH', hf'⟩
   have hl : rdR x .normal fr' H' → Leaves Tryz.prog Tryz.f22 a'.tmps (qfw w S F β x) a'.defers .returning w' := fun q => by
    rw [hf'.defers]
    refine leaves_cons (f := 50) (args := #[.pointer (some ⟨β3 0, 0, none⟩), .pointer (some ⟨β3 1, 0, none⟩), .pointer (some ⟨β3 2, 0, none⟩)]) (by simp) (by simp [go_sem]) ?_
    refine (qlr _ _ _ w').mono ?_
    rintro r u' w'' ⟨⟨v, rfl⟩, rfl, rfl⟩
    exact qdf q (hx0.trans hx) hH' hf' hH
   cases e' <;> first
    | exact q.elim
    | exact hl q
theorem qi9 : PC1 (fun (s : BA) (x : Node × Int × Int) => AC Tryz.prog G 22 [.str s, .fn 64 [(.rptr [.fn 33 []])]] 0 [] (.tup [.agg (zp x.1), .int .i64 x.2.1, .int .i64 x.2.2]) 0 []) Kn := fun s x h => AC.plain (qje s x h) rfl rfl
/-- END OF READ -/
def uu (a0 : BA) : Option (Node × Int × Int) :=
 Kn a0 >>= fun x1 =>
 some (x1.1, x1.2.1, x1.2.2)
@[reducible] def Wu (a0 : BA) (r : Node × Int × Int) : Prop :=
  Fn Tryz.prog G 29 [(.str a0), (.fn 33 [])] (.tup [(.agg (zp r.1)), (.int .i64 r.2.1), (.int .i64 r.2.2)])
theorem W0 : PC1 Wu uu := fun a0 r h => by
 rw [uu.eq_def] at h
 refine ji (T := tt) (N := 13) (rs := [.cell 4 26, .tmp 5, .tmp 6]) (fun vs w => by simp) Tryz.func29 rfl rfl rfl rfl (by kernel_rfl) (kw rfl) (jv _ rfl) ?_
 refine kr [2000000] ?_
 refine qnl [(3, (.rptr [(.fn 33 [])]))] [0] rfl (qpo rfl rfl rfl rfl qtd) rfl rfl ?_
 refine qfp ?_
 refine kr [2000000] ?_
 obtain ⟨x1, hx, h⟩ := bind_some h
 refine qb (AC.g9 (qi9 _ _ hx) [] []) ?_
 refine kr [2000000] ?_
 cases h
 exact kf
def Zx (a0 : BA) : Option (Node × Int × Int) :=
 uu a0 >>= fun x1 =>
 some (x1.1, x1.2.1, x1.2.2)
@[reducible] def qnq (a0 : BA) (r : Node × Int × Int) : Prop :=
  Fn Tryz.prog G 14 [(.str a0)] (.tup [(.agg (zp r.1)), (.int .i64 r.2.1), (.int .i64 r.2.2)])
theorem qa0 : PC1 qnq Zx := fun a0 r h => by
 rw [Zx.eq_def] at h
 refine ji (T := tt) (N := 10) (rs := [.cell 2 26, .tmp 3, .tmp 4]) (fun vs w => by simp) Tryz.func14 rfl rfl rfl rfl (by kernel_rfl) (kw rfl) (jv _ rfl) ?_
 refine kr [] ?_
 obtain ⟨x1, hx, h⟩ := bind_some h
 refine qt (W0 _ _ hx) ?_
 refine kr [] ?_
 cases h
 exact kf
def K8  : Option Bool :=
 Zz (⟨#[97, 32, 45, 32, 98, 32, 42, 32, 50, 32, 45, 32, 99]⟩ : BA) >>= fun x1 =>
 if (!decide (x1.2.1 = (0 : Int))) = true then
  some false
 else
  if (!decide (x1.2.2 = (0 : Int))) = true then
   some false
  else
   if (!decide (x1.1.kind = (24 : Int))) = true then
    some false
   else
    if (!decide (x1.1.text = (⟨#[45]⟩ : BA))) = true then
     some false
    else
     if (!decide (((x1.1.gaps.map sc).length : Int) = (1 : Int))) = true then
      some false
     else
      ix x1.1.gaps (0 : Int) >>= fun x2 =>
      if (!decide (x2 = (⟨#[32]⟩ : BA))) = true then
       some false
      else
       if (!decide (((x1.1.kids.map Node.cells).length : Int) = (2 : Int))) = true then
        some false
       else
        ix x1.1.kids (0 : Int) >>= fun x3 =>
        if (!decide (x3.kind = (24 : Int))) = true then
         some false
        else
         ix x1.1.kids (0 : Int) >>= fun x4 =>
         if (!decide (((x4.kids.map Node.cells).length : Int) = (2 : Int))) = true then
          some false
         else
          ix x1.1.kids (1 : Int) >>= fun x5 =>
          if (!decide (x5.text = (⟨#[99]⟩ : BA))) = true then
           some false
          else
           Zx (⟨#[120, 32, 61, 32, 121, 59]⟩ : BA) >>= fun x6 =>
           Zx (⟨#[105, 102, 32, 97]⟩ : BA) >>= fun x7 =>
           Zz (⟨#[97, 32, 60, 32, 98, 32, 60, 32, 99]⟩ : BA) >>= fun x8 =>
           Zy (⟨#[102, 110, 32, 102, 40, 41, 32, 105, 110, 116, 32, 123, 32, 114, 101, 116, 117, 114, 110, 32, 49, 59, 32, 125]⟩ : BA) >>= fun x9 =>
           Zy (⟨#[102, 110, 32, 102, 40, 41, 32, 105, 110, 116, 32, 123, 32, 114, 101, 116, 117, 114, 110, 32, 49, 32, 125]⟩ : BA) >>= fun x10 =>
           if (decide (x6.2.1 = (0 : Int))) = true then
            if (decide (x6.1.kind = (11 : Int))) = true then
             if (decide (x7.2.1 = (1 : Int))) = true then
              if (decide (x7.2.2 = (4 : Int))) = true then
               if (decide (x8.2.1 = (1 : Int))) = true then
                if (decide (x8.2.2 = (6 : Int))) = true then
                 if (decide (x9.2.1 = (0 : Int))) = true then
                  if (decide (((x9.1.kids.map Node.cells).length : Int) = (1 : Int))) = true then
                   ix x9.1.kids (0 : Int) >>= fun x11 =>
                   if (decide (x11.text = (⟨#[102]⟩ : BA))) = true then
                    if (decide (x10.2.1 = (1 : Int))) = true then
                     some (decide (x10.2.2 = (22 : Int)))
                    else
                     some false
                   else
                    some false
                  else
                   some false
                 else
                  some false
                else
                 some false
               else
                some false
              else
               some false
             else
              some false
            else
             some false
           else
            some false
@[reducible] def qrt  (r : Bool) : Prop :=
  Fn Tryz.prog G 8 [] (.bool r)
theorem qh7 : PC0 qrt K8 := fun  r h => by
 rw [K8.eq_def] at h
 refine ji (T := tt) (N := 158) (rs := [.tmp 0]) (fun vs w => by simp) Tryz.func8 rfl rfl rfl rfl (by kernel_rfl) (kw rfl) (jv _ rfl) ?_
 refine kr [] ?_
 obtain ⟨x1, hx, h⟩ := bind_some h
 refine qt (qa3 _ _ hx) ?_
 refine kr [] ?_
 refine q8 (fun hb => ?_) (fun hb => ?_)
 ·replace h := qx hb h
  refine kr [] ?_
  refine q8 (fun hb => ?_) (fun hb => ?_)
  ·replace h := qx hb h
   refine kr [] ?_
   refine q8 (fun hb => ?_) (fun hb => ?_)
   ·replace h := qx hb h
    refine kr [] ?_
    refine q8 (fun hb => ?_) (fun hb => ?_)
    ·replace h := qx hb h
     refine kr [] ?_
     refine q8 (fun hb => ?_) (fun hb => ?_)
     ·replace h := qx hb h
      refine kr [] ?_
      obtain ⟨x2, hx, h⟩ := bind_some h
      refine K1 env hx rfl rfl rfl rfl rfl ?_
      refine kr [] ?_
      refine q8 (fun hb => ?_) (fun hb => ?_)
      ·replace h := qx hb h
       refine kr [] ?_
       refine q8 (fun hb => ?_) (fun hb => ?_)
       ·replace h := qx hb h
        refine kr [] ?_
        obtain ⟨x3, hx, h⟩ := bind_some h
        refine K1 env hx rfl rfl rfl rfl (Node.cells_eq x3) ?_
        refine kr [] ?_
        refine q8 (fun hb => ?_) (fun hb => ?_)
        ·replace h := qx hb h
         refine kr [] ?_
         obtain ⟨x4, hx, h⟩ := bind_some h
         refine K1 env hx rfl rfl rfl rfl (Node.cells_eq x4) ?_
         refine kr [] ?_
         refine q8 (fun hb => ?_) (fun hb => ?_)
         ·replace h := qx hb h
          refine kr [] ?_
          obtain ⟨x5, hx, h⟩ := bind_some h
          refine K1 env hx rfl rfl rfl rfl (Node.cells_eq x5) ?_
          refine kr [] ?_
          refine qg (fun hb => ?_) (fun hb => ?_)
          ·replace h := qw hb h
           refine kr [] ?_
           cases h
           exact kf
          ·replace h := qx hb h
           refine kr [] ?_
           obtain ⟨x6, hx, h⟩ := bind_some h
           refine qt (qa0 _ _ hx) ?_
           refine kr [] ?_
           obtain ⟨x7, hx, h⟩ := bind_some h
           refine qt (qa0 _ _ hx) ?_
           refine kr [] ?_
           obtain ⟨x8, hx, h⟩ := bind_some h
           refine qt (qa3 _ _ hx) ?_
           refine kr [] ?_
           obtain ⟨x9, hx, h⟩ := bind_some h
           refine qt (qa1 _ _ hx) ?_
           refine kr [] ?_
           obtain ⟨x10, hx, h⟩ := bind_some h
           refine qt (qa1 _ _ hx) ?_
           refine kr [] ?_
           refine qv (fun hb => ?_) (fun hb => ?_)
           ·replace h := qw hb h
            refine kr [] ?_
            refine qv (fun hb => ?_) (fun hb => ?_)
            ·replace h := qw hb h
             refine kr [] ?_
             refine qv (fun hb => ?_) (fun hb => ?_)
             ·replace h := qw hb h
              refine kr [] ?_
              refine qv (fun hb => ?_) (fun hb => ?_)
              ·replace h := qw hb h
               refine kr [] ?_
               refine qv (fun hb => ?_) (fun hb => ?_)
               ·replace h := qw hb h
                refine kr [] ?_
                refine qv (fun hb => ?_) (fun hb => ?_)
                ·replace h := qw hb h
                 refine kr [] ?_
                 refine qv (fun hb => ?_) (fun hb => ?_)
                 ·replace h := qw hb h
                  refine kr [] ?_
                  refine qv (fun hb => ?_) (fun hb => ?_)
                  ·replace h := qw hb h
                   refine kr [] ?_
                   obtain ⟨x11, hx, h⟩ := bind_some h
                   refine K1 env hx rfl rfl rfl rfl (Node.cells_eq x11) ?_
                   refine kr [] ?_
                   refine qv (fun hb => ?_) (fun hb => ?_)
                   ·replace h := qw hb h
                    refine kr [] ?_
                    refine qv (fun hb => ?_) (fun hb => ?_)
                    ·replace h := qw hb h
                     refine kr [] ?_
                     cases h
                     exact kf
                    ·replace h := qx hb h
                     refine kr [] ?_
                     cases h
                     exact kf
                   ·replace h := qx hb h
                    refine kr [] ?_
                    cases h
                    exact kf
                  ·replace h := qx hb h
                   refine kr [] ?_
                   cases h
                   exact kf
                 ·replace h := qx hb h
                  refine kr [] ?_
                  cases h
                  exact kf
                ·replace h := qx hb h
                 refine kr [] ?_
                 cases h
                 exact kf
               ·replace h := qx hb h
                refine kr [] ?_
                cases h
                exact kf
              ·replace h := qx hb h
               refine kr [] ?_
               cases h
               exact kf
             ·replace h := qx hb h
              refine kr [] ?_
              cases h
              exact kf
            ·replace h := qx hb h
             refine kr [] ?_
             cases h
             exact kf
           ·replace h := qx hb h
            refine kr [] ?_
            cases h
            exact kf
         ·replace h := qw hb h
          refine kr [] ?_
          cases h
          exact kf
        ·replace h := qw hb h
         refine kr [] ?_
         cases h
         exact kf
       ·replace h := qw hb h
        refine kr [] ?_
        cases h
        exact kf
      ·replace h := qw hb h
       refine kr [] ?_
       cases h
       exact kf
     ·replace h := qw hb h
      refine kr [] ?_
      cases h
      exact kf
    ·replace h := qw hb h
     refine kr [] ?_
     cases h
     exact kf
   ·replace h := qw hb h
    refine kr [] ?_
    cases h
    exact kf
  ·replace h := qw hb h
   refine kr [] ?_
   cases h
   exact kf
 ·replace h := qw hb h
  refine kr [] ?_
  cases h
  exact kf
end Go.Proofs.YtigmilhpeodhbaaGreatDoorW.Ex.Gr
