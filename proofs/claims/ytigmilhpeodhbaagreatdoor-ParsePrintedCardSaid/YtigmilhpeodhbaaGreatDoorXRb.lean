/- The functions of the program's layer 9 and of its references, printed as functions on numbers, strings, lists and trees, with the proofs that they are what the code computes. Conditions: those in each theorem. -/
import Derived.Test.YtigmilhpeodhbaaGreatDoorXRa
namespace Go.Proofs.YtigmilhpeodhbaaGreatDoorW.Ex.Gr
open Go Go.Proofs.YtigmilhpeodhbaaGreatDoorW.Ex
set_option linter.all false
set_option maxRecDepth 100000
set_option synthInstance.maxSize 4000
set_option maxHeartbeats 4000000
open Go.Proofs.YtigmilhpeodhbaaGreatDoorW.Plain
@[reducible] def qph (o0 : Reader) (o2 : Node) (r : Except Int (Node × Reader)) : Prop :=
  Ok Tryz.prog G tt 21 1 (exq (fun (r : Node × Reader) => Ret Tryz.prog [.cell 3 26] (fun y H => vd Tryz.prog G 1 H y (.agg (zp r.1)) ⟨1, [(0, .var 77 (Reader.cells r.2))]⟩)) (fun e => Jg (flt e)) r) (.go [] (v7 [17] Tryz.f64 17) [] (.n .undef (.n .undef (.n (.ptr 1 1 0) .z .z) .z) (.n .undef (.n (.ptr 2 2 0) .z .z) .z)) 3 [(0, .var 77 (Reader.cells o0)), (1, .var 26 [(.int .i64 0), (.str ⟨#[]⟩), (.sl 0 true []), (.sl 0 true [])]), (2, .var 26 (zp o2))])
theorem qb6 : PC2 qph Wt := fun o0 o2 r h => by
 rw [Wt.eq_def] at h
 refine kr [17] ?_
 cases h
 exact j8 env rfl rfl (tS [some 0] (sV (lS (lS lN)) q7) (yf (yr (qh (qg (zy rfl) rfl) (qh (qg (jw rfl) rfl) (qh (qg (kg (.inl rfl)) rfl) (qh (qg (kg (.inl rfl)) rfl) yq))))) (by simp)))
def qb9 (a0 : Reader) : Option (Except Int (Node × Reader)) :=
 Yt a0 >>= fun x1 =>
 match x1 with
 | .error ee => some (.error ee)
 | .ok x1 =>
 zn x1.2 >>= fun x2 =>
 if (!decide (x2.Kind = (4 : Int))) = true then
  jc x1.2 >>= fun x5 =>
  match x5 with
  | .error ee => some (.error ee)
  | .ok x5 =>
  Wt x1.2 x1.1
 else
  zn x1.2 >>= fun x3 =>
  if (!decide (x3.Lead = (⟨#[]⟩ : BA))) = true then
   jc x1.2 >>= fun x4 =>
   match x4 with
   | .error ee => some (.error ee)
   | .ok x4 =>
   Wt x1.2 x1.1
  else
   Wt x1.2 x1.1
@[reducible] def qxv (a0 : Reader) (r : Except Int (Node × Reader)) : Prop :=
  exq (fun (r : Node × Reader) => AC Tryz.prog G 64 [(.ptr 0 0 0), (.rptr [(.fn 30 [])])] 1 [(0, .var 77 (Reader.cells a0))] (.agg (zp r.1)) 1 [(0, .var 77 (Reader.cells r.2))]) (fun e => FC Tryz.prog G 64 [(.ptr 0 0 0), (.rptr [(.fn 30 [])])] 1 [(0, .var 77 (Reader.cells a0))] (flt e)) r
theorem qpo : PC1 qxv qb9 := fun a0 r h => by
 rw [qb9.eq_def] at h
 refine Jw (T := tt) (N := 21) (rs := [.cell 3 26]) (fun vs w => by simp) Tryz.func64 rfl rfl rfl (by kernel_rfl) (by kernel_rfl) (zm rfl rfl jv) (qj zf) (fun r => (zo rfl j3)) (fun r => (qj zf)) (fun _ => rfl) (fun _ => rfl) rfl (fun _ => rfl) ?_
 refine kr [17] ?_
 obtain ⟨x1, hx, h⟩ := bind_some h
 rcases x1 with ee | x1
 ·replace h : some (.error ee) = some r := h
  cases h
  exact zd (FC.go (qb2 _ _ hx) [0] [0] rfl rfl rfl rfl rfl rfl)
 refine qb (AC.g9 (qb2 _ _ hx) [0] [0]) ?_
 refine kr [17] ?_
 obtain ⟨x2, hx, h⟩ := bind_some h
 refine qb (AC.g9 (zt _ _ hx) [0] [0]) ?_
 refine kr [17] ?_
 refine qy (fun hb => ?_) (fun hb => ?_)
 ·replace h := qx hb h
  refine kr [17] ?_
  obtain ⟨x3, hx, h⟩ := bind_some h
  refine qb (AC.g9 (zt _ _ hx) [0] [0]) ?_
  refine kr [17] ?_
  refine qf (fun hb => ?_) (fun hb => ?_)
  ·replace h := qw hb h
   refine kr [17] ?_
   obtain ⟨x4, hx, h⟩ := bind_some h
   rcases x4 with ee | x4
   ·replace h : some (.error ee) = some r := h
    cases h
    exact zd (FC.go (zq _ _ hx) [0] [0] rfl rfl rfl rfl rfl rfl)
   refine qb (AC.g9 (zq _ _ hx) [0] [0]) ?_
   refine kr [17] ?_
   exact qz (by kernel_rfl) rfl lQ (qb6 _ _ _ h)
  replace h := qx hb h
  refine kr [17] ?_
  exact qz (by kernel_rfl) rfl lQ (qb6 _ _ _ h)
 replace h := qw hb h
 refine kr [17] ?_
 obtain ⟨x5, hx, h⟩ := bind_some h
 rcases x5 with ee | x5
 ·replace h : some (.error ee) = some r := h
  cases h
  exact zd (FC.go (zq _ _ hx) [0] [0] rfl rfl rfl rfl rfl rfl)
 refine qb (AC.g9 (zq _ _ hx) [0] [0]) ?_
 refine kr [17] ?_
 exact qz (by kernel_rfl) rfl lQ (qb6 _ _ _ h)
def Wp (s : BA) : Option (Node × Int × Int) :=
 uo s >>= fun t =>
 if (!decide (t.2.1 = (0 : Int))) = true then some (Node.mk 0 ⟨#[]⟩ [] [], t.2.1, t.2.2)
 else qb9 ⟨t.1, 0⟩ >>= fun x => match x with
  | .error e => some (Node.mk 0 ⟨#[]⟩ [] [], 1, e)
  | .ok x => yw x.1 >>= fun c => if (decide (c = (3 : Int))) = true then some (Node.mk 0 ⟨#[]⟩ [] [], 3, 0) else some (x.1, 0, 0)
def kv (t : List Token × Int × Int) (fr : Fr) (H : Hp) : Prop := (fr 1 = .fn 64 [(.rptr [.fn 30 []])] ∧ fr 4 = .ptr 0 0 0 ∧ fr 5 = .ptr 1 1 0 ∧ fr 6 = .ptr 2 2 0 ∧ fr 7 = .sl 4 false (t.1.map Token.cells)) ∧ H = ⟨3, rdO t.2.1 t.2.2⟩
theorem qlf (s : BA) (t : List Token × Int × Int) (ht : uo s = some t) (x : Node × Int × Int) :
 Ok Tryz.prog G tt 32 0 (Jk (fun fr H => fr 16 = .bool (!decide (t.2.1 = (0 : Int))) ∧ kv t fr H) (rdR x)) (.go (qfa 0 [.str s, .fn 64 [(.rptr [.fn 30 []])]]) [.code rd0, .code rd1, .code rd2a] [] .z 0 []) := by
 refine kr [] ?_
 refine qn (W4 _ _ ht) ?_
 refine kr [] ?_
 exact qmt ⟨rfl, ⟨rfl, rfl, rfl, rfl, rfl⟩, rfl⟩
theorem qlc (t : List Token × Int × Int) (x : Node × Int × Int) (hx : (!decide (t.2.1 = (0 : Int))) = true → x = (Node.mk 0 ⟨#[]⟩ [] [], t.2.1, t.2.2)) (fr : Fr) (H : Hp)
 (h : AWp Tryz.prog G 32 0 rd2a (Jk (fun fr H => fr 16 = .bool (!decide (t.2.1 = (0 : Int))) ∧ kv t fr H) (rdR x)) fr H) : AWp Tryz.prog G 32 0 rd2 (Jk (fun fr H => (!decide (t.2.1 = (0 : Int))) = false ∧ kv t fr H) (rdR x)) fr H := by
 rw [qw1]
 refine qjw (h.mono ?_)
 intro e fr H q
 cases e with
 | normal =>
   obtain ⟨hc, hk⟩ := (show _ ∧ _ from q)
   refine Qf (qd3 hc (fun hb => ?_) (fun hb => qjv (Qf ⟨hb, hk⟩)))
   obtain ⟨⟨g1, g4, g5, g6, g7⟩, rfl⟩ := hk
   cases hx hb
   refine (qcb (qke [(4, .ptr 0 0 0), (5, .ptr 1 1 0), (6, .ptr 2 2 0)] (by simp [g4, g5, g6])) (qno t.2.1 t.2.2)).mono ?_
   rintro e fr H ⟨rfl, q⟩
   exact q
 | _ => exact q
theorem qkp (l : List Token) (e : Int) (h : qb9 ⟨l, 0⟩ = some (.error e)) :
 Ok Tryz.prog G tt 32 3 (fun e' fr _ => e' = .panic (flt e) ∧ fr 4 = .ptr 0 0 0 ∧ fr 5 = .ptr 1 1 0 ∧ fr 6 = .ptr 2 2 0) (.go [(1, .fn 64 [(.rptr [.fn 30 []])]), (4, .ptr 0 0 0), (5, .ptr 1 1 0), (6, .ptr 2 2 0), (7, .sl 4 false (l.map Token.cells))] [.code rd4] [] .z 3 []) := by
 refine kr [] ?_
 exact qkt (FC.go (qpo _ _ h) [0] [3] rfl rfl rfl rfl rfl rfl) ⟨rfl, rfl, rfl, rfl⟩
theorem qk1 (l : List Token) (e at_ : Int) (r : Node × Reader) (h : qb9 ⟨l, 0⟩ = some (.ok r)) (c : Int) (hc : yw r.1 = some c) (x : Node × Int × Int) (hx : (if (decide (c = (3 : Int))) = true then some (Node.mk 0 ⟨#[]⟩ [] [], 3, 0) else some (r.1, 0, 0)) = some x) :
 Ok Tryz.prog G tt 32 0 (rdR x) (.go [(1, .fn 64 [(.rptr [.fn 30 []])]), (4, .ptr 0 0 0), (5, .ptr 1 1 0), (6, .ptr 2 2 0), (7, .sl 4 false (l.map Token.cells))] [.code rd4] [] .z 3 (rdO e at_)) := by
 refine kr [] ?_
 refine qb (AC.g9 (qpo _ _ h) [3] [3]) ?_
 refine kr [] ?_
 refine qn (Zt _ _ hc) ?_
 refine kr [] ?_
 refine qf (fun hb => ?_) (fun hb => ?_)
 ·rw [if_pos hb] at hx
  cases hx
  refine kr [] ?_
  exact j8 env rfl rfl (qix _ _)
 rw [if_neg (by rw [hb]; decide)] at hx
 cases hx
 refine kr [] ?_
 exact j8 env rfl rfl (zk rfl)
theorem qk9 (s : BA) (x : Node × Int × Int) (h : Wp s = some x) : ACalls Tryz.prog G 22 [.str s, .fn 64 [(.rptr [.fn 30 []])]] ⟨0, []⟩ (rdX x) ⟨0, []⟩ := by
 obtain ⟨t, ht, h⟩ := bind_some h
 intro w S F β vs hH hv
 rw [show (callFunc 22 vs).run Tryz.prog w = .ok (.enter 22 vs) w by simp]
 show Calls Tryz.prog 22 vs w (qg8 w S F β x)
 refine calls_of_wp_defers Tryz.func22 qr6 ?_
 have hA := Y2 (N := 32) (by kernel_rfl) (qlf s t ht x)
 rw [Km] at hA
 have hf := qdi (N := 32) hv (Nat.le_of_ble_eq_true rfl)
 have fin : ∀ (e : Exit) (fr' : Fr) (H' : Hp) (w' : World) (S' : Nat → Prop) (β' : Nat → Nat) (a' : Act), rdR x e fr' H' → Ext w S F β 0 w' S' β' 0 → HR G w' S' F β' H' → FRx [] w' S' β' H'.n 32 fr' a' → bodyPostD Tryz.prog Tryz.f22 (qg8 w S F β x) e a' w' := by
  intro e fr' H' w' S' β' a' q hx hH' hf'
  have hl := fun q => qef (x := x) q hx hH' hf' hH
  cases e <;> first
   | exact q.elim
   | (show Leaves _ _ _ _ a'.defers _ _; rw [hf'.defers]; exact hl q)
 refine Kv hA (Nat.zero_le _) hH hf (fun fr1 H1 w1 S1 β1 a1 q1 hx1 _ hH1 hf1 => ?_) (fun e fr' H' w' S' β' a' he q hx _ hH' hf' => fin e fr' H' w' S' β' a' (W6 he (qxp he q)) hx hH' hf')
 refine Kv q1 (Nat.zero_le _) hH1 hf1 (fun fr2 H2 w2 S2 β2 a2 q2 hx2 _ hH2 hf2 => ?_) (fun e fr' H' w' S' β' a' he q hx _ hH' hf' => fin e fr' H' w' S' β' a' (W6 he q) (hx1.trans hx) hH' hf')
 refine Kv (qlc t x (fun hb => by rw [if_pos hb] at h; cases h; rfl) fr2 H2 q2) (Nat.zero_le _) hH2 hf2 (fun fr3 H3 w3 S3 β3 a3 q3 hx3 _ hH3 hf3 => ?_) (fun e fr' H' w' S' β' a' he q hx _ hH' hf' => fin e fr' H' w' S' β' a' q ((hx1.trans hx2).trans hx) hH' hf')
 obtain ⟨hb, ⟨g1, g4, g5, g6, g7⟩, rfl⟩ := (show _ ∧ _ ∧ _ from q3)
 have hx0 := (hx1.trans hx2).trans hx3
 rw [if_neg (by rw [hb]; decide)] at h
 obtain ⟨r, hr, h⟩ := bind_some h
 refine wp_seq ?_
 refine qee (u := 20) (f := 50) (cs := #[.tmp 4, .tmp 5, .tmp 6]) (by rw [hf3.size]; decide) ?_
 have e4 := qaj (g4 ▸ hf3.val 4)
 have e5 := qaj (g5 ▸ hf3.val 5)
 have e6 := qaj (g6 ▸ hf3.val 6)
 have hcs : (#[Operand.tmp 4, .tmp 5, .tmp 6] : Array Operand).map a3.eval = #[.pointer (some ⟨β3 0, 0, none⟩), .pointer (some ⟨β3 1, 0, none⟩), .pointer (some ⟨β3 2, 0, none⟩)] := by
  simp [Act.eval, e4, e5, e6]
 rw [hcs]
 have hf3' := hf3.put (d := some 20) rfl (RV.undef (w := w3) (S := S3) (β := β3) (n := 3) (.func (.func 50) #[] #[.pointer (some ⟨β3 0, 0, none⟩), .pointer (some ⟨β3 1, 0, none⟩), .pointer (some ⟨β3 2, 0, none⟩)]))
 have hq := hf3'.some [(1, .fn 64 [(.rptr [.fn 30 []])]), (4, .ptr 0 0 0), (5, .ptr 1 1 0), (6, .ptr 2 2 0), (7, .sl 4 false (t.1.map Token.cells))] (by simp [Qg, g1, g4, g5, g6, g7])
 generalize hd : a3.defers = d3 at *
 have hd3 : d3 = [] := by rw [← hd]; exact hf3.defers
 subst hd3
 have hf4 := FRx.of (a := ⟨a3.tmps.setIfInBounds 20 (.func (.func 50) #[] #[.pointer (some ⟨β3 0, 0, none⟩), .pointer (some ⟨β3 1, 0, none⟩), .pointer (some ⟨β3 2, 0, none⟩)]), [{ target := .fn (.func 50) #[.pointer (some ⟨β3 0, 0, none⟩), .pointer (some ⟨β3 1, 0, none⟩), .pointer (some ⟨β3 2, 0, none⟩)], args := #[] }]⟩) _ hf3'.size rfl hq
 show rd4.wp _ _ _ _
 cases r with
 | error e =>
   cases h
   have hB := Y2 (N := 32) (by kernel_rfl) (qkp t.1 e hr)
   refine wp_mono (hB _ w3 S3 _ β3 _ (Nat.le_refl _) hH3.hide hf4) ?_
   rintro e' a' w' ⟨fr', H', S', β', ⟨rfl, k4, k5, k6⟩, hx, hp, hH', hf'⟩
   obtain ⟨hx', hH''⟩ := hH3.unhide hx hH'.lts
   show Leaves _ _ _ _ a'.defers _ _
   rw [hf'.defers]
   refine leaves_cons (f := 50) (args := #[.pointer (some ⟨β3 0, 0, none⟩), .pointer (some ⟨β3 1, 0, none⟩), .pointer (some ⟨β3 2, 0, none⟩)]) (by simp) (by simp [go_sem]) ?_
   have hc := qht e t.2.2 (show HR G w' S' F β' ⟨3, rdO 0 t.2.2⟩ by
    have h0 : t.2.1 = 0 := by simpa using hb
    rw [← h0]; exact hH'')
   rw [hx'.beta 0 (show 0 < 3 by decide), hx'.beta 1 (show 1 < 3 by decide), hx'.beta 2 (show 2 < 3 by decide)] at hc
   refine hc.mono ?_
   rintro r u' w'' ⟨⟨v, rfl⟩, hs, S'', β'', hx'', hH3''⟩
   show Leaves _ _ _ _ [] (settle u') w''
   rw [hs]
   refine qef (D := a'.defers) (a := a') (qj8 e) (hx0.trans ((hx'.trans hx'').lower (Nat.zero_le _))) hH3'' (FRx.of _ hf'.size rfl ?_) hH
   intro q hm
   simp only [List.mem_cons, List.not_mem_nil, or_false] at hm
   have hv : ∀ (i s : Nat) (t : Nat), s < 3 → fr' t = .ptr i s 0 → RV w'' S'' β'' 3 (.ptr i s 0) (a'.tmps.getD t Go.undef) := fun i s t hs3 ht => by
    have h1 := hf'.val t
    rw [ht] at h1
    rw [qaj h1, ← hx''.beta s hs3]
    exact .ptr i s 0 hs3
   rcases hm with rfl | rfl | rfl
   ·exact hv _ _ _ (by decide) k4
   ·exact hv _ _ _ (by decide) k5
   exact hv _ _ _ (by decide) k6
 | ok r =>
   obtain ⟨c, hc, h⟩ := bind_some h
   have hB := Y2 (N := 32) (by kernel_rfl) (qk1 t.1 t.2.1 t.2.2 r hr c hc x h)
   refine wp_mono (hB _ w3 S3 F β3 _ (Nat.zero_le _) hH3 hf4) ?_
   rintro e' a' w' ⟨fr', H', S', β', q, hx, hp, hH', hf'⟩
   have hl : rdR x .normal fr' H' → Leaves Tryz.prog Tryz.f22 a'.tmps (qg8 w S F β x) a'.defers .returning w' := fun q => by
    rw [hf'.defers]
    refine leaves_cons (f := 50) (args := #[.pointer (some ⟨β3 0, 0, none⟩), .pointer (some ⟨β3 1, 0, none⟩), .pointer (some ⟨β3 2, 0, none⟩)]) (by simp) (by simp [go_sem]) ?_
    refine (qnk _ _ _ w').mono ?_
    rintro r u' w'' ⟨⟨v, rfl⟩, rfl, rfl⟩
    exact qef q (hx0.trans hx) hH' hf' hH
   cases e' <;> first
    | exact q.elim
    | exact hl q
theorem qk4 : PC1 (fun (s : BA) (x : Node × Int × Int) => AC Tryz.prog G 22 [.str s, .fn 64 [(.rptr [.fn 30 []])]] 0 [] (.tup [.agg (zp x.1), .int .i64 x.2.1, .int .i64 x.2.2]) 0 []) Wp := fun s x h => AC.plain (qk9 s x h) rfl rfl
def vo (a0 : BA) : Option (Node × Int × Int) :=
 Wp a0 >>= fun x1 =>
 some (x1.1, x1.2.1, x1.2.2)
@[reducible] def qap (a0 : BA) (r : Node × Int × Int) : Prop :=
  Fn Tryz.prog G 29 [(.str a0), (.fn 30 [])] (.tup [(.agg (zp r.1)), (.int .i64 r.2.1), (.int .i64 r.2.2)])
theorem qax : PC1 qap vo := fun a0 r h => by
 rw [vo.eq_def] at h
 refine jk (T := tt) (N := 13) (rs := [.cell 4 26, .tmp 5, .tmp 6]) (fun vs w => by simp) Tryz.func29 rfl rfl rfl rfl (by kernel_rfl) (ko rfl) (jn _ rfl) ?_
 refine kr [2000000] ?_
 refine qo6 [(3, (.rptr [(.fn 30 [])]))] [0] rfl (qq6 rfl rfl rfl rfl qvk) rfl rfl ?_
 refine qg1 ?_
 refine kr [2000000] ?_
 obtain ⟨x1, hx, h⟩ := bind_some h
 refine qb (AC.g9 (qk4 _ _ hx) [] []) ?_
 refine kr [2000000] ?_
 cases h
 exact kf
def Js (a0 : BA) : Option (Node × Int × Int) :=
 vo a0 >>= fun x1 =>
 some (x1.1, x1.2.1, x1.2.2)
@[reducible] def qpd (a0 : BA) (r : Node × Int × Int) : Prop :=
  Fn Tryz.prog G 12 [(.str a0)] (.tup [(.agg (zp r.1)), (.int .i64 r.2.1), (.int .i64 r.2.2)])
theorem qb3 : PC1 qpd Js := fun a0 r h => by
 rw [Js.eq_def] at h
 refine jk (T := tt) (N := 10) (rs := [.cell 2 26, .tmp 3, .tmp 4]) (fun vs w => by simp) Tryz.func12 rfl rfl rfl rfl (by kernel_rfl) (ko rfl) (jn _ rfl) ?_
 refine kr [] ?_
 obtain ⟨x1, hx, h⟩ := bind_some h
 refine qn (qax _ _ hx) ?_
 refine kr [] ?_
 cases h
 exact kf
def Ys (a0 : Reader) : Option (Except Int (Node × Reader)) :=
 j5 a0 >>= fun x1 =>
 match x1 with
 | .error ee => some (.error ee)
 | .ok x1 =>
 some (.ok (x1.1, x1.2))
@[reducible] def qig (a0 : Reader) (r : Except Int (Node × Reader)) : Prop :=
  exq (fun (r : Node × Reader) => AC Tryz.prog G 33 [(.ptr 0 0 0)] 1 [(0, .var 77 (Reader.cells a0))] (.agg (zp r.1)) 1 [(0, .var 77 (Reader.cells r.2))]) (fun e => FC Tryz.prog G 33 [(.ptr 0 0 0)] 1 [(0, .var 77 (Reader.cells a0))] (flt e)) r
theorem qbz : PC1 qig Ys := fun a0 r h => by
 rw [Ys.eq_def] at h
 refine Jw (T := tt) (N := 5) (rs := [.cell 2 26]) (fun vs w => by simp) Tryz.func33 rfl rfl rfl (by kernel_rfl) (by kernel_rfl) (zm rfl rfl jv) (qj zf) (fun r => (zo rfl j3)) (fun r => (qj zf)) (fun _ => rfl) (fun _ => rfl) rfl (fun _ => rfl) ?_
 refine kr [] ?_
 obtain ⟨x1, hx, h⟩ := bind_some h
 rcases x1 with ee | x1
 ·replace h : some (.error ee) = some r := h
  cases h
  exact zd (FC.go (wr _ _ hx) [0] [0] rfl rfl rfl rfl rfl rfl)
 refine qb (AC.g9 (wr _ _ hx) [0] [0]) ?_
 refine kr [] ?_
 cases h
 exact j8 env rfl rfl (tS [some 0] (sV (lS (lS lN)) q7) (yf (yr (qh (qg (zy rfl) rfl) (qh (qg (jw rfl) rfl) (qh (qg (kg (.inl rfl)) rfl) (qh (qg (kg (.inl rfl)) rfl) yq))))) (by simp)))
def Wr (o0 : Reader) (o2 : Node) : Option (Except Int (Node × Reader)) :=
 some (.ok (o2, o0))
@[reducible] def qpg (o0 : Reader) (o2 : Node) (r : Except Int (Node × Reader)) : Prop :=
  Ok Tryz.prog G tt 21 1 (exq (fun (r : Node × Reader) => Ret Tryz.prog [.cell 3 26] (fun y H => vd Tryz.prog G 1 H y (.agg (zp r.1)) ⟨1, [(0, .var 77 (Reader.cells r.2))]⟩)) (fun e => Jg (flt e)) r) (.go [] (v7 [17] Tryz.f64 17) [] (.n .undef (.n .undef (.n (.ptr 1 1 0) .z .z) .z) (.n .undef (.n (.ptr 2 2 0) .z .z) .z)) 3 [(0, .var 77 (Reader.cells o0)), (1, .var 26 [(.int .i64 0), (.str ⟨#[]⟩), (.sl 0 true []), (.sl 0 true [])]), (2, .var 26 (zp o2))])
theorem qb5 : PC2 qpg Wr := fun o0 o2 r h => by
 rw [Wr.eq_def] at h
 refine kr [17] ?_
 cases h
 exact j8 env rfl rfl (tS [some 0] (sV (lS (lS lN)) q7) (yf (yr (qh (qg (zy rfl) rfl) (qh (qg (jw rfl) rfl) (qh (qg (kg (.inl rfl)) rfl) (qh (qg (kg (.inl rfl)) rfl) yq))))) (by simp)))
def qb7 (a0 : Reader) : Option (Except Int (Node × Reader)) :=
 Ys a0 >>= fun x1 =>
 match x1 with
 | .error ee => some (.error ee)
 | .ok x1 =>
 zn x1.2 >>= fun x2 =>
 if (!decide (x2.Kind = (4 : Int))) = true then
  jc x1.2 >>= fun x5 =>
  match x5 with
  | .error ee => some (.error ee)
  | .ok x5 =>
  Wr x1.2 x1.1
 else
  zn x1.2 >>= fun x3 =>
  if (!decide (x3.Lead = (⟨#[]⟩ : BA))) = true then
   jc x1.2 >>= fun x4 =>
   match x4 with
   | .error ee => some (.error ee)
   | .ok x4 =>
   Wr x1.2 x1.1
  else
   Wr x1.2 x1.1
@[reducible] def qxt (a0 : Reader) (r : Except Int (Node × Reader)) : Prop :=
  exq (fun (r : Node × Reader) => AC Tryz.prog G 64 [(.ptr 0 0 0), (.rptr [(.fn 33 [])])] 1 [(0, .var 77 (Reader.cells a0))] (.agg (zp r.1)) 1 [(0, .var 77 (Reader.cells r.2))]) (fun e => FC Tryz.prog G 64 [(.ptr 0 0 0), (.rptr [(.fn 33 [])])] 1 [(0, .var 77 (Reader.cells a0))] (flt e)) r
theorem qpm : PC1 qxt qb7 := fun a0 r h => by
 rw [qb7.eq_def] at h
 refine Jw (T := tt) (N := 21) (rs := [.cell 3 26]) (fun vs w => by simp) Tryz.func64 rfl rfl rfl (by kernel_rfl) (by kernel_rfl) (zm rfl rfl jv) (qj zf) (fun r => (zo rfl j3)) (fun r => (qj zf)) (fun _ => rfl) (fun _ => rfl) rfl (fun _ => rfl) ?_
 refine kr [17] ?_
 obtain ⟨x1, hx, h⟩ := bind_some h
 rcases x1 with ee | x1
 ·replace h : some (.error ee) = some r := h
  cases h
  exact zd (FC.go (qbz _ _ hx) [0] [0] rfl rfl rfl rfl rfl rfl)
 refine qb (AC.g9 (qbz _ _ hx) [0] [0]) ?_
 refine kr [17] ?_
 obtain ⟨x2, hx, h⟩ := bind_some h
 refine qb (AC.g9 (zt _ _ hx) [0] [0]) ?_
 refine kr [17] ?_
 refine qy (fun hb => ?_) (fun hb => ?_)
 ·replace h := qx hb h
  refine kr [17] ?_
  obtain ⟨x3, hx, h⟩ := bind_some h
  refine qb (AC.g9 (zt _ _ hx) [0] [0]) ?_
  refine kr [17] ?_
  refine qf (fun hb => ?_) (fun hb => ?_)
  ·replace h := qw hb h
   refine kr [17] ?_
   obtain ⟨x4, hx, h⟩ := bind_some h
   rcases x4 with ee | x4
   ·replace h : some (.error ee) = some r := h
    cases h
    exact zd (FC.go (zq _ _ hx) [0] [0] rfl rfl rfl rfl rfl rfl)
   refine qb (AC.g9 (zq _ _ hx) [0] [0]) ?_
   refine kr [17] ?_
   exact qz (by kernel_rfl) rfl lQ (qb5 _ _ _ h)
  replace h := qx hb h
  refine kr [17] ?_
  exact qz (by kernel_rfl) rfl lQ (qb5 _ _ _ h)
 replace h := qw hb h
 refine kr [17] ?_
 obtain ⟨x5, hx, h⟩ := bind_some h
 rcases x5 with ee | x5
 ·replace h : some (.error ee) = some r := h
  cases h
  exact zd (FC.go (zq _ _ hx) [0] [0] rfl rfl rfl rfl rfl rfl)
 refine qb (AC.g9 (zq _ _ hx) [0] [0]) ?_
 refine kr [17] ?_
 exact qz (by kernel_rfl) rfl lQ (qb5 _ _ _ h)
def Wn (s : BA) : Option (Node × Int × Int) :=
 uo s >>= fun t =>
 if (!decide (t.2.1 = (0 : Int))) = true then some (Node.mk 0 ⟨#[]⟩ [] [], t.2.1, t.2.2)
 else qb7 ⟨t.1, 0⟩ >>= fun x => match x with
  | .error e => some (Node.mk 0 ⟨#[]⟩ [] [], 1, e)
  | .ok x => yw x.1 >>= fun c => if (decide (c = (3 : Int))) = true then some (Node.mk 0 ⟨#[]⟩ [] [], 3, 0) else some (x.1, 0, 0)
def ku (t : List Token × Int × Int) (fr : Fr) (H : Hp) : Prop := (fr 1 = .fn 64 [(.rptr [.fn 33 []])] ∧ fr 4 = .ptr 0 0 0 ∧ fr 5 = .ptr 1 1 0 ∧ fr 6 = .ptr 2 2 0 ∧ fr 7 = .sl 4 false (t.1.map Token.cells)) ∧ H = ⟨3, rdO t.2.1 t.2.2⟩
theorem qld (s : BA) (t : List Token × Int × Int) (ht : uo s = some t) (x : Node × Int × Int) :
 Ok Tryz.prog G tt 32 0 (Jk (fun fr H => fr 16 = .bool (!decide (t.2.1 = (0 : Int))) ∧ ku t fr H) (rdR x)) (.go (qfa 0 [.str s, .fn 64 [(.rptr [.fn 33 []])]]) [.code rd0, .code rd1, .code rd2a] [] .z 0 []) := by
 refine kr [] ?_
 refine qn (W4 _ _ ht) ?_
 refine kr [] ?_
 exact qmt ⟨rfl, ⟨rfl, rfl, rfl, rfl, rfl⟩, rfl⟩
theorem qla (t : List Token × Int × Int) (x : Node × Int × Int) (hx : (!decide (t.2.1 = (0 : Int))) = true → x = (Node.mk 0 ⟨#[]⟩ [] [], t.2.1, t.2.2)) (fr : Fr) (H : Hp)
 (h : AWp Tryz.prog G 32 0 rd2a (Jk (fun fr H => fr 16 = .bool (!decide (t.2.1 = (0 : Int))) ∧ ku t fr H) (rdR x)) fr H) : AWp Tryz.prog G 32 0 rd2 (Jk (fun fr H => (!decide (t.2.1 = (0 : Int))) = false ∧ ku t fr H) (rdR x)) fr H := by
 rw [qw1]
 refine qjw (h.mono ?_)
 intro e fr H q
 cases e with
 | normal =>
   obtain ⟨hc, hk⟩ := (show _ ∧ _ from q)
   refine Qf (qd3 hc (fun hb => ?_) (fun hb => qjv (Qf ⟨hb, hk⟩)))
   obtain ⟨⟨g1, g4, g5, g6, g7⟩, rfl⟩ := hk
   cases hx hb
   refine (qcb (qke [(4, .ptr 0 0 0), (5, .ptr 1 1 0), (6, .ptr 2 2 0)] (by simp [g4, g5, g6])) (qno t.2.1 t.2.2)).mono ?_
   rintro e fr H ⟨rfl, q⟩
   exact q
 | _ => exact q
theorem qkn (l : List Token) (e : Int) (h : qb7 ⟨l, 0⟩ = some (.error e)) :
 Ok Tryz.prog G tt 32 3 (fun e' fr _ => e' = .panic (flt e) ∧ fr 4 = .ptr 0 0 0 ∧ fr 5 = .ptr 1 1 0 ∧ fr 6 = .ptr 2 2 0) (.go [(1, .fn 64 [(.rptr [.fn 33 []])]), (4, .ptr 0 0 0), (5, .ptr 1 1 0), (6, .ptr 2 2 0), (7, .sl 4 false (l.map Token.cells))] [.code rd4] [] .z 3 []) := by
 refine kr [] ?_
 exact qkt (FC.go (qpm _ _ h) [0] [3] rfl rfl rfl rfl rfl rfl) ⟨rfl, rfl, rfl, rfl⟩
theorem qkz (l : List Token) (e at_ : Int) (r : Node × Reader) (h : qb7 ⟨l, 0⟩ = some (.ok r)) (c : Int) (hc : yw r.1 = some c) (x : Node × Int × Int) (hx : (if (decide (c = (3 : Int))) = true then some (Node.mk 0 ⟨#[]⟩ [] [], 3, 0) else some (r.1, 0, 0)) = some x) :
 Ok Tryz.prog G tt 32 0 (rdR x) (.go [(1, .fn 64 [(.rptr [.fn 33 []])]), (4, .ptr 0 0 0), (5, .ptr 1 1 0), (6, .ptr 2 2 0), (7, .sl 4 false (l.map Token.cells))] [.code rd4] [] .z 3 (rdO e at_)) := by
 refine kr [] ?_
 refine qb (AC.g9 (qpm _ _ h) [3] [3]) ?_
 refine kr [] ?_
 refine qn (Zt _ _ hc) ?_
 refine kr [] ?_
 refine qf (fun hb => ?_) (fun hb => ?_)
 ·rw [if_pos hb] at hx
  cases hx
  refine kr [] ?_
  exact j8 env rfl rfl (qix _ _)
 rw [if_neg (by rw [hb]; decide)] at hx
 cases hx
 refine kr [] ?_
 exact j8 env rfl rfl (zk rfl)
theorem qk7 (s : BA) (x : Node × Int × Int) (h : Wn s = some x) : ACalls Tryz.prog G 22 [.str s, .fn 64 [(.rptr [.fn 33 []])]] ⟨0, []⟩ (rdX x) ⟨0, []⟩ := by
 obtain ⟨t, ht, h⟩ := bind_some h
 intro w S F β vs hH hv
 rw [show (callFunc 22 vs).run Tryz.prog w = .ok (.enter 22 vs) w by simp]
 show Calls Tryz.prog 22 vs w (qg8 w S F β x)
 refine calls_of_wp_defers Tryz.func22 qr6 ?_
 have hA := Y2 (N := 32) (by kernel_rfl) (qld s t ht x)
 rw [Km] at hA
 have hf := qdi (N := 32) hv (Nat.le_of_ble_eq_true rfl)
 have fin : ∀ (e : Exit) (fr' : Fr) (H' : Hp) (w' : World) (S' : Nat → Prop) (β' : Nat → Nat) (a' : Act), rdR x e fr' H' → Ext w S F β 0 w' S' β' 0 → HR G w' S' F β' H' → FRx [] w' S' β' H'.n 32 fr' a' → bodyPostD Tryz.prog Tryz.f22 (qg8 w S F β x) e a' w' := by
  intro e fr' H' w' S' β' a' q hx hH' hf'
  have hl := fun q => qef (x := x) q hx hH' hf' hH
  cases e <;> first
   | exact q.elim
   | (show Leaves _ _ _ _ a'.defers _ _; rw [hf'.defers]; exact hl q)
 refine Kv hA (Nat.zero_le _) hH hf (fun fr1 H1 w1 S1 β1 a1 q1 hx1 _ hH1 hf1 => ?_) (fun e fr' H' w' S' β' a' he q hx _ hH' hf' => fin e fr' H' w' S' β' a' (W6 he (qxp he q)) hx hH' hf')
 refine Kv q1 (Nat.zero_le _) hH1 hf1 (fun fr2 H2 w2 S2 β2 a2 q2 hx2 _ hH2 hf2 => ?_) (fun e fr' H' w' S' β' a' he q hx _ hH' hf' => fin e fr' H' w' S' β' a' (W6 he q) (hx1.trans hx) hH' hf')
 refine Kv (qla t x (fun hb => by rw [if_pos hb] at h; cases h; rfl) fr2 H2 q2) (Nat.zero_le _) hH2 hf2 (fun fr3 H3 w3 S3 β3 a3 q3 hx3 _ hH3 hf3 => ?_) (fun e fr' H' w' S' β' a' he q hx _ hH' hf' => fin e fr' H' w' S' β' a' q ((hx1.trans hx2).trans hx) hH' hf')
 obtain ⟨hb, ⟨g1, g4, g5, g6, g7⟩, rfl⟩ := (show _ ∧ _ ∧ _ from q3)
 have hx0 := (hx1.trans hx2).trans hx3
 rw [if_neg (by rw [hb]; decide)] at h
 obtain ⟨r, hr, h⟩ := bind_some h
 refine wp_seq ?_
 refine qee (u := 20) (f := 50) (cs := #[.tmp 4, .tmp 5, .tmp 6]) (by rw [hf3.size]; decide) ?_
 have e4 := qaj (g4 ▸ hf3.val 4)
 have e5 := qaj (g5 ▸ hf3.val 5)
 have e6 := qaj (g6 ▸ hf3.val 6)
 have hcs : (#[Operand.tmp 4, .tmp 5, .tmp 6] : Array Operand).map a3.eval = #[.pointer (some ⟨β3 0, 0, none⟩), .pointer (some ⟨β3 1, 0, none⟩), .pointer (some ⟨β3 2, 0, none⟩)] := by
  simp [Act.eval, e4, e5, e6]
 rw [hcs]
 have hf3' := hf3.put (d := some 20) rfl (RV.undef (w := w3) (S := S3) (β := β3) (n := 3) (.func (.func 50) #[] #[.pointer (some ⟨β3 0, 0, none⟩), .pointer (some ⟨β3 1, 0, none⟩), .pointer (some ⟨β3 2, 0, none⟩)]))
 have hq := hf3'.some [(1, .fn 64 [(.rptr [.fn 33 []])]), (4, .ptr 0 0 0), (5, .ptr 1 1 0), (6, .ptr 2 2 0), (7, .sl 4 false (t.1.map Token.cells))] (by simp [Qg, g1, g4, g5, g6, g7])
 generalize hd : a3.defers = d3 at *
 have hd3 : d3 = [] := by rw [← hd]; exact hf3.defers
 subst hd3
 have hf4 := FRx.of (a := ⟨a3.tmps.setIfInBounds 20 (.func (.func 50) #[] #[.pointer (some ⟨β3 0, 0, none⟩), .pointer (some ⟨β3 1, 0, none⟩), .pointer (some ⟨β3 2, 0, none⟩)]), [{ target := .fn (.func 50) #[.pointer (some ⟨β3 0, 0, none⟩), .pointer (some ⟨β3 1, 0, none⟩), .pointer (some ⟨β3 2, 0, none⟩)], args := #[] }]⟩) _ hf3'.size rfl hq
 show rd4.wp _ _ _ _
 cases r with
 | error e =>
   cases h
   have hB := Y2 (N := 32) (by kernel_rfl) (qkn t.1 e hr)
   refine wp_mono (hB _ w3 S3 _ β3 _ (Nat.le_refl _) hH3.hide hf4) ?_
   rintro e' a' w' ⟨fr', H', S', β', ⟨rfl, k4, k5, k6⟩, hx, hp, hH', hf'⟩
   obtain ⟨hx', hH''⟩ := hH3.unhide hx hH'.lts
   show Leaves _ _ _ _ a'.defers _ _
   rw [hf'.defers]
   refine leaves_cons (f := 50) (args := #[.pointer (some ⟨β3 0, 0, none⟩), .pointer (some ⟨β3 1, 0, none⟩), .pointer (some ⟨β3 2, 0, none⟩)]) (by simp) (by simp [go_sem]) ?_
   have hc := qht e t.2.2 (show HR G w' S' F β' ⟨3, rdO 0 t.2.2⟩ by
    have h0 : t.2.1 = 0 := by simpa using hb
    rw [← h0]; exact hH'')
   rw [hx'.beta 0 (show 0 < 3 by decide), hx'.beta 1 (show 1 < 3 by decide), hx'.beta 2 (show 2 < 3 by decide)] at hc
   refine hc.mono ?_
   rintro r u' w'' ⟨⟨v, rfl⟩, hs, S'', β'', hx'', hH3''⟩
   show Leaves _ _ _ _ [] (settle u') w''
   rw [hs]
   refine qef (D := a'.defers) (a := a') (qj8 e) (hx0.trans ((hx'.trans hx'').lower (Nat.zero_le _))) hH3'' (FRx.of _ hf'.size rfl ?_) hH
   intro q hm
   simp only [List.mem_cons, List.not_mem_nil, or_false] at hm
   have hv : ∀ (i s : Nat) (t : Nat), s < 3 → fr' t = .ptr i s 0 → RV w'' S'' β'' 3 (.ptr i s 0) (a'.tmps.getD t Go.undef) := fun i s t hs3 ht => by
    have h1 := hf'.val t
    rw [ht] at h1
    rw [qaj h1, ← hx''.beta s hs3]
    exact .ptr i s 0 hs3
   rcases hm with rfl | rfl | rfl
   ·exact hv _ _ _ (by decide) k4
   ·exact hv _ _ _ (by decide) k5
   exact hv _ _ _ (by decide) k6
 | ok r =>
   obtain ⟨c, hc, h⟩ := bind_some h
   have hB := Y2 (N := 32) (by kernel_rfl) (qkz t.1 t.2.1 t.2.2 r hr c hc x h)
   refine wp_mono (hB _ w3 S3 F β3 _ (Nat.zero_le _) hH3 hf4) ?_
   rintro e' a' w' ⟨fr', H', S', β', q, hx, hp, hH', hf'⟩
   have hl : rdR x .normal fr' H' → Leaves Tryz.prog Tryz.f22 a'.tmps (qg8 w S F β x) a'.defers .returning w' := fun q => by
    rw [hf'.defers]
    refine leaves_cons (f := 50) (args := #[.pointer (some ⟨β3 0, 0, none⟩), .pointer (some ⟨β3 1, 0, none⟩), .pointer (some ⟨β3 2, 0, none⟩)]) (by simp) (by simp [go_sem]) ?_
    refine (qnk _ _ _ w').mono ?_
    rintro r u' w'' ⟨⟨v, rfl⟩, rfl, rfl⟩
    exact qef q (hx0.trans hx) hH' hf' hH
   cases e' <;> first
    | exact q.elim
    | exact hl q
theorem qk2 : PC1 (fun (s : BA) (x : Node × Int × Int) => AC Tryz.prog G 22 [.str s, .fn 64 [(.rptr [.fn 33 []])]] 0 [] (.tup [.agg (zp x.1), .int .i64 x.2.1, .int .i64 x.2.2]) 0 []) Wn := fun s x h => AC.plain (qk7 s x h) rfl rfl
def vn (a0 : BA) : Option (Node × Int × Int) :=
 Wn a0 >>= fun x1 =>
 some (x1.1, x1.2.1, x1.2.2)
@[reducible] def qao (a0 : BA) (r : Node × Int × Int) : Prop :=
  Fn Tryz.prog G 29 [(.str a0), (.fn 33 [])] (.tup [(.agg (zp r.1)), (.int .i64 r.2.1), (.int .i64 r.2.2)])
theorem qaw : PC1 qao vn := fun a0 r h => by
 rw [vn.eq_def] at h
 refine jk (T := tt) (N := 13) (rs := [.cell 4 26, .tmp 5, .tmp 6]) (fun vs w => by simp) Tryz.func29 rfl rfl rfl rfl (by kernel_rfl) (ko rfl) (jn _ rfl) ?_
 refine kr [2000000] ?_
 refine qo6 [(3, (.rptr [(.fn 33 [])]))] [0] rfl (qq6 rfl rfl rfl rfl qvk) rfl rfl ?_
 refine qg1 ?_
 refine kr [2000000] ?_
 obtain ⟨x1, hx, h⟩ := bind_some h
 refine qb (AC.g9 (qk2 _ _ hx) [] []) ?_
 refine kr [2000000] ?_
 cases h
 exact kf
def Jq (a0 : BA) : Option (Node × Int × Int) :=
 vn a0 >>= fun x1 =>
 some (x1.1, x1.2.1, x1.2.2)
@[reducible] def qpb (a0 : BA) (r : Node × Int × Int) : Prop :=
  Fn Tryz.prog G 14 [(.str a0)] (.tup [(.agg (zp r.1)), (.int .i64 r.2.1), (.int .i64 r.2.2)])
theorem qb0 : PC1 qpb Jq := fun a0 r h => by
 rw [Jq.eq_def] at h
 refine jk (T := tt) (N := 10) (rs := [.cell 2 26, .tmp 3, .tmp 4]) (fun vs w => by simp) Tryz.func14 rfl rfl rfl rfl (by kernel_rfl) (ko rfl) (jn _ rfl) ?_
 refine kr [] ?_
 obtain ⟨x1, hx, h⟩ := bind_some h
 refine qn (qaw _ _ hx) ?_
 refine kr [] ?_
 cases h
 exact kf
def Jv  : Option Bool :=
 Js (⟨#[97, 32, 45, 32, 98, 32, 42, 32, 50, 32, 45, 32, 99]⟩ : BA) >>= fun x1 =>
 if (!decide (x1.2.1 = (0 : Int))) = true then
  some false
 else
  if (!decide (x1.2.2 = (0 : Int))) = true then
   some false
  else
   if (!decide (x1.1.kind = (24 : Int))) = true then
    some false
   else
    if (!decide (x1.1.text = (⟨#[45]⟩ : BA))) = true then
     some false
    else
     if (!decide (((x1.1.gaps.map sc).length : Int) = (1 : Int))) = true then
      some false
     else
      ix x1.1.gaps (0 : Int) >>= fun x2 =>
      if (!decide (x2 = (⟨#[32]⟩ : BA))) = true then
       some false
      else
       if (!decide (((x1.1.kids.map Node.cells).length : Int) = (2 : Int))) = true then
        some false
       else
        ix x1.1.kids (0 : Int) >>= fun x3 =>
        if (!decide (x3.kind = (24 : Int))) = true then
         some false
        else
         ix x1.1.kids (0 : Int) >>= fun x4 =>
         if (!decide (((x4.kids.map Node.cells).length : Int) = (2 : Int))) = true then
          some false
         else
          ix x1.1.kids (1 : Int) >>= fun x5 =>
          if (!decide (x5.text = (⟨#[99]⟩ : BA))) = true then
           some false
          else
           Jq (⟨#[120, 32, 61, 32, 121, 59]⟩ : BA) >>= fun x6 =>
           Jq (⟨#[105, 102, 32, 97]⟩ : BA) >>= fun x7 =>
           Js (⟨#[97, 32, 60, 32, 98, 32, 60, 32, 99]⟩ : BA) >>= fun x8 =>
           Jr (⟨#[102, 110, 32, 102, 40, 41, 32, 105, 110, 116, 32, 123, 32, 114, 101, 116, 117, 114, 110, 32, 49, 59, 32, 125]⟩ : BA) >>= fun x9 =>
           Jr (⟨#[102, 110, 32, 102, 40, 41, 32, 105, 110, 116, 32, 123, 32, 114, 101, 116, 117, 114, 110, 32, 49, 32, 125]⟩ : BA) >>= fun x10 =>
           if (decide (x6.2.1 = (0 : Int))) = true then
            if (decide (x6.1.kind = (11 : Int))) = true then
             if (decide (x7.2.1 = (1 : Int))) = true then
              if (decide (x7.2.2 = (4 : Int))) = true then
               if (decide (x8.2.1 = (1 : Int))) = true then
                if (decide (x8.2.2 = (6 : Int))) = true then
                 if (decide (x9.2.1 = (0 : Int))) = true then
                  if (decide (((x9.1.kids.map Node.cells).length : Int) = (1 : Int))) = true then
                   ix x9.1.kids (0 : Int) >>= fun x11 =>
                   if (decide (x11.text = (⟨#[102]⟩ : BA))) = true then
                    if (decide (x10.2.1 = (1 : Int))) = true then
                     some (decide (x10.2.2 = (22 : Int)))
                    else
                     some false
                   else
                    some false
                  else
                   some false
                 else
                  some false
                else
                 some false
               else
                some false
              else
               some false
             else
              some false
            else
             some false
           else
            some false
@[reducible] def qtj  (r : Bool) : Prop :=
  Fn Tryz.prog G 8 [] (.bool r)
theorem Wk : PC0 qtj Jv := fun  r h => by
 rw [Jv.eq_def] at h
 refine jk (T := tt) (N := 158) (rs := [.tmp 0]) (fun vs w => by simp) Tryz.func8 rfl rfl rfl rfl (by kernel_rfl) (ko rfl) (jn _ rfl) ?_
 refine kr [] ?_
 obtain ⟨x1, hx, h⟩ := bind_some h
 refine qn (qb3 _ _ hx) ?_
 refine kr [] ?_
 refine qy (fun hb => ?_) (fun hb => ?_)
 ·replace h := qx hb h
  refine kr [] ?_
  refine qy (fun hb => ?_) (fun hb => ?_)
  ·replace h := qx hb h
   refine kr [] ?_
   refine qy (fun hb => ?_) (fun hb => ?_)
   ·replace h := qx hb h
    refine kr [] ?_
    refine qy (fun hb => ?_) (fun hb => ?_)
    ·replace h := qx hb h
     refine kr [] ?_
     refine qy (fun hb => ?_) (fun hb => ?_)
     ·replace h := qx hb h
      refine kr [] ?_
      obtain ⟨x2, hx, h⟩ := bind_some h
      refine Kf env hx rfl rfl rfl rfl rfl ?_
      refine kr [] ?_
      refine qy (fun hb => ?_) (fun hb => ?_)
      ·replace h := qx hb h
       refine kr [] ?_
       refine qy (fun hb => ?_) (fun hb => ?_)
       ·replace h := qx hb h
        refine kr [] ?_
        obtain ⟨x3, hx, h⟩ := bind_some h
        refine Kf env hx rfl rfl rfl rfl (Node.cells_eq x3) ?_
        refine kr [] ?_
        refine qy (fun hb => ?_) (fun hb => ?_)
        ·replace h := qx hb h
         refine kr [] ?_
         obtain ⟨x4, hx, h⟩ := bind_some h
         refine Kf env hx rfl rfl rfl rfl (Node.cells_eq x4) ?_
         refine kr [] ?_
         refine qy (fun hb => ?_) (fun hb => ?_)
         ·replace h := qx hb h
          refine kr [] ?_
          obtain ⟨x5, hx, h⟩ := bind_some h
          refine Kf env hx rfl rfl rfl rfl (Node.cells_eq x5) ?_
          refine kr [] ?_
          refine qf (fun hb => ?_) (fun hb => ?_)
          ·replace h := qw hb h
           refine kr [] ?_
           cases h
           exact kf
          replace h := qx hb h
          refine kr [] ?_
          obtain ⟨x6, hx, h⟩ := bind_some h
          refine qn (qb0 _ _ hx) ?_
          refine kr [] ?_
          obtain ⟨x7, hx, h⟩ := bind_some h
          refine qn (qb0 _ _ hx) ?_
          refine kr [] ?_
          obtain ⟨x8, hx, h⟩ := bind_some h
          refine qn (qb3 _ _ hx) ?_
          refine kr [] ?_
          obtain ⟨x9, hx, h⟩ := bind_some h
          refine qn (qb1 _ _ hx) ?_
          refine kr [] ?_
          obtain ⟨x10, hx, h⟩ := bind_some h
          refine qn (qb1 _ _ hx) ?_
          refine kr [] ?_
          refine qv (fun hb => ?_) (fun hb => ?_)
          ·replace h := qw hb h
           refine kr [] ?_
           refine qv (fun hb => ?_) (fun hb => ?_)
           ·replace h := qw hb h
            refine kr [] ?_
            refine qv (fun hb => ?_) (fun hb => ?_)
            ·replace h := qw hb h
             refine kr [] ?_
             refine qv (fun hb => ?_) (fun hb => ?_)
             ·replace h := qw hb h
              refine kr [] ?_
              refine qv (fun hb => ?_) (fun hb => ?_)
              ·replace h := qw hb h
               refine kr [] ?_
               refine qv (fun hb => ?_) (fun hb => ?_)
               ·replace h := qw hb h
                refine kr [] ?_
                refine qv (fun hb => ?_) (fun hb => ?_)
                ·replace h := qw hb h
                 refine kr [] ?_
                 refine qv (fun hb => ?_) (fun hb => ?_)
                 ·replace h := qw hb h
                  refine kr [] ?_
                  obtain ⟨x11, hx, h⟩ := bind_some h
                  refine Kf env hx rfl rfl rfl rfl (Node.cells_eq x11) ?_
                  refine kr [] ?_
                  refine qv (fun hb => ?_) (fun hb => ?_)
                  ·replace h := qw hb h
                   refine kr [] ?_
                   refine qv (fun hb => ?_) (fun hb => ?_)
                   ·replace h := qw hb h
                    refine kr [] ?_
                    cases h
                    exact kf
                   replace h := qx hb h
                   refine kr [] ?_
                   cases h
                   exact kf
                  replace h := qx hb h
                  refine kr [] ?_
                  cases h
                  exact kf
                 replace h := qx hb h
                 refine kr [] ?_
                 cases h
                 exact kf
                replace h := qx hb h
                refine kr [] ?_
                cases h
                exact kf
               replace h := qx hb h
               refine kr [] ?_
               cases h
               exact kf
              replace h := qx hb h
              refine kr [] ?_
              cases h
              exact kf
             replace h := qx hb h
             refine kr [] ?_
             cases h
             exact kf
            replace h := qx hb h
            refine kr [] ?_
            cases h
            exact kf
           replace h := qx hb h
           refine kr [] ?_
           cases h
           exact kf
          replace h := qx hb h
          refine kr [] ?_
          cases h
          exact kf
         replace h := qw hb h
         refine kr [] ?_
         cases h
         exact kf
        replace h := qw hb h
        refine kr [] ?_
        cases h
        exact kf
       replace h := qw hb h
       refine kr [] ?_
       cases h
       exact kf
      replace h := qw hb h
      refine kr [] ?_
      cases h
      exact kf
     replace h := qw hb h
     refine kr [] ?_
     cases h
     exact kf
    replace h := qw hb h
    refine kr [] ?_
    cases h
    exact kf
   replace h := qw hb h
   refine kr [] ?_
   cases h
   exact kf
  replace h := qw hb h
  refine kr [] ?_
  cases h
  exact kf
 replace h := qw hb h
 refine kr [] ?_
 cases h
 exact kf
end Go.Proofs.YtigmilhpeodhbaaGreatDoorW.Ex.Gr
