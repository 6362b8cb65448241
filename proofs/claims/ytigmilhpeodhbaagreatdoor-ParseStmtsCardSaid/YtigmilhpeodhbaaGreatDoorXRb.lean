/- The functions of the program's layer 9 and of its references, printed as functions on numbers, strings, lists and trees, with the proofs that they are what the code computes. Conditions: those in each theorem. -/
import Derived.Test.YtigmilhpeodhbaaGreatDoorXRa
namespace Go.Proofs.YtigmilhpeodhbaaGreatDoorW.Ex.Gr
open Go Go.Proofs.YtigmilhpeodhbaaGreatDoorW.Ex
set_option linter.all false
set_option maxRecDepth 100000
set_option synthInstance.maxSize 4000
set_option maxHeartbeats 4000000
open Go.Proofs.YtigmilhpeodhbaaGreatDoorW.Plain
@[reducible] def qo0 (o0 : Reader) (o2 : Node) (r : Except Int (Node × Reader)) : Prop :=
  Ok Tryz.prog G tt 21 1 (exq (fun (r : Node × Reader) => Ret Tryz.prog [.cell 3 26] (fun y H => vu Tryz.prog G 1 H y (.agg (zf r.1)) ⟨1, [(0, .var 77 (Reader.cells r.2))]⟩)) (fun e => Jm (flt e)) r) (.go [] (Qh [17] Tryz.f64 17) [] (.n .undef (.n .undef (.n (.ptr 1 1 0) .z .z) .z) (.n .undef (.n (.ptr 2 2 0) .z .z) .z)) 3 [(0, .var 77 (Reader.cells o0)), (1, .var 26 [(.int .i64 0), (.str ⟨#[]⟩), (.sl 0 true []), (.sl 0 true [])]), (2, .var 26 (zf o2))])
theorem qcp : PC2 qo0 qae := fun o0 o2 r h => by
 rw [qae.eq_def] at h
 refine kr [17] ?_
 cases h
 exact jl env rfl rfl (tS [some 0] (sV (lS (lS lN)) zx) (yv (jr (qk (qd (qi rfl) rfl) (qk (qd (q6 rfl) rfl) (qk (qd (qv (.inl rfl)) rfl) (qk (qd (qv (.inl rfl)) rfl) jp))))) (by simp)))
def qcy (a0 : Reader) : Option (Except Int (Node × Reader)) :=
 Kd a0 >>= fun x1 =>
 match x1 with
 | .error ee => some (.error ee)
 | .ok x1 =>
 zy x1.2 >>= fun x2 =>
 if (!decide (x2.Kind = (4 : Int))) = true then
  jt x1.2 >>= fun x5 =>
  match x5 with
  | .error ee => some (.error ee)
  | .ok x5 =>
  qae x1.2 x1.1
 else
  zy x1.2 >>= fun x3 =>
  if (!decide (x3.Lead = (⟨#[]⟩ : BA))) = true then
   jt x1.2 >>= fun x4 =>
   match x4 with
   | .error ee => some (.error ee)
   | .ok x4 =>
   qae x1.2 x1.1
  else
   qae x1.2 x1.1
@[reducible] def qwq (a0 : Reader) (r : Except Int (Node × Reader)) : Prop :=
  exq (fun (r : Node × Reader) => AC Tryz.prog G 64 [(.ptr 0 0 0), (.rptr [(.fn 30 [])])] 1 [(0, .var 77 (Reader.cells a0))] (.agg (zf r.1)) 1 [(0, .var 77 (Reader.cells r.2))]) (fun e => FC Tryz.prog G 64 [(.ptr 0 0 0), (.rptr [(.fn 30 [])])] 1 [(0, .var 77 (Reader.cells a0))] (flt e)) r
theorem qo9 : PC1 qwq qcy := fun a0 r h => by
 rw [qcy.eq_def] at h
 refine Yb (T := tt) (N := 21) (rs := [.cell 3 26]) (fun vs w => by simp) Tryz.func64 rfl rfl rfl (by kernel_rfl) (by kernel_rfl) (k7 rfl rfl y3) (jf z7) (fun r => (kz rfl y0)) (fun r => (jf z7)) (fun _ => rfl) (fun _ => rfl) rfl (fun _ => rfl) ?_
 refine kr [17] ?_
 obtain ⟨x1, hx, h⟩ := bind_some h
 rcases x1 with ee | x1
 ·replace h : some (.error ee) = some r := h
  cases h
  exact zn (FC.go (qcm _ _ hx) [0] [0] rfl rfl rfl rfl rfl rfl)
 refine qn (AC.g9 (qcm _ _ hx) [0] [0]) ?_
 refine kr [17] ?_
 obtain ⟨x2, hx, h⟩ := bind_some h
 refine qn (AC.g9 (je _ _ hx) [0] [0]) ?_
 refine kr [17] ?_
 refine qu (fun hb => ?_) (fun hb => ?_)
 ·replace h := qy hb h
  refine kr [17] ?_
  obtain ⟨x3, hx, h⟩ := bind_some h
  refine qn (AC.g9 (je _ _ hx) [0] [0]) ?_
  refine kr [17] ?_
  refine qj (fun hb => ?_) (fun hb => ?_)
  ·replace h := qx hb h
   refine kr [17] ?_
   obtain ⟨x4, hx, h⟩ := bind_some h
   rcases x4 with ee | x4
   ·replace h : some (.error ee) = some r := h
    cases h
    exact zn (FC.go (ja _ _ hx) [0] [0] rfl rfl rfl rfl rfl rfl)
   refine qn (AC.g9 (ja _ _ hx) [0] [0]) ?_
   refine kr [17] ?_
   exact zb (by kernel_rfl) rfl lQ (qcp _ _ _ h)
  ·replace h := qy hb h
   refine kr [17] ?_
   exact zb (by kernel_rfl) rfl lQ (qcp _ _ _ h)
 ·replace h := qx hb h
  refine kr [17] ?_
  obtain ⟨x5, hx, h⟩ := bind_some h
  rcases x5 with ee | x5
  ·replace h : some (.error ee) = some r := h
   cases h
   exact zn (FC.go (ja _ _ hx) [0] [0] rfl rfl rfl rfl rfl rfl)
  refine qn (AC.g9 (ja _ _ hx) [0] [0]) ?_
  refine kr [17] ?_
  exact zb (by kernel_rfl) rfl lQ (qcp _ _ _ h)
/-- What read returns. -/
def qab (s : BA) : Option (Node × Int × Int) :=
 uj s >>= fun t =>
 if (!decide (t.2.1 = (0 : Int))) = true then some (Node.mk 0 ⟨#[]⟩ [] [], t.2.1, t.2.2)
 else qcy ⟨t.1, 0⟩ >>= fun x => match x with
  | .error e => some (Node.mk 0 ⟨#[]⟩ [] [], 1, e)
  | .ok x => w8 x.1 >>= fun c => if (decide (c = (3 : Int))) = true then some (Node.mk 0 ⟨#[]⟩ [] [], 3, 0) else some (x.1, 0, 0)
/-- The code ahead of the deferred call. -/
def kw (t : List Token × Int × Int) (fr : Fr) (H : Hp) : Prop := (fr 1 = .fn 64 [(.rptr [.fn 30 []])] ∧ fr 4 = .ptr 0 0 0 ∧ fr 5 = .ptr 1 1 0 ∧ fr 6 = .ptr 2 2 0 ∧ fr 7 = .sl 4 false (t.1.map Token.cells)) ∧ H = ⟨3, rdO t.2.1 t.2.2⟩
theorem qlf (s : BA) (t : List Token × Int × Int) (ht : uj s = some t) (x : Node × Int × Int) :
 Ok Tryz.prog G tt 32 0 (Jp (fun fr H => fr 16 = .bool (!decide (t.2.1 = (0 : Int))) ∧ kw t fr H) (rdR x)) (.go (qfq 0 [.str s, .fn 64 [(.rptr [.fn 30 []])]]) [.code rd0, .code rd1, .code rd2a] [] .z 0 []) := by
 refine kr [] ?_
 refine ql (qav _ _ ht) ?_
 refine kr [] ?_
 exact qmq ⟨rfl, ⟨rfl, rfl, rfl, rfl, rfl⟩, rfl⟩
theorem qlc (t : List Token × Int × Int) (x : Node × Int × Int) (hx : (!decide (t.2.1 = (0 : Int))) = true → x = (Node.mk 0 ⟨#[]⟩ [] [], t.2.1, t.2.2)) (fr : Fr) (H : Hp)
 (h : AWp Tryz.prog G 32 0 rd2a (Jp (fun fr H => fr 16 = .bool (!decide (t.2.1 = (0 : Int))) ∧ kw t fr H) (rdR x)) fr H) : AWp Tryz.prog G 32 0 rd2 (Jp (fun fr H => (!decide (t.2.1 = (0 : Int))) = false ∧ kw t fr H) (rdR x)) fr H := by
 rw [qvz]
 refine qkd (h.mono ?_)
 intro e fr H q
 cases e with
 | normal =>
   obtain ⟨hc, hk⟩ := (show _ ∧ _ from q)
   refine Qg (qet hc (fun hb => ?_) (fun hb => qkc (Qg ⟨hb, hk⟩)))
   obtain ⟨⟨g1, g4, g5, g6, g7⟩, rfl⟩ := hk
   cases hx hb
   refine (qc0 (qkm [(4, .ptr 0 0 0), (5, .ptr 1 1 0), (6, .ptr 2 2 0)] (by simp [g4, g5, g6])) (qnl t.2.1 t.2.2)).mono ?_
   rintro e fr H ⟨rfl, q⟩
   exact q
 | _ => exact q
theorem qks (l : List Token) (e : Int) (h : qcy ⟨l, 0⟩ = some (.error e)) :
 Ok Tryz.prog G tt 32 3 (fun e' fr _ => e' = .panic (flt e) ∧ fr 4 = .ptr 0 0 0 ∧ fr 5 = .ptr 1 1 0 ∧ fr 6 = .ptr 2 2 0) (.go [(1, .fn 64 [(.rptr [.fn 30 []])]), (4, .ptr 0 0 0), (5, .ptr 1 1 0), (6, .ptr 2 2 0), (7, .sl 4 false (l.map Token.cells))] [.code rd4] [] .z 3 []) := by
 refine kr [] ?_
 exact qku (FC.go (qo9 _ _ h) [0] [3] rfl rfl rfl rfl rfl rfl) ⟨rfl, rfl, rfl, rfl⟩
theorem qk2 (l : List Token) (e at_ : Int) (r : Node × Reader) (h : qcy ⟨l, 0⟩ = some (.ok r)) (c : Int) (hc : w8 r.1 = some c) (x : Node × Int × Int) (hx : (if (decide (c = (3 : Int))) = true then some (Node.mk 0 ⟨#[]⟩ [] [], 3, 0) else some (r.1, 0, 0)) = some x) :
 Ok Tryz.prog G tt 32 0 (rdR x) (.go [(1, .fn 64 [(.rptr [.fn 30 []])]), (4, .ptr 0 0 0), (5, .ptr 1 1 0), (6, .ptr 2 2 0), (7, .sl 4 false (l.map Token.cells))] [.code rd4] [] .z 3 (rdO e at_)) := by
 refine kr [] ?_
 refine qn (AC.g9 (qo9 _ _ h) [3] [3]) ?_
 refine kr [] ?_
 refine ql (W2 _ _ hc) ?_
 refine kr [] ?_
 refine qj (fun hb => ?_) (fun hb => ?_)
 ·rw [if_pos hb] at hx
  cases hx
  refine kr [] ?_
  exact jl env rfl rfl (qja _ _)
 ·rw [if_neg (by rw [hb]; decide)] at hx
  cases hx
  refine kr [] ?_
  exact jl env rfl rfl (q4 rfl)
theorem qk9 (s : BA) (x : Node × Int × Int) (h : qab s = some x) : ACalls Tryz.prog G 22 [.str s, .fn 64 [(.rptr [.fn 30 []])]] ⟨0, []⟩ (rdX x) ⟨0, []⟩ := by
 obtain ⟨t, ht, h⟩ := bind_some h
 intro w S F β vs hH hv
 rw [show (callFunc 22 vs).run Tryz.prog w = .ok (.enter 22 vs) w by simp]
 show Calls Tryz.prog 22 vs w (qhr w S F β x)
 refine calls_of_wp_defers Tryz.func22 qrk ?_
 have hA := Kl (N := 32) (by kernel_rfl) (qlf s t ht x)
 rw [Wd] at hA
 have hf := qd7 (N := 32) hv (Nat.le_of_ble_eq_true rfl)
 have fin : ∀ (e : Exit) (fr' : Fr) (H' : Hp) (w' : World) (S' : Nat → Prop) (β' : Nat → Nat) (a' : Act), rdR x e fr' H' → Ext w S F β 0 w' S' β' 0 → HR G w' S' F β' H' → FRx [] w' S' β' H'.n 32 fr' a' → bodyPostD Tryz.prog Tryz.f22 (qhr w S F β x) e a' w' := by
  intro e fr' H' w' S' β' a' q hx hH' hf'
  have hl := fun q => qe0 (x := x) q hx hH' hf' hH
  cases e <;> first
   | exact q.elim
   | (show Leaves _ _ _ _ a'.defers _ _; rw [hf'.defers]; exact hl q)
 refine Wj hA (Nat.zero_le _) hH hf (fun fr1 H1 w1 S1 β1 a1 q1 hx1 _ hH1 hf1 => ?_) (fun e fr' H' w' S' β' a' he q hx _ hH' hf' => fin e fr' H' w' S' β' a' (qa0 he (qwk he q)) hx hH' hf')
 refine Wj q1 (Nat.zero_le _) hH1 hf1 (fun fr2 H2 w2 S2 β2 a2 q2 hx2 _ hH2 hf2 => ?_) (fun e fr' H' w' S' β' a' he q hx _ hH' hf' => fin e fr' H' w' S' β' a' (qa0 he q) (hx1.trans hx) hH' hf')
 refine Wj (qlc t x (fun hb => by rw [if_pos hb] at h; cases h; rfl) fr2 H2 q2) (Nat.zero_le _) hH2 hf2 (fun fr3 H3 w3 S3 β3 a3 q3 hx3 _ hH3 hf3 => ?_) (fun e fr' H' w' S' β' a' he q hx _ hH' hf' => fin e fr' H' w' S' β' a' q ((hx1.trans hx2).trans hx) hH' hf')
 obtain ⟨hb, ⟨g1, g4, g5, g6, g7⟩, rfl⟩ := (show _ ∧ _ ∧ _ from q3)
 have hx0 := (hx1.trans hx2).trans hx3
 rw [if_neg (by rw [hb]; decide)] at h
 obtain ⟨r, hr, h⟩ := bind_some h
 refine wp_seq ?_
 refine qez (u := 20) (f := 50) (cs := #[.tmp 4, .tmp 5, .tmp 6]) (by rw [hf3.size]; decide) ?_
 have e4 := qbf (g4 ▸ hf3.val 4)
 have e5 := qbf (g5 ▸ hf3.val 5)
 have e6 := qbf (g6 ▸ hf3.val 6)
 have hcs : (#[Operand.tmp 4, .tmp 5, .tmp 6] : Array Operand).map a3.eval = #[.pointer (some ⟨β3 0, 0, none⟩), .pointer (some ⟨β3 1, 0, none⟩), .pointer (some ⟨β3 2, 0, none⟩)] := by
  simp [Act.eval, e4, e5, e6]
 rw [hcs]
 have hf3' := hf3.put (d := some 20) rfl (RV.undef (w := w3) (S := S3) (β := β3) (n := 3) (.func (.func 50) #[] #[.pointer (some ⟨β3 0, 0, none⟩), .pointer (some ⟨β3 1, 0, none⟩), .pointer (some ⟨β3 2, 0, none⟩)]))
 have hq := hf3'.some [(1, .fn 64 [(.rptr [.fn 30 []])]), (4, .ptr 0 0 0), (5, .ptr 1 1 0), (6, .ptr 2 2 0), (7, .sl 4 false (t.1.map Token.cells))] (by simp [Qi, g1, g4, g5, g6, g7])
 generalize hd : a3.defers = d3 at *
 have hd3 : d3 = [] := by rw [← hd]; exact hf3.defers
 subst hd3
 have hf4 := FRx.of (a := ⟨a3.tmps.setIfInBounds 20 (.func (.func 50) #[] #[.pointer (some ⟨β3 0, 0, none⟩), .pointer (some ⟨β3 1, 0, none⟩), .pointer (some ⟨β3 2, 0, none⟩)]), [{ target := .fn (.func 50) #[.pointer (some ⟨β3 0, 0, none⟩), .pointer (some ⟨β3 1, 0, none⟩), .pointer (some ⟨β3 2, 0, none⟩)], args := #[] }]⟩) _ hf3'.size rfl hq
 show rd4.wp _ _ _ _
 cases r with
 | error e =>
   cases h
   have hB := Kl (N := 32) (by kernel_rfl) (qks t.1 e hr)
   refine wp_mono (hB _ w3 S3 _ β3 _ (Nat.le_refl _) hH3.hide hf4) ?_
   rintro e' a' w' ⟨fr', H', S', β', ⟨rfl, k4, k5, k6⟩, hx, hp, hH', hf'⟩
   obtain ⟨hx', hH''⟩ := hH3.unhide hx hH'.lts
   show Leaves _ _ _ _ a'.defers _ _
   rw [hf'.defers]
   refine leaves_cons (f := 50) (args := #[.pointer (some ⟨β3 0, 0, none⟩), .pointer (some ⟨β3 1, 0, none⟩), .pointer (some ⟨β3 2, 0, none⟩)]) (by simp) (by simp [go_sem]) ?_
   have hc := qh7 e t.2.2 (show HR G w' S' F β' ⟨3, rdO 0 t.2.2⟩ by
    have h0 : t.2.1 = 0 := by simpa using hb
    rw [← h0]; exact hH'')
   rw [hx'.beta 0 (show 0 < 3 by decide), hx'.beta 1 (show 1 < 3 by decide), hx'.beta 2 (show 2 < 3 by decide)] at hc
   refine hc.mono ?_
   rintro r u' w'' ⟨⟨v, rfl⟩, hs, S'', β'', hx'', hH3''⟩
   show Leaves _ _ _ _ [] (settle u') w''
   rw [hs]
   refine qe0 (D := a'.defers) (a := a') (qkj e) (hx0.trans ((hx'.trans hx'').lower (Nat.zero_le _))) hH3'' (FRx.of _ hf'.size rfl ?_) hH
   intro q hm
   simp only [List.mem_cons, List.not_mem_nil, or_false] at hm
   have hv : ∀ (i s : Nat) (t : Nat), s < 3 → fr' t = .ptr i s 0 → RV w'' S'' β'' 3 (.ptr i s 0) (a'.tmps.getD t Go.undef) := fun i s t hs3 ht => by
    have h1 := hf'.val t
    rw [ht] at h1
    rw [qbf h1, ← hx''.beta s hs3]
    exact .ptr i s 0 hs3
   rcases hm with rfl | rfl | rfl
   ·exact hv _ _ _ (by decide) k4
   ·exact hv _ _ _ (by decide) k5
   ·exact hv _ _ _ (by decide) k6
 | ok r =>
   obtain ⟨c, hc, h⟩ := bind_some h
   have hB := Kl (N := 32) (by kernel_rfl) (qk2 t.1 t.2.1 t.2.2 r hr c hc x h)
   refine wp_mono (hB _ w3 S3 F β3 _ (Nat.zero_le _) hH3 hf4) ?_
   rintro e' a' w' ⟨fr', H', S', β', q, hx, hp, hH', hf'⟩
   have hl : rdR x .normal fr' H' → Leaves Tryz.prog Tryz.f22 a'.tmps (qhr w S F β x) a'.defers .returning w' := fun q => by
    rw [hf'.defers]
    refine leaves_cons (f := 50) (args := #[.pointer (some ⟨β3 0, 0, none⟩), .pointer (some ⟨β3 1, 0, none⟩), .pointer (some ⟨β3 2, 0, none⟩)]) (by simp) (by simp [go_sem]) ?_
    refine (qni _ _ _ w').mono ?_
    rintro r u' w'' ⟨⟨v, rfl⟩, rfl, rfl⟩
    exact qe0 q (hx0.trans hx) hH' hf' hH
   cases e' <;> first
    | exact q.elim
    | exact hl q
theorem qk5 : PC1 (fun (s : BA) (x : Node × Int × Int) => AC Tryz.prog G 22 [.str s, .fn 64 [(.rptr [.fn 30 []])]] 0 [] (.tup [.agg (zf x.1), .int .i64 x.2.1, .int .i64 x.2.2]) 0 []) qab := fun s x h => AC.plain (qk9 s x h) rfl rfl
/-- END OF READ -/
def vf (a0 : BA) : Option (Node × Int × Int) :=
 qab a0 >>= fun x1 =>
 some (x1.1, x1.2.1, x1.2.2)
@[reducible] def qbj (a0 : BA) (r : Node × Int × Int) : Prop :=
  Fn Tryz.prog G 29 [(.str a0), (.fn 30 [])] (.tup [(.agg (zf r.1)), (.int .i64 r.2.1), (.int .i64 r.2.2)])
theorem qbq : PC1 qbj vf := fun a0 r h => by
 rw [vf.eq_def] at h
 refine zk (T := tt) (N := 13) (rs := [.cell 4 26, .tmp 5, .tmp 6]) (fun vs w => by simp) Tryz.func29 rfl rfl rfl rfl (by kernel_rfl) (jh rfl) (zp _ rfl) ?_
 refine kr [2000000] ?_
 refine qov [(3, (.rptr [(.fn 30 [])]))] [0] rfl (qql rfl rfl rfl rfl qtz) rfl rfl ?_
 refine qap ?_
 refine kr [2000000] ?_
 obtain ⟨x1, hx, h⟩ := bind_some h
 refine qn (AC.g9 (qk5 _ _ hx) [] []) ?_
 refine kr [2000000] ?_
 cases h
 exact kf
def J9 (a0 : BA) : Option (Node × Int × Int) :=
 vf a0 >>= fun x1 =>
 some (x1.1, x1.2.1, x1.2.2)
@[reducible] def qoy (a0 : BA) (r : Node × Int × Int) : Prop :=
  Fn Tryz.prog G 12 [(.str a0)] (.tup [(.agg (zf r.1)), (.int .i64 r.2.1), (.int .i64 r.2.2)])
theorem qcn : PC1 qoy J9 := fun a0 r h => by
 rw [J9.eq_def] at h
 refine zk (T := tt) (N := 10) (rs := [.cell 2 26, .tmp 3, .tmp 4]) (fun vs w => by simp) Tryz.func12 rfl rfl rfl rfl (by kernel_rfl) (jh rfl) (zp _ rfl) ?_
 refine kr [] ?_
 obtain ⟨x1, hx, h⟩ := bind_some h
 refine ql (qbq _ _ hx) ?_
 refine kr [] ?_
 cases h
 exact kf
def Kc (a0 : Reader) : Option (Except Int (Node × Reader)) :=
 j8 a0 >>= fun x1 =>
 match x1 with
 | .error ee => some (.error ee)
 | .ok x1 =>
 some (.ok (x1.1, x1.2))
@[reducible] def qiu (a0 : Reader) (r : Except Int (Node × Reader)) : Prop :=
  exq (fun (r : Node × Reader) => AC Tryz.prog G 33 [(.ptr 0 0 0)] 1 [(0, .var 77 (Reader.cells a0))] (.agg (zf r.1)) 1 [(0, .var 77 (Reader.cells r.2))]) (fun e => FC Tryz.prog G 33 [(.ptr 0 0 0)] 1 [(0, .var 77 (Reader.cells a0))] (flt e)) r
theorem qcj : PC1 qiu Kc := fun a0 r h => by
 rw [Kc.eq_def] at h
 refine Yb (T := tt) (N := 5) (rs := [.cell 2 26]) (fun vs w => by simp) Tryz.func33 rfl rfl rfl (by kernel_rfl) (by kernel_rfl) (k7 rfl rfl y3) (jf z7) (fun r => (kz rfl y0)) (fun r => (jf z7)) (fun _ => rfl) (fun _ => rfl) rfl (fun _ => rfl) ?_
 refine kr [] ?_
 obtain ⟨x1, hx, h⟩ := bind_some h
 rcases x1 with ee | x1
 ·replace h : some (.error ee) = some r := h
  cases h
  exact zn (FC.go (wl _ _ hx) [0] [0] rfl rfl rfl rfl rfl rfl)
 refine qn (AC.g9 (wl _ _ hx) [0] [0]) ?_
 refine kr [] ?_
 cases h
 exact jl env rfl rfl (tS [some 0] (sV (lS (lS lN)) zx) (yv (jr (qk (qd (qi rfl) rfl) (qk (qd (q6 rfl) rfl) (qk (qd (qv (.inl rfl)) rfl) (qk (qd (qv (.inl rfl)) rfl) jp))))) (by simp)))
def qad (o0 : Reader) (o2 : Node) : Option (Except Int (Node × Reader)) :=
 some (.ok (o2, o0))
@[reducible] def qoz (o0 : Reader) (o2 : Node) (r : Except Int (Node × Reader)) : Prop :=
  Ok Tryz.prog G tt 21 1 (exq (fun (r : Node × Reader) => Ret Tryz.prog [.cell 3 26] (fun y H => vu Tryz.prog G 1 H y (.agg (zf r.1)) ⟨1, [(0, .var 77 (Reader.cells r.2))]⟩)) (fun e => Jm (flt e)) r) (.go [] (Qh [17] Tryz.f64 17) [] (.n .undef (.n .undef (.n (.ptr 1 1 0) .z .z) .z) (.n .undef (.n (.ptr 2 2 0) .z .z) .z)) 3 [(0, .var 77 (Reader.cells o0)), (1, .var 26 [(.int .i64 0), (.str ⟨#[]⟩), (.sl 0 true []), (.sl 0 true [])]), (2, .var 26 (zf o2))])
theorem qco : PC2 qoz qad := fun o0 o2 r h => by
 rw [qad.eq_def] at h
 refine kr [17] ?_
 cases h
 exact jl env rfl rfl (tS [some 0] (sV (lS (lS lN)) zx) (yv (jr (qk (qd (qi rfl) rfl) (qk (qd (q6 rfl) rfl) (qk (qd (qv (.inl rfl)) rfl) (qk (qd (qv (.inl rfl)) rfl) jp))))) (by simp)))
def qcw (a0 : Reader) : Option (Except Int (Node × Reader)) :=
 Kc a0 >>= fun x1 =>
 match x1 with
 | .error ee => some (.error ee)
 | .ok x1 =>
 zy x1.2 >>= fun x2 =>
 if (!decide (x2.Kind = (4 : Int))) = true then
  jt x1.2 >>= fun x5 =>
  match x5 with
  | .error ee => some (.error ee)
  | .ok x5 =>
  qad x1.2 x1.1
 else
  zy x1.2 >>= fun x3 =>
  if (!decide (x3.Lead = (⟨#[]⟩ : BA))) = true then
   jt x1.2 >>= fun x4 =>
   match x4 with
   | .error ee => some (.error ee)
   | .ok x4 =>
   qad x1.2 x1.1
  else
   qad x1.2 x1.1
@[reducible] def qwo (a0 : Reader) (r : Except Int (Node × Reader)) : Prop :=
  exq (fun (r : Node × Reader) => AC Tryz.prog G 64 [(.ptr 0 0 0), (.rptr [(.fn 33 [])])] 1 [(0, .var 77 (Reader.cells a0))] (.agg (zf r.1)) 1 [(0, .var 77 (Reader.cells r.2))]) (fun e => FC Tryz.prog G 64 [(.ptr 0 0 0), (.rptr [(.fn 33 [])])] 1 [(0, .var 77 (Reader.cells a0))] (flt e)) r
theorem qo7 : PC1 qwo qcw := fun a0 r h => by
 rw [qcw.eq_def] at h
 refine Yb (T := tt) (N := 21) (rs := [.cell 3 26]) (fun vs w => by simp) Tryz.func64 rfl rfl rfl (by kernel_rfl) (by kernel_rfl) (k7 rfl rfl y3) (jf z7) (fun r => (kz rfl y0)) (fun r => (jf z7)) (fun _ => rfl) (fun _ => rfl) rfl (fun _ => rfl) ?_
 refine kr [17] ?_
 obtain ⟨x1, hx, h⟩ := bind_some h
 rcases x1 with ee | x1
 ·replace h : some (.error ee) = some r := h
  cases h
  exact zn (FC.go (qcj _ _ hx) [0] [0] rfl rfl rfl rfl rfl rfl)
 refine qn (AC.g9 (qcj _ _ hx) [0] [0]) ?_
 refine kr [17] ?_
 obtain ⟨x2, hx, h⟩ := bind_some h
 refine qn (AC.g9 (je _ _ hx) [0] [0]) ?_
 refine kr [17] ?_
 refine qu (fun hb => ?_) (fun hb => ?_)
 ·replace h := qy hb h
  refine kr [17] ?_
  obtain ⟨x3, hx, h⟩ := bind_some h
  refine qn (AC.g9 (je _ _ hx) [0] [0]) ?_
  refine kr [17] ?_
  refine qj (fun hb => ?_) (fun hb => ?_)
  ·replace h := qx hb h
   refine kr [17] ?_
   obtain ⟨x4, hx, h⟩ := bind_some h
   rcases x4 with ee | x4
   ·replace h : some (.error ee) = some r := h
    cases h
    exact zn (FC.go (ja _ _ hx) [0] [0] rfl rfl rfl rfl rfl rfl)
   refine qn (AC.g9 (ja _ _ hx) [0] [0]) ?_
   refine kr [17] ?_
   exact zb (by kernel_rfl) rfl lQ (qco _ _ _ h)
  ·replace h := qy hb h
   refine kr [17] ?_
   exact zb (by kernel_rfl) rfl lQ (qco _ _ _ h)
 ·replace h := qx hb h
  refine kr [17] ?_
  obtain ⟨x5, hx, h⟩ := bind_some h
  rcases x5 with ee | x5
  ·replace h : some (.error ee) = some r := h
   cases h
   exact zn (FC.go (ja _ _ hx) [0] [0] rfl rfl rfl rfl rfl rfl)
  refine qn (AC.g9 (ja _ _ hx) [0] [0]) ?_
  refine kr [17] ?_
  exact zb (by kernel_rfl) rfl lQ (qco _ _ _ h)
/-- What read returns. -/
def W9 (s : BA) : Option (Node × Int × Int) :=
 uj s >>= fun t =>
 if (!decide (t.2.1 = (0 : Int))) = true then some (Node.mk 0 ⟨#[]⟩ [] [], t.2.1, t.2.2)
 else qcw ⟨t.1, 0⟩ >>= fun x => match x with
  | .error e => some (Node.mk 0 ⟨#[]⟩ [] [], 1, e)
  | .ok x => w8 x.1 >>= fun c => if (decide (c = (3 : Int))) = true then some (Node.mk 0 ⟨#[]⟩ [] [], 3, 0) else some (x.1, 0, 0)
/-- The code ahead of the deferred call. -/
def kv (t : List Token × Int × Int) (fr : Fr) (H : Hp) : Prop := (fr 1 = .fn 64 [(.rptr [.fn 33 []])] ∧ fr 4 = .ptr 0 0 0 ∧ fr 5 = .ptr 1 1 0 ∧ fr 6 = .ptr 2 2 0 ∧ fr 7 = .sl 4 false (t.1.map Token.cells)) ∧ H = ⟨3, rdO t.2.1 t.2.2⟩
theorem qld (s : BA) (t : List Token × Int × Int) (ht : uj s = some t) (x : Node × Int × Int) :
 Ok Tryz.prog G tt 32 0 (Jp (fun fr H => fr 16 = .bool (!decide (t.2.1 = (0 : Int))) ∧ kv t fr H) (rdR x)) (.go (qfq 0 [.str s, .fn 64 [(.rptr [.fn 33 []])]]) [.code rd0, .code rd1, .code rd2a] [] .z 0 []) := by
 refine kr [] ?_
 refine ql (qav _ _ ht) ?_
 refine kr [] ?_
 exact qmq ⟨rfl, ⟨rfl, rfl, rfl, rfl, rfl⟩, rfl⟩
theorem qla (t : List Token × Int × Int) (x : Node × Int × Int) (hx : (!decide (t.2.1 = (0 : Int))) = true → x = (Node.mk 0 ⟨#[]⟩ [] [], t.2.1, t.2.2)) (fr : Fr) (H : Hp)
 (h : AWp Tryz.prog G 32 0 rd2a (Jp (fun fr H => fr 16 = .bool (!decide (t.2.1 = (0 : Int))) ∧ kv t fr H) (rdR x)) fr H) : AWp Tryz.prog G 32 0 rd2 (Jp (fun fr H => (!decide (t.2.1 = (0 : Int))) = false ∧ kv t fr H) (rdR x)) fr H := by
 rw [qvz]
 refine qkd (h.mono ?_)
 intro e fr H q
 cases e with
 | normal =>
   obtain ⟨hc, hk⟩ := (show _ ∧ _ from q)
   refine Qg (qet hc (fun hb => ?_) (fun hb => qkc (Qg ⟨hb, hk⟩)))
   obtain ⟨⟨g1, g4, g5, g6, g7⟩, rfl⟩ := hk
   cases hx hb
   refine (qc0 (qkm [(4, .ptr 0 0 0), (5, .ptr 1 1 0), (6, .ptr 2 2 0)] (by simp [g4, g5, g6])) (qnl t.2.1 t.2.2)).mono ?_
   rintro e fr H ⟨rfl, q⟩
   exact q
 | _ => exact q
theorem qkq (l : List Token) (e : Int) (h : qcw ⟨l, 0⟩ = some (.error e)) :
 Ok Tryz.prog G tt 32 3 (fun e' fr _ => e' = .panic (flt e) ∧ fr 4 = .ptr 0 0 0 ∧ fr 5 = .ptr 1 1 0 ∧ fr 6 = .ptr 2 2 0) (.go [(1, .fn 64 [(.rptr [.fn 33 []])]), (4, .ptr 0 0 0), (5, .ptr 1 1 0), (6, .ptr 2 2 0), (7, .sl 4 false (l.map Token.cells))] [.code rd4] [] .z 3 []) := by
 refine kr [] ?_
 exact qku (FC.go (qo7 _ _ h) [0] [3] rfl rfl rfl rfl rfl rfl) ⟨rfl, rfl, rfl, rfl⟩
theorem qk0 (l : List Token) (e at_ : Int) (r : Node × Reader) (h : qcw ⟨l, 0⟩ = some (.ok r)) (c : Int) (hc : w8 r.1 = some c) (x : Node × Int × Int) (hx : (if (decide (c = (3 : Int))) = true then some (Node.mk 0 ⟨#[]⟩ [] [], 3, 0) else some (r.1, 0, 0)) = some x) :
 Ok Tryz.prog G tt 32 0 (rdR x) (.go [(1, .fn 64 [(.rptr [.fn 33 []])]), (4, .ptr 0 0 0), (5, .ptr 1 1 0), (6, .ptr 2 2 0), (7, .sl 4 false (l.map Token.cells))] [.code rd4] [] .z 3 (rdO e at_)) := by
 refine kr [] ?_
 refine qn (AC.g9 (qo7 _ _ h) [3] [3]) ?_
 refine kr [] ?_
 refine ql (W2 _ _ hc) ?_
 refine kr [] ?_
 refine qj (fun hb => ?_) (fun hb => ?_)
 ·rw [if_pos hb] at hx
  cases hx
  refine kr [] ?_
  exact jl env rfl rfl (qja _ _)
 ·rw [if_neg (by rw [hb]; decide)] at hx
  cases hx
  refine kr [] ?_
  exact jl env rfl rfl (q4 rfl)
theorem qk7 (s : BA) (x : Node × Int × Int) (h : W9 s = some x) : ACalls Tryz.prog G 22 [.str s, .fn 64 [(.rptr [.fn 33 []])]] ⟨0, []⟩ (rdX x) ⟨0, []⟩ := by
 obtain ⟨t, ht, h⟩ := bind_some h
 intro w S F β vs hH hv
 rw [show (callFunc 22 vs).run Tryz.prog w = .ok (.enter 22 vs) w by simp]
 show Calls Tryz.prog 22 vs w (qhr w S F β x)
 refine calls_of_wp_defers Tryz.func22 qrk ?_
 have hA := Kl (N := 32) (by kernel_rfl) (qld s t ht x)
 rw [Wd] at hA
 have hf := qd7 (N := 32) hv (Nat.le_of_ble_eq_true rfl)
 have fin : ∀ (e : Exit) (fr' : Fr) (H' : Hp) (w' : World) (S' : Nat → Prop) (β' : Nat → Nat) (a' : Act), rdR x e fr' H' → Ext w S F β 0 w' S' β' 0 → HR G w' S' F β' H' → FRx [] w' S' β' H'.n 32 fr' a' → bodyPostD Tryz.prog Tryz.f22 (qhr w S F β x) e a' w' := by
  intro e fr' H' w' S' β' a' q hx hH' hf'
  have hl := fun q => qe0 (x := x) q hx hH' hf' hH
  cases e <;> first
   | exact q.elim
   | (show Leaves _ _ _ _ a'.defers _ _; rw [hf'.defers]; exact hl q)
 refine Wj hA (Nat.zero_le _) hH hf (fun fr1 H1 w1 S1 β1 a1 q1 hx1 _ hH1 hf1 => ?_) (fun e fr' H' w' S' β' a' he q hx _ hH' hf' => fin e fr' H' w' S' β' a' (qa0 he (qwk he q)) hx hH' hf')
 refine Wj q1 (Nat.zero_le _) hH1 hf1 (fun fr2 H2 w2 S2 β2 a2 q2 hx2 _ hH2 hf2 => ?_) (fun e fr' H' w' S' β' a' he q hx _ hH' hf' => fin e fr' H' w' S' β' a' (qa0 he q) (hx1.trans hx) hH' hf')
 refine Wj (qla t x (fun hb => by rw [if_pos hb] at h; cases h; rfl) fr2 H2 q2) (Nat.zero_le _) hH2 hf2 (fun fr3 H3 w3 S3 β3 a3 q3 hx3 _ hH3 hf3 => ?_) (fun e fr' H' w' S' β' a' he q hx _ hH' hf' => fin e fr' H' w' S' β' a' q ((hx1.trans hx2).trans hx) hH' hf')
 obtain ⟨hb, ⟨g1, g4, g5, g6, g7⟩, rfl⟩ := (show _ ∧ _ ∧ _ from q3)
 have hx0 := (hx1.trans hx2).trans hx3
 rw [if_neg (by rw [hb]; decide)] at h
 obtain ⟨r, hr, h⟩ := bind_some h
 refine wp_seq ?_
 refine qez (u := 20) (f := 50) (cs := #[.tmp 4, .tmp 5, .tmp 6]) (by rw [hf3.size]; decide) ?_
 have e4 := qbf (g4 ▸ hf3.val 4)
 have e5 := qbf (g5 ▸ hf3.val 5)
 have e6 := qbf (g6 ▸ hf3.val 6)
 have hcs : (#[Operand.tmp 4, .tmp 5, .tmp 6] : Array Operand).map a3.eval = #[.pointer (some ⟨β3 0, 0, none⟩), .pointer (some ⟨β3 1, 0, none⟩), .pointer (some ⟨β3 2, 0, none⟩)] := by
  simp [Act.eval, e4, e5, e6]
 rw [hcs]
 have hf3' := hf3.put (d := some 20) rfl (RV.undef (w := w3) (S := S3) (β := β3) (n := 3) (.func (.func 50) #[] #[.pointer (some ⟨β3 0, 0, none⟩), .pointer (some ⟨β3 1, 0, none⟩), .pointer (some ⟨β3 2, 0, none⟩)]))
 have hq := hf3'.some [(1, .fn 64 [(.rptr [.fn 33 []])]), (4, .ptr 0 0 0), (5, .ptr 1 1 0), (6, .ptr 2 2 0), (7, .sl 4 false (t.1.map Token.cells))] (by simp [Qi, g1, g4, g5, g6, g7])
 generalize hd : a3.defers = d3 at *
 have hd3 : d3 = [] := by rw [← hd]; exact hf3.defers
 subst hd3
 have hf4 := FRx.of (a := ⟨a3.tmps.setIfInBounds 20 (.func (.func 50) #[] #[.pointer (some ⟨β3 0, 0, none⟩), .pointer (some ⟨β3 1, 0, none⟩), .pointer (some ⟨β3 2, 0, none⟩)]), [{ target := .fn (.func 50) #[.pointer (some ⟨β3 0, 0, none⟩), .pointer (some ⟨β3 1, 0, none⟩), .pointer (some ⟨β3 2, 0, none⟩)], args := #[] }]⟩) _ hf3'.size rfl hq
 show rd4.wp _ _ _ _
 cases r with
 | error e =>
   cases h
   have hB := Kl (N := 32) (by kernel_rfl) (qkq t.1 e hr)
   refine wp_mono (hB _ w3 S3 _ β3 _ (Nat.le_refl _) hH3.hide hf4) ?_
   rintro e' a' w' ⟨fr', H', S', β', ⟨rfl, k4, k5, k6⟩, hx, hp, hH', hf'⟩
   obtain ⟨hx', hH''⟩ := hH3.unhide hx hH'.lts
   show Leaves _ _ _ _ a'.defers _ _
   rw [hf'.defers]
   refine leaves_cons (f := 50) (args := #[.pointer (some ⟨β3 0, 0, none⟩), .pointer (some ⟨β3 1, 0, none⟩), .pointer (some ⟨β3 2, 0, none⟩)]) (by simp) (by simp [go_sem]) ?_
   have hc := qh7 e t.2.2 (show HR G w' S' F β' ⟨3, rdO 0 t.2.2⟩ by
    have h0 : t.2.1 = 0 := by simpa using hb
    rw [← h0]; exact hH'')
   rw [hx'.beta 0 (show 0 < 3 by decide), hx'.beta 1 (show 1 < 3 by decide), hx'.beta 2 (show 2 < 3 by decide)] at hc
   refine hc.mono ?_
   rintro r u' w'' ⟨⟨v, rfl⟩, hs, S'', β'', hx'', hH3''⟩
   show Leaves _ _ _ _ [] (settle u') w''
   rw [hs]
   refine qe0 (D := a'.defers) (a := a') (qkj e) (hx0.trans ((hx'.trans hx'').lower (Nat.zero_le _))) hH3'' (FRx.of _ hf'.size rfl ?_) hH
   intro q hm
   simp only [List.mem_cons, List.not_mem_nil, or_false] at hm
   have hv : ∀ (i s : Nat) (t : Nat), s < 3 → fr' t = .ptr i s 0 → RV w'' S'' β'' 3 (.ptr i s 0) (a'.tmps.getD t Go.undef) := fun i s t hs3 ht => by
    have h1 := hf'.val t
    rw [ht] at h1
    rw [qbf h1, ← hx''.beta s hs3]
    exact .ptr i s 0 hs3
   rcases hm with rfl | rfl | rfl
   ·exact hv _ _ _ (by decide) k4
   ·exact hv _ _ _ (by decide) k5
   ·exact hv _ _ _ (by decide) k6
 | ok r =>
   obtain ⟨c, hc, h⟩ := bind_some h
   have hB := Kl (N := 32) (by kernel_rfl) (qk0 t.1 t.2.1 t.2.2 r hr c hc x h)
   refine wp_mono (hB _ w3 S3 F β3 _ (Nat.zero_le _) hH3 hf4) ?_
   rintro e' a' w' ⟨fr', H', S', β', q, hx, hp, hH', hf'⟩
   have hl : rdR x .normal fr' H' → Leaves Tryz.prog Tryz.f22 a'.tmps (qhr w S F β x) a'.defers .returning w' := fun q => by
    rw [hf'.defers]
    refine leaves_cons (f := 50) (args := #[.pointer (some ⟨β3 0, 0, none⟩), .pointer (some ⟨β3 1, 0, none⟩), .pointer (some ⟨β3 2, 0, none⟩)]) (by simp) (by simp [go_sem]) ?_
    refine (qni _ _ _ w').mono ?_
    rintro r u' w'' ⟨⟨v, rfl⟩, rfl, rfl⟩
    exact qe0 q (hx0.trans hx) hH' hf' hH
   cases e' <;> first
    | exact q.elim
    | exact hl q
theorem qk3 : PC1 (fun (s : BA) (x : Node × Int × Int) => AC Tryz.prog G 22 [.str s, .fn 64 [(.rptr [.fn 33 []])]] 0 [] (.tup [.agg (zf x.1), .int .i64 x.2.1, .int .i64 x.2.2]) 0 []) W9 := fun s x h => AC.plain (qk7 s x h) rfl rfl
/-- END OF READ -/
def ve (a0 : BA) : Option (Node × Int × Int) :=
 W9 a0 >>= fun x1 =>
 some (x1.1, x1.2.1, x1.2.2)
@[reducible] def qbi (a0 : BA) (r : Node × Int × Int) : Prop :=
  Fn Tryz.prog G 29 [(.str a0), (.fn 33 [])] (.tup [(.agg (zf r.1)), (.int .i64 r.2.1), (.int .i64 r.2.2)])
theorem qbp : PC1 qbi ve := fun a0 r h => by
 rw [ve.eq_def] at h
 refine zk (T := tt) (N := 13) (rs := [.cell 4 26, .tmp 5, .tmp 6]) (fun vs w => by simp) Tryz.func29 rfl rfl rfl rfl (by kernel_rfl) (jh rfl) (zp _ rfl) ?_
 refine kr [2000000] ?_
 refine qov [(3, (.rptr [(.fn 33 [])]))] [0] rfl (qql rfl rfl rfl rfl qtz) rfl rfl ?_
 refine qap ?_
 refine kr [2000000] ?_
 obtain ⟨x1, hx, h⟩ := bind_some h
 refine qn (AC.g9 (qk3 _ _ hx) [] []) ?_
 refine kr [2000000] ?_
 cases h
 exact kf
def J7 (a0 : BA) : Option (Node × Int × Int) :=
 ve a0 >>= fun x1 =>
 some (x1.1, x1.2.1, x1.2.2)
@[reducible] def qow (a0 : BA) (r : Node × Int × Int) : Prop :=
  Fn Tryz.prog G 14 [(.str a0)] (.tup [(.agg (zf r.1)), (.int .i64 r.2.1), (.int .i64 r.2.2)])
theorem qck : PC1 qow J7 := fun a0 r h => by
 rw [J7.eq_def] at h
 refine zk (T := tt) (N := 10) (rs := [.cell 2 26, .tmp 3, .tmp 4]) (fun vs w => by simp) Tryz.func14 rfl rfl rfl rfl (by kernel_rfl) (jh rfl) (zp _ rfl) ?_
 refine kr [] ?_
 obtain ⟨x1, hx, h⟩ := bind_some h
 refine ql (qbp _ _ hx) ?_
 refine kr [] ?_
 cases h
 exact kf
def Qw  : Option Bool :=
 J9 (⟨#[97, 32, 45, 32, 98, 32, 42, 32, 50, 32, 45, 32, 99]⟩ : BA) >>= fun x1 =>
 if (!decide (x1.2.1 = (0 : Int))) = true then
  some false
 else
  if (!decide (x1.2.2 = (0 : Int))) = true then
   some false
  else
   if (!decide (x1.1.kind = (24 : Int))) = true then
    some false
   else
    if (!decide (x1.1.text = (⟨#[45]⟩ : BA))) = true then
     some false
    else
     if (!decide (((x1.1.gaps.map sc).length : Int) = (1 : Int))) = true then
      some false
     else
      ix x1.1.gaps (0 : Int) >>= fun x2 =>
      if (!decide (x2 = (⟨#[32]⟩ : BA))) = true then
       some false
      else
       if (!decide (((x1.1.kids.map Node.cells).length : Int) = (2 : Int))) = true then
        some false
       else
        ix x1.1.kids (0 : Int) >>= fun x3 =>
        if (!decide (x3.kind = (24 : Int))) = true then
         some false
        else
         ix x1.1.kids (0 : Int) >>= fun x4 =>
         if (!decide (((x4.kids.map Node.cells).length : Int) = (2 : Int))) = true then
          some false
         else
          ix x1.1.kids (1 : Int) >>= fun x5 =>
          if (!decide (x5.text = (⟨#[99]⟩ : BA))) = true then
           some false
          else
           J7 (⟨#[120, 32, 61, 32, 121, 59]⟩ : BA) >>= fun x6 =>
           J7 (⟨#[105, 102, 32, 97]⟩ : BA) >>= fun x7 =>
           J9 (⟨#[97, 32, 60, 32, 98, 32, 60, 32, 99]⟩ : BA) >>= fun x8 =>
           J8 (⟨#[102, 110, 32, 102, 40, 41, 32, 105, 110, 116, 32, 123, 32, 114, 101, 116, 117, 114, 110, 32, 49, 59, 32, 125]⟩ : BA) >>= fun x9 =>
           J8 (⟨#[102, 110, 32, 102, 40, 41, 32, 105, 110, 116, 32, 123, 32, 114, 101, 116, 117, 114, 110, 32, 49, 32, 125]⟩ : BA) >>= fun x10 =>
           if (decide (x6.2.1 = (0 : Int))) = true then
            if (decide (x6.1.kind = (11 : Int))) = true then
             if (decide (x7.2.1 = (1 : Int))) = true then
              if (decide (x7.2.2 = (4 : Int))) = true then
               if (decide (x8.2.1 = (1 : Int))) = true then
                if (decide (x8.2.2 = (6 : Int))) = true then
                 if (decide (x9.2.1 = (0 : Int))) = true then
                  if (decide (((x9.1.kids.map Node.cells).length : Int) = (1 : Int))) = true then
                   ix x9.1.kids (0 : Int) >>= fun x11 =>
                   if (decide (x11.text = (⟨#[102]⟩ : BA))) = true then
                    if (decide (x10.2.1 = (1 : Int))) = true then
                     some (decide (x10.2.2 = (22 : Int)))
                    else
                     some false
                   else
                    some false
                  else
                   some false
                 else
                  some false
                else
                 some false
               else
                some false
              else
               some false
             else
              some false
            else
             some false
           else
            some false
@[reducible] def qsj  (r : Bool) : Prop :=
  Fn Tryz.prog G 8 [] (.bool r)
theorem Ka : PC0 qsj Qw := fun  r h => by
 rw [Qw.eq_def] at h
 refine zk (T := tt) (N := 158) (rs := [.tmp 0]) (fun vs w => by simp) Tryz.func8 rfl rfl rfl rfl (by kernel_rfl) (jh rfl) (zp _ rfl) ?_
 refine kr [] ?_
 obtain ⟨x1, hx, h⟩ := bind_some h
 refine ql (qcn _ _ hx) ?_
 refine kr [] ?_
 refine qu (fun hb => ?_) (fun hb => ?_)
 ·replace h := qy hb h
  refine kr [] ?_
  refine qu (fun hb => ?_) (fun hb => ?_)
  ·replace h := qy hb h
   refine kr [] ?_
   refine qu (fun hb => ?_) (fun hb => ?_)
   ·replace h := qy hb h
    refine kr [] ?_
    refine qu (fun hb => ?_) (fun hb => ?_)
    ·replace h := qy hb h
     refine kr [] ?_
     refine qu (fun hb => ?_) (fun hb => ?_)
     ·replace h := qy hb h
      refine kr [] ?_
      obtain ⟨x2, hx, h⟩ := bind_some h
      refine jo env hx rfl rfl rfl rfl rfl ?_
      refine kr [] ?_
      refine qu (fun hb => ?_) (fun hb => ?_)
      ·replace h := qy hb h
       refine kr [] ?_
       refine qu (fun hb => ?_) (fun hb => ?_)
       ·replace h := qy hb h
        refine kr [] ?_
        obtain ⟨x3, hx, h⟩ := bind_some h
        refine jo env hx rfl rfl rfl rfl (Node.cells_eq x3) ?_
        refine kr [] ?_
        refine qu (fun hb => ?_) (fun hb => ?_)
        ·replace h := qy hb h
         refine kr [] ?_
         obtain ⟨x4, hx, h⟩ := bind_some h
         refine jo env hx rfl rfl rfl rfl (Node.cells_eq x4) ?_
         refine kr [] ?_
         refine qu (fun hb => ?_) (fun hb => ?_)
         ·replace h := qy hb h
          refine kr [] ?_
          obtain ⟨x5, hx, h⟩ := bind_some h
          refine jo env hx rfl rfl rfl rfl (Node.cells_eq x5) ?_
          refine kr [] ?_
          refine qj (fun hb => ?_) (fun hb => ?_)
          ·replace h := qx hb h
           refine kr [] ?_
           cases h
           exact kf
          ·replace h := qy hb h
           refine kr [] ?_
           obtain ⟨x6, hx, h⟩ := bind_some h
           refine ql (qck _ _ hx) ?_
           refine kr [] ?_
           obtain ⟨x7, hx, h⟩ := bind_some h
           refine ql (qck _ _ hx) ?_
           refine kr [] ?_
           obtain ⟨x8, hx, h⟩ := bind_some h
           refine ql (qcn _ _ hx) ?_
           refine kr [] ?_
           obtain ⟨x9, hx, h⟩ := bind_some h
           refine ql (qcl _ _ hx) ?_
           refine kr [] ?_
           obtain ⟨x10, hx, h⟩ := bind_some h
           refine ql (qcl _ _ hx) ?_
           refine kr [] ?_
           refine qr (fun hb => ?_) (fun hb => ?_)
           ·replace h := qx hb h
            refine kr [] ?_
            refine qr (fun hb => ?_) (fun hb => ?_)
            ·replace h := qx hb h
             refine kr [] ?_
             refine qr (fun hb => ?_) (fun hb => ?_)
             ·replace h := qx hb h
              refine kr [] ?_
              refine qr (fun hb => ?_) (fun hb => ?_)
              ·replace h := qx hb h
               refine kr [] ?_
               refine qr (fun hb => ?_) (fun hb => ?_)
               ·replace h := qx hb h
                refine kr [] ?_
                refine qr (fun hb => ?_) (fun hb => ?_)
                ·replace h := qx hb h
                 refine kr [] ?_
                 refine qr (fun hb => ?_) (fun hb => ?_)
                 ·replace h := qx hb h
                  refine kr [] ?_
                  refine qr (fun hb => ?_) (fun hb => ?_)
                  ·replace h := qx hb h
                   refine kr [] ?_
                   obtain ⟨x11, hx, h⟩ := bind_some h
                   refine jo env hx rfl rfl rfl rfl (Node.cells_eq x11) ?_
                   refine kr [] ?_
                   refine qr (fun hb => ?_) (fun hb => ?_)
                   ·replace h := qx hb h
                    refine kr [] ?_
                    refine qr (fun hb => ?_) (fun hb => ?_)
                    ·replace h := qx hb h
                     refine kr [] ?_
                     cases h
                     exact kf
                    ·replace h := qy hb h
                     refine kr [] ?_
                     cases h
                     exact kf
                   ·replace h := qy hb h
                    refine kr [] ?_
                    cases h
                    exact kf
                  ·replace h := qy hb h
                   refine kr [] ?_
                   cases h
                   exact kf
                 ·replace h := qy hb h
                  refine kr [] ?_
                  cases h
                  exact kf
                ·replace h := qy hb h
                 refine kr [] ?_
                 cases h
                 exact kf
               ·replace h := qy hb h
                refine kr [] ?_
                cases h
                exact kf
              ·replace h := qy hb h
               refine kr [] ?_
               cases h
               exact kf
             ·replace h := qy hb h
              refine kr [] ?_
              cases h
              exact kf
            ·replace h := qy hb h
             refine kr [] ?_
             cases h
             exact kf
           ·replace h := qy hb h
            refine kr [] ?_
            cases h
            exact kf
         ·replace h := qx hb h
          refine kr [] ?_
          cases h
          exact kf
        ·replace h := qx hb h
         refine kr [] ?_
         cases h
         exact kf
       ·replace h := qx hb h
        refine kr [] ?_
        cases h
        exact kf
      ·replace h := qx hb h
       refine kr [] ?_
       cases h
       exact kf
     ·replace h := qx hb h
      refine kr [] ?_
      cases h
      exact kf
    ·replace h := qx hb h
     refine kr [] ?_
     cases h
     exact kf
   ·replace h := qx hb h
    refine kr [] ?_
    cases h
    exact kf
  ·replace h := qx hb h
   refine kr [] ?_
   cases h
   exact kf
 ·replace h := qx hb h
  refine kr [] ?_
  cases h
  exact kf
def Zm (a0 : Int) : Option Bool :=
 if (decide ((48 : Int) ≤ a0)) = true then
  some (decide (a0 ≤ (57 : Int)))
 else
  some false
@[reducible] def qsi (a0 : Int) (r : Bool) : Prop :=
  Fn Tryz.prog G 133 [(.int .u8 a0)] (.bool r)
theorem Y9 : PC1 qsi Zm := fun a0 r h => by
 rw [Zm.eq_def] at h
 refine zk (T := tt) (N := 9) (rs := [.tmp 2]) (fun vs w => by simp) Tryz.func133 rfl rfl rfl rfl (by kernel_rfl) (jh rfl) (zp _ rfl) ?_
 refine kr [] ?_
 refine qr (fun hb => ?_) (fun hb => ?_)
 ·replace h := qx hb h
  refine kr [] ?_
  cases h
  exact kf
 ·replace h := qy hb h
  refine kr [] ?_
  cases h
  exact kf
def Y2 (a0 : Int) : Option Bool :=
 if (decide ((97 : Int) ≤ a0)) = true then
  if (decide (a0 ≤ (122 : Int))) = true then
   some true
  else
   if (decide ((65 : Int) ≤ a0)) = true then
    if (decide (a0 ≤ (90 : Int))) = true then
     some true
    else
     Zm a0 >>= fun x1 =>
     if x1 = true then
      some true
     else
      some (decide (a0 = (95 : Int)))
   else
    Zm a0 >>= fun x2 =>
    if x2 = true then
     some true
    else
     some (decide (a0 = (95 : Int)))
 else
  if (decide ((65 : Int) ≤ a0)) = true then
   if (decide (a0 ≤ (90 : Int))) = true then
    some true
   else
    Zm a0 >>= fun x3 =>
    if x3 = true then
     some true
    else
     some (decide (a0 = (95 : Int)))
  else
   Zm a0 >>= fun x4 =>
   if x4 = true then
    some true
   else
    some (decide (a0 = (95 : Int)))
@[reducible] def qpt (a0 : Int) (r : Bool) : Prop :=
  Fn Tryz.prog G 131 [(.int .u8 a0)] (.bool r)
theorem qhz : PC1 qpt Y2 := fun a0 r h => by
 rw [Y2.eq_def] at h
 refine zk (T := tt) (N := 25) (rs := [.tmp 2]) (fun vs w => by simp) Tryz.func131 rfl rfl rfl rfl (by kernel_rfl) (jh rfl) (zp _ rfl) ?_
 refine kr [] ?_
 refine qr (fun hb => ?_) (fun hb => ?_)
 ·replace h := qx hb h
  refine kr [] ?_
  refine qu (fun hb => ?_) (fun hb => ?_)
  ·replace h := qy hb h
   refine kr [] ?_
   refine qr (fun hb => ?_) (fun hb => ?_)
   ·replace h := qx hb h
    refine kr [] ?_
    refine qu (fun hb => ?_) (fun hb => ?_)
    ·replace h := qy hb h
     refine kr [] ?_
     obtain ⟨x1, hx, h⟩ := bind_some h
     refine ql (Y9 _ _ hx) ?_
     refine kr [] ?_
     refine qu (fun hb => ?_) (fun hb => ?_)
     ·replace h := qy hb h
      refine kr [] ?_
      cases h
      exact kf
     ·replace h := qx hb h
      refine kr [] ?_
      cases h
      exact kf
    ·replace h := qx hb h
     refine kr [] ?_
     cases h
     exact kf
   ·replace h := qy hb h
    refine kr [] ?_
    obtain ⟨x2, hx, h⟩ := bind_some h
    refine ql (Y9 _ _ hx) ?_
    refine kr [] ?_
    refine qu (fun hb => ?_) (fun hb => ?_)
    ·replace h := qy hb h
     refine kr [] ?_
     cases h
     exact kf
    ·replace h := qx hb h
     refine kr [] ?_
     cases h
     exact kf
  ·replace h := qx hb h
   refine kr [] ?_
   cases h
   exact kf
 ·replace h := qy hb h
  refine kr [] ?_
  refine qr (fun hb => ?_) (fun hb => ?_)
  ·replace h := qx hb h
   refine kr [] ?_
   refine qu (fun hb => ?_) (fun hb => ?_)
   ·replace h := qy hb h
    refine kr [] ?_
    obtain ⟨x3, hx, h⟩ := bind_some h
    refine ql (Y9 _ _ hx) ?_
    refine kr [] ?_
    refine qu (fun hb => ?_) (fun hb => ?_)
    ·replace h := qy hb h
     refine kr [] ?_
     cases h
     exact kf
    ·replace h := qx hb h
     refine kr [] ?_
     cases h
     exact kf
   ·replace h := qx hb h
    refine kr [] ?_
    cases h
    exact kf
  ·replace h := qy hb h
   refine kr [] ?_
   obtain ⟨x4, hx, h⟩ := bind_some h
   refine ql (Y9 _ _ hx) ?_
   refine kr [] ?_
   refine qu (fun hb => ?_) (fun hb => ?_)
   ·replace h := qy hb h
    refine kr [] ?_
    cases h
    exact kf
   ·replace h := qx hb h
    refine kr [] ?_
    cases h
    exact kf
def Jr (t5 : Int) : Option Int :=
 some t5
@[reducible] def qpr (t5 : Int) (r : Int) : Prop :=
  Ok Tryz.prog G tt 20 0 (Ret Tryz.prog [.tmp 4] (fun y H => Told Tryz.prog G H y (.int .i64 r))) (.go [] (qda [1000000] Tryz.f132 0) [] (.n .undef (.n .undef .z (.n (.int .i64 t5) .z .z)) .z) 0 [])
theorem qhy : PC1 qpr Jr := fun t5 r h => by
 rw [Jr.eq_def] at h
 refine kr [1000000] ?_
 cases h
 exact kf
def Z6 (t0 : BA) (t5 : Int) : Option Int :=
 if (decide (t5 < (t0.size : Int))) = true then
  sx t0 t5 >>= fun x1 =>
  Y2 (qb x1) >>= fun x2 =>
  if x2 = true then
   Z6 (qb t0) (IntKind.i64.wrap (t5 + (1 : Int)))
  else
   Jr (qb t5)
 else
  Jr (qb t5)
 partial_fixpoint
@[reducible] def qhv (t0 : BA) (t5 : Int) (r : Int) : Prop :=
  Ok Tryz.prog G tt 20 0 (Ret Tryz.prog [.tmp 4] (fun y H => Told Tryz.prog G H y (.int .i64 r))) (.again (yy [1000000] Tryz.f132 0).1 (yy [1000000] Tryz.f132 0).2 (.n (.str t0) (.n .undef .z (.n (.int .i64 t5) .z .z)) .z) 0 [])
theorem qds : PC2 qhv Z6 := by
 refine Z6.partial_correctness qhv (fun Z6 qds t0 t5 r h => ?_)
 ·unfold qb at h
  refine kt ?_
  refine kr [1000000] ?_
  refine qr (fun hb => ?_) (fun hb => ?_)
  ·replace h := qx hb h
   refine kr [1000000] ?_
   obtain ⟨x1, hx, h⟩ := bind_some h
   refine Yn env hx rfl rfl rfl rfl ?_
   refine kr [1000000] ?_
   obtain ⟨x2, hx, h⟩ := bind_some h
   refine ql (qhz _ _ hx) ?_
   refine kr [1000000] ?_
   refine qj (fun hb => ?_) (fun hb => ?_)
   ·replace h := qx hb h
    refine kr [1000000] ?_
    exact j4 (by kernel_rfl) lA (qds _ _ _ h)
   ·replace h := qy hb h
    refine kr [1000000] ?_
    exact zb (by kernel_rfl) rfl lA (qhy _ _ h)
  ·replace h := qy hb h
   refine kr [1000000] ?_
   exact zb (by kernel_rfl) rfl lA (qhy _ _ h)
def qkb (a0 : BA) (a1 : Int) : Option Int :=
 Z6 a0 a1
@[reducible] def qwr (a0 : BA) (a1 : Int) (r : Int) : Prop :=
  Fn Tryz.prog G 132 [(.str a0), (.int .i64 a1)] (.int .i64 r)
theorem qws : PC2 qwr qkb := fun a0 a1 r h => by
 rw [qkb.eq_def] at h
 refine zk (T := tt) (N := 20) (rs := [.tmp 4]) (fun vs w => by simp) Tryz.func132 rfl rfl rfl rfl (by kernel_rfl) (jh rfl) (zp _ rfl) ?_
 refine kr [1000000] ?_
 exact yo (by kernel_rfl) lA (qds _ _ _ h)
def ua (t0 : BA) (t3 : Int) (t4 : Int) : Option Bool :=
 if (decide (t4 < (t0.size : Int))) = true then
  sx t0 t4 >>= fun x2 =>
  Zm (qb x2) >>= fun x3 =>
  if (!x3) = true then
   some false
  else
   sx t0 t4 >>= fun x4 =>
   ua (qb t0) (IntKind.i64.wrap ((IntKind.i64.wrap ((IntKind.i64.wrap (t3 * (10 : Int))) + (IntKind.i64.wrap x4))) - (48 : Int))) (IntKind.i64.wrap (t4 + (1 : Int)))
 else
  some (decide (t3 ≤ (1000000000000 : Int)))
 partial_fixpoint
@[reducible] def qdc (t0 : BA) (t3 : Int) (t4 : Int) (r : Bool) : Prop :=
  Ok Tryz.prog G tt 44 0 (Ret Tryz.prog [.tmp 2] (fun y H => Told Tryz.prog G H y (.bool r))) (.again (yy [] Tryz.f134 0).1 (yy [] Tryz.f134 0).2 (.n (.str t0) (.n .undef (.n (.int .i64 t3) .z .z) .z) (.n .undef (.n (.int .i64 t4) .z .z) .z)) 0 [])
theorem Yt : PC3 qdc ua := by
 refine ua.partial_correctness qdc (fun ua Yt t0 t3 t4 r h => ?_)
 ·unfold qb at h
  refine kt ?_
  refine kr [] ?_
  refine qj (fun hb => ?_) (fun hb => ?_)
  ·replace h := qx hb h
   refine kr [] ?_
   obtain ⟨x2, hx, h⟩ := bind_some h
   refine Yn env hx rfl rfl rfl rfl ?_
   refine kr [] ?_
   obtain ⟨x3, hx, h⟩ := bind_some h
   refine ql (Y9 _ _ hx) ?_
   refine kr [] ?_
   refine qj (fun hb => ?_) (fun hb => ?_)
   ·replace h := qx hb h
    refine kr [] ?_
    cases h
    exact kf
   ·replace h := qy hb h
    refine kr [] ?_
    obtain ⟨x4, hx, h⟩ := bind_some h
    refine Yn env hx rfl rfl rfl rfl ?_
    refine kr [] ?_
    exact j4 (by kernel_rfl) lA (Yt _ _ _ _ h)
  ·replace h := qy hb h
   refine kr [] ?_
   cases h
   exact kf
def qaf (a0 : BA) : Option Bool :=
 if (decide ((a0.size : Int) = (0 : Int))) = true then
  some false
 else
  if (decide ((13 : Int) < (a0.size : Int))) = true then
   some false
  else
   if (decide ((1 : Int) < (a0.size : Int))) = true then
    sx a0 (0 : Int) >>= fun x1 =>
    if (decide (x1 = (48 : Int))) = true then
     some false
    else
     ua a0 (0 : Int) (0 : Int)
   else
    ua a0 (0 : Int) (0 : Int)
@[reducible] def qo4 (a0 : BA) (r : Bool) : Prop :=
  Fn Tryz.prog G 134 [(.str a0)] (.bool r)
theorem qpa : PC1 qo4 qaf := fun a0 r h => by
 rw [qaf.eq_def] at h
 refine zk (T := tt) (N := 44) (rs := [.tmp 2]) (fun vs w => by simp) Tryz.func134 rfl rfl rfl rfl (by kernel_rfl) (jh rfl) (zp _ rfl) ?_
 refine kr [] ?_
 refine qu (fun hb => ?_) (fun hb => ?_)
 ·replace h := qy hb h
  refine kr [] ?_
  refine qu (fun hb => ?_) (fun hb => ?_)
  ·replace h := qy hb h
   refine kr [] ?_
   refine qr (fun hb => ?_) (fun hb => ?_)
   ·replace h := qx hb h
    refine kr [] ?_
    obtain ⟨x1, hx, h⟩ := bind_some h
    refine Yn env hx rfl rfl rfl rfl ?_
    refine kr [] ?_
    refine qj (fun hb => ?_) (fun hb => ?_)
    ·replace h := qx hb h
     refine kr [] ?_
     cases h
     exact kf
    ·replace h := qy hb h
     refine kr [] ?_
     exact yo (by kernel_rfl) lA (Yt _ _ _ _ h)
   ·replace h := qy hb h
    refine kr [] ?_
    exact yo (by kernel_rfl) lA (Yt _ _ _ _ h)
  ·replace h := qx hb h
   refine kr [] ?_
   cases h
   exact kf
 ·replace h := qx hb h
  refine kr [] ?_
  cases h
  exact kf
def Q9 (t0 : Int) (t3 : BA) (t4 : Int) : Option Bool :=
 if (decide (t4 < (t3.size : Int))) = true then
  sx t3 t4 >>= fun x1 =>
  if (decide (x1 = t0)) = true then
   some true
  else
   Q9 (qb t0) (qb t3) (IntKind.i64.wrap (t4 + (1 : Int)))
 else
  some false
 partial_fixpoint
@[reducible] def qg1 (t0 : Int) (t3 : BA) (t4 : Int) (r : Bool) : Prop :=
  Ok Tryz.prog G tt 16 0 (Ret Tryz.prog [.tmp 2] (fun y H => Told Tryz.prog G H y (.bool r))) (.again (yy [] Tryz.f135 0).1 (yy [] Tryz.f135 0).2 (.n (.int .u8 t0) (.n .undef (.n (.str t3) .z .z) .z) (.n .undef (.n (.int .i64 t4) .z .z) .z)) 0 [])
theorem qcv : PC3 qg1 Q9 := by
 refine Q9.partial_correctness qg1 (fun Q9 qcv t0 t3 t4 r h => ?_)
 ·unfold qb at h
  refine kt ?_
  refine kr [] ?_
  refine qj (fun hb => ?_) (fun hb => ?_)
  ·replace h := qx hb h
   refine kr [] ?_
   obtain ⟨x1, hx, h⟩ := bind_some h
   refine Yn env hx rfl rfl rfl rfl ?_
   refine kr [] ?_
   refine qj (fun hb => ?_) (fun hb => ?_)
   ·replace h := qx hb h
    refine kr [] ?_
    cases h
    exact kf
   ·replace h := qy hb h
    refine kr [] ?_
    exact j4 (by kernel_rfl) lA (qcv _ _ _ _ h)
  ·replace h := qy hb h
   refine kr [] ?_
   cases h
   exact kf
def qeq (a0 : Int) : Option Bool :=
 Q9 a0 (⟨#[40, 41, 123, 125, 44, 59, 58, 46, 61, 60, 43, 45, 42, 47, 33, 38, 124]⟩ : BA) (0 : Int)
@[reducible] def qu0 (a0 : Int) (r : Bool) : Prop :=
  Fn Tryz.prog G 135 [(.int .u8 a0)] (.bool r)
theorem qu7 : PC1 qu0 qeq := fun a0 r h => by
 rw [qeq.eq_def] at h
 refine zk (T := tt) (N := 16) (rs := [.tmp 2]) (fun vs w => by simp) Tryz.func135 rfl rfl rfl rfl (by kernel_rfl) (jh rfl) (zp _ rfl) ?_
 refine kr [] ?_
 exact yo (by kernel_rfl) lA (qcv _ _ _ _ h)
def w9 (t1 : Int) : Option (Int × Int) :=
 some ((IntKind.i64.wrap (t1 + (1 : Int))), (3 : Int))
@[reducible] def ql9 (t1 : Int) (r : Int × Int) : Prop :=
  Ok Tryz.prog G tt 84 0 (Ret Tryz.prog [.tmp 4, .tmp 5] (fun y H => Told Tryz.prog G H y (.tup [(.int .i64 r.1), (.int .i64 r.2)]))) (.go [] (Qh [79] Tryz.f98 79) [] (.n .undef (.n (.int .i64 t1) .z .z) .z) 0 [])
theorem ur : PC1 ql9 w9 := fun t1 r h => by
 rw [w9.eq_def] at h
 refine kr [79] ?_
 cases h
 exact kf
def qb4 (a0 : BA) (a1 : Int) : Option (Int × Int) :=
 if (decide ((a0.size : Int) ≤ a1)) = true then
  some (a1, (0 : Int))
 else
  sx a0 a1 >>= fun x1 =>
  Y2 x1 >>= fun x2 =>
  if x2 = true then
   qkb a0 a1 >>= fun x3 =>
   sx a0 a1 >>= fun x4 =>
   Zm x4 >>= fun x5 =>
   if x5 = true then
    ssub a0 a1 x3 >>= fun x6 =>
    qaf x6 >>= fun x7 =>
    if x7 = true then
     some (x3, (2 : Int))
    else
     some (a1, (0 : Int))
   else
    if (decide ((IntKind.i64.wrap (x3 - a1)) ≤ (32 : Int))) = true then
     some (x3, (1 : Int))
    else
     some (a1, (0 : Int))
  else
   sx a0 a1 >>= fun x8 =>
   qeq x8 >>= fun x9 =>
   if (!x9) = true then
    some (a1, (0 : Int))
   else
    sx a0 a1 >>= fun x10 =>
    if (decide (x10 = (47 : Int))) = true then
     if (decide ((IntKind.i64.wrap (a1 + (1 : Int))) < (a0.size : Int))) = true then
      sx a0 (IntKind.i64.wrap (a1 + (1 : Int))) >>= fun x11 =>
      if (decide (x11 = (47 : Int))) = true then
       some (a1, (0 : Int))
      else
       sx a0 a1 >>= fun x12 =>
       if (decide (x12 = (61 : Int))) = true then
        if (decide ((IntKind.i64.wrap (a1 + (1 : Int))) < (a0.size : Int))) = true then
         sx a0 (IntKind.i64.wrap (a1 + (1 : Int))) >>= fun x13 =>
         if (decide (x13 = (61 : Int))) = true then
          some ((IntKind.i64.wrap (a1 + (2 : Int))), (3 : Int))
         else
          w9 a1
        else
         w9 a1
       else
        w9 a1
     else
      sx a0 a1 >>= fun x14 =>
      if (decide (x14 = (61 : Int))) = true then
       if (decide ((IntKind.i64.wrap (a1 + (1 : Int))) < (a0.size : Int))) = true then
        sx a0 (IntKind.i64.wrap (a1 + (1 : Int))) >>= fun x15 =>
        if (decide (x15 = (61 : Int))) = true then
         some ((IntKind.i64.wrap (a1 + (2 : Int))), (3 : Int))
        else
         w9 a1
       else
        w9 a1
      else
       w9 a1
    else
     sx a0 a1 >>= fun x16 =>
     if (decide (x16 = (61 : Int))) = true then
      if (decide ((IntKind.i64.wrap (a1 + (1 : Int))) < (a0.size : Int))) = true then
       sx a0 (IntKind.i64.wrap (a1 + (1 : Int))) >>= fun x17 =>
       if (decide (x17 = (61 : Int))) = true then
        some ((IntKind.i64.wrap (a1 + (2 : Int))), (3 : Int))
       else
        w9 a1
      else
       w9 a1
     else
      w9 a1
@[reducible] def quz (a0 : BA) (a1 : Int) (r : Int × Int) : Prop :=
  Fn Tryz.prog G 98 [(.str a0), (.int .i64 a1)] (.tup [(.int .i64 r.1), (.int .i64 r.2)])
theorem qu6 : PC2 quz qb4 := fun a0 a1 r h => by
 rw [qb4.eq_def] at h
 refine zk (T := tt) (N := 84) (rs := [.tmp 4, .tmp 5]) (fun vs w => by simp) Tryz.func98 rfl rfl rfl rfl (by kernel_rfl) (jh rfl) (zp _ rfl) ?_
 refine kr [79] ?_
 refine qj (fun hb => ?_) (fun hb => ?_)
 ·replace h := qx hb h
  refine kr [79] ?_
  cases h
  exact kf
 ·replace h := qy hb h
  refine kr [79] ?_
  obtain ⟨x1, hx, h⟩ := bind_some h
  refine Yn env hx rfl rfl rfl rfl ?_
  refine kr [79] ?_
  obtain ⟨x2, hx, h⟩ := bind_some h
  refine ql (qhz _ _ hx) ?_
  refine kr [79] ?_
  refine qj (fun hb => ?_) (fun hb => ?_)
  ·replace h := qx hb h
   refine kr [79] ?_
   obtain ⟨x3, hx, h⟩ := bind_some h
   refine ql (qws _ _ _ hx) ?_
   refine kr [79] ?_
   obtain ⟨x4, hx, h⟩ := bind_some h
   refine Yn env hx rfl rfl rfl rfl ?_
   refine kr [79] ?_
   obtain ⟨x5, hx, h⟩ := bind_some h
   refine ql (Y9 _ _ hx) ?_
   refine kr [79] ?_
   refine qj (fun hb => ?_) (fun hb => ?_)
   ·replace h := qx hb h
    refine kr [79] ?_
    obtain ⟨x6, hx, h⟩ := bind_some h
    refine Kk env hx rfl rfl rfl rfl rfl ?_
    refine kr [79] ?_
    obtain ⟨x7, hx, h⟩ := bind_some h
    refine ql (qpa _ _ hx) ?_
    refine kr [79] ?_
    refine qj (fun hb => ?_) (fun hb => ?_)
    ·replace h := qx hb h
     refine kr [79] ?_
     cases h
     exact kf
    ·replace h := qy hb h
     refine kr [79] ?_
     cases h
     exact kf
   ·replace h := qy hb h
    refine kr [79] ?_
    refine qj (fun hb => ?_) (fun hb => ?_)
    ·replace h := qx hb h
     refine kr [79] ?_
     cases h
     exact kf
    ·replace h := qy hb h
     refine kr [79] ?_
     cases h
     exact kf
  ·replace h := qy hb h
   refine kr [79] ?_
   obtain ⟨x8, hx, h⟩ := bind_some h
   refine Yn env hx rfl rfl rfl rfl ?_
   refine kr [79] ?_
   obtain ⟨x9, hx, h⟩ := bind_some h
   refine ql (qu7 _ _ hx) ?_
   refine kr [79] ?_
   refine qu (fun hb => ?_) (fun hb => ?_)
   ·replace h := qy hb h
    refine kr [79] ?_
    obtain ⟨x10, hx, h⟩ := bind_some h
    refine Yn env hx rfl rfl rfl rfl ?_
    refine kr [79] ?_
    refine qr (fun hb => ?_) (fun hb => ?_)
    ·replace h := qx hb h
     refine kr [79] ?_
     refine qr (fun hb => ?_) (fun hb => ?_)
     ·replace h := qx hb h
      refine kr [79] ?_
      obtain ⟨x11, hx, h⟩ := bind_some h
      refine Yn env hx rfl rfl rfl rfl ?_
      refine kr [79] ?_
      refine qj (fun hb => ?_) (fun hb => ?_)
      ·replace h := qx hb h
       refine kr [79] ?_
       cases h
       exact kf
      ·replace h := qy hb h
       refine kr [79] ?_
       obtain ⟨x12, hx, h⟩ := bind_some h
       refine Yn env hx rfl rfl rfl rfl ?_
       refine kr [79] ?_
       refine qr (fun hb => ?_) (fun hb => ?_)
       ·replace h := qx hb h
        refine kr [79] ?_
        refine qr (fun hb => ?_) (fun hb => ?_)
        ·replace h := qx hb h
         refine kr [79] ?_
         obtain ⟨x13, hx, h⟩ := bind_some h
         refine Yn env hx rfl rfl rfl rfl ?_
         refine kr [79] ?_
         refine qj (fun hb => ?_) (fun hb => ?_)
         ·replace h := qx hb h
          refine kr [79] ?_
          cases h
          exact kf
         ·replace h := qy hb h
          refine kr [79] ?_
          exact zb (by kernel_rfl) rfl lA (ur _ _ h)
        ·replace h := qy hb h
         refine kr [79] ?_
         exact zb (by kernel_rfl) rfl lA (ur _ _ h)
       ·replace h := qy hb h
        refine kr [79] ?_
        exact zb (by kernel_rfl) rfl lA (ur _ _ h)
     ·replace h := qy hb h
      refine kr [79] ?_
      obtain ⟨x14, hx, h⟩ := bind_some h
      refine Yn env hx rfl rfl rfl rfl ?_
      refine kr [79] ?_
      refine qr (fun hb => ?_) (fun hb => ?_)
      ·replace h := qx hb h
       refine kr [79] ?_
       refine qr (fun hb => ?_) (fun hb => ?_)
       ·replace h := qx hb h
        refine kr [79] ?_
        obtain ⟨x15, hx, h⟩ := bind_some h
        refine Yn env hx rfl rfl rfl rfl ?_
        refine kr [79] ?_
        refine qj (fun hb => ?_) (fun hb => ?_)
        ·replace h := qx hb h
         refine kr [79] ?_
         cases h
         exact kf
        ·replace h := qy hb h
         refine kr [79] ?_
         exact zb (by kernel_rfl) rfl lA (ur _ _ h)
       ·replace h := qy hb h
        refine kr [79] ?_
        exact zb (by kernel_rfl) rfl lA (ur _ _ h)
      ·replace h := qy hb h
       refine kr [79] ?_
       exact zb (by kernel_rfl) rfl lA (ur _ _ h)
    ·replace h := qy hb h
     refine kr [79] ?_
     obtain ⟨x16, hx, h⟩ := bind_some h
     refine Yn env hx rfl rfl rfl rfl ?_
     refine kr [79] ?_
     refine qr (fun hb => ?_) (fun hb => ?_)
     ·replace h := qx hb h
      refine kr [79] ?_
      refine qr (fun hb => ?_) (fun hb => ?_)
      ·replace h := qx hb h
       refine kr [79] ?_
       obtain ⟨x17, hx, h⟩ := bind_some h
       refine Yn env hx rfl rfl rfl rfl ?_
       refine kr [79] ?_
       refine qj (fun hb => ?_) (fun hb => ?_)
       ·replace h := qx hb h
        refine kr [79] ?_
        cases h
        exact kf
       ·replace h := qy hb h
        refine kr [79] ?_
        exact zb (by kernel_rfl) rfl lA (ur _ _ h)
      ·replace h := qy hb h
       refine kr [79] ?_
       exact zb (by kernel_rfl) rfl lA (ur _ _ h)
     ·replace h := qy hb h
      refine kr [79] ?_
      exact zb (by kernel_rfl) rfl lA (ur _ _ h)
   ·replace h := qx hb h
    refine kr [79] ?_
    cases h
    exact kf
def vi (t0 : BA) (t5 : (List Token)) (t6 : Int) : Option ((List Token) × Int × Int) :=
 if (decide (t6 ≤ (t0.size : Int))) = true then
  qer (qb t0) (qb t6) >>= fun x1 =>
  if (decide ((t0.size : Int) ≤ x1)) = true then
   ssub t0 t6 (t0.size : Int) >>= fun x2 =>
   app 48 t5 ([(Token.mk (4 : Int) x2 (⟨#[]⟩) (t0.size : Int))]) >>= fun x3 =>
   some (x3, (0 : Int), (0 : Int))
  else
   qb4 (qb t0) (qb x1) >>= fun x4 =>
   if (decide (x4.2 = (0 : Int))) = true then
    some (([] : (List Token)), (1 : Int), x1)
   else
    ssub t0 t6 x1 >>= fun x5 =>
    ssub t0 x1 x4.1 >>= fun x6 =>
    app 48 t5 ([(Token.mk x4.2 x5 x6 x1)]) >>= fun x7 =>
    vi (qb t0) (qb x7) x4.1
 else
  some (t5, (0 : Int), (0 : Int))
 partial_fixpoint
@[reducible] def qei (t0 : BA) (t5 : (List Token)) (t6 : Int) (r : (List Token) × Int × Int) : Prop :=
  Ok Tryz.prog G tt 59 0 (Ret Tryz.prog [.tmp 2, .tmp 3, .tmp 4] (fun y H => Told Tryz.prog G H y (.tup [(.sl 4 false (r.1.map Token.cells)), (.int .i64 r.2.1), (.int .i64 r.2.2)]))) (.again (yy [] Tryz.f58 0).1 (yy [] Tryz.f58 0).2 (.n (.str t0) (.n .undef .z (.n (.bs 4 0 0 0 t5.length) .z .z)) (.n .undef .z (.n (.int .i64 t6) .z .z))) 1 [(0, .row 49 (t5.map Token.cells).flatten)])
theorem qay : PC3 qei vi := by
 refine vi.partial_correctness qei (fun vi qay t0 t5 t6 r h => ?_)
 ·unfold qb at h
  refine kt ?_
  refine kr [] ?_
  refine qj (fun hb => ?_) (fun hb => ?_)
  ·replace h := qx hb h
   refine kr [] ?_
   obtain ⟨x1, hx, h⟩ := bind_some h
   refine ql (qwt _ _ _ hx) ?_
   refine kr [] ?_
   refine qj (fun hb => ?_) (fun hb => ?_)
   ·replace h := qx hb h
    refine kr [] ?_
    obtain ⟨x2, hx, h⟩ := bind_some h
    refine Kk env hx rfl rfl rfl rfl rfl ?_
    refine kr [] ?_
    obtain ⟨x3, hx, h⟩ := bind_some h
    have hp_x3 := jx hx (by simp)
    refine y7 (C := Token.cells) env hx rfl rfl (by simp) (fun _ => rfl) rfl rfl rfl rfl rfl (by decide) rfl rfl rfl ?_
    refine kr [] ?_
    cases h
    exact zd env rfl rfl (zt (zr (qc (q5 (z8 Yz rfl) (by simp)) (qc (q5 (qi rfl) (by simp)) (qc (q5 (qi rfl) (by simp)) zg)))))
   ·replace h := qy hb h
    refine kr [] ?_
    obtain ⟨x4, hx, h⟩ := bind_some h
    refine ql (qu6 _ _ _ hx) ?_
    refine kr [] ?_
    refine qj (fun hb => ?_) (fun hb => ?_)
    ·replace h := qx hb h
     refine kr [] ?_
     cases h
     exact zd env rfl rfl (zt (zr (qc (q5 (qv (.inr rfl)) (by simp)) (qc (q5 (qi rfl) (by simp)) (qc (q5 (qi rfl) (by simp)) zg)))))
    ·replace h := qy hb h
     refine kr [] ?_
     obtain ⟨x5, hx, h⟩ := bind_some h
     refine Kk env hx rfl rfl rfl rfl rfl ?_
     refine kr [] ?_
     obtain ⟨x6, hx, h⟩ := bind_some h
     refine Kk env hx rfl rfl rfl rfl rfl ?_
     refine kr [] ?_
     obtain ⟨x7, hx, h⟩ := bind_some h
     have hp_x7 := jx hx (by simp)
     refine y7 (C := Token.cells) env hx rfl rfl (by simp) (fun _ => rfl) rfl rfl rfl rfl rfl (by decide) rfl rfl rfl ?_
     refine kr [] ?_
     exact j4 (by kernel_rfl) lA (qay _ _ _ _ h)
  ·replace h := qy hb h
   refine kr [] ?_
   cases h
   exact zd env rfl rfl (zt (zr (qc (q5 (z8 Yz rfl) (by simp)) (qc (q5 (qi rfl) (by simp)) (qc (q5 (qi rfl) (by simp)) zg)))))
def qbc (a0 : BA) : Option ((List Token) × Int × Int) :=
 if (decide ((65536 : Int) < (a0.size : Int))) = true then
  some (([] : (List Token)), (3 : Int), (0 : Int))
 else
  vi a0 ([] : List Token) (0 : Int)
@[reducible] def qps (a0 : BA) (r : (List Token) × Int × Int) : Prop :=
  Fn Tryz.prog G 58 [(.str a0)] (.tup [(.sl 4 false (r.1.map Token.cells)), (.int .i64 r.2.1), (.int .i64 r.2.2)])
theorem qpv : PC1 qps qbc := fun a0 r h => by
 rw [qbc.eq_def] at h
 refine zk (T := tt) (N := 59) (rs := [.tmp 2, .tmp 3, .tmp 4]) (fun vs w => by simp) Tryz.func58 rfl rfl rfl rfl (by kernel_rfl) (jh rfl) (zp _ rfl) ?_
 refine kr [] ?_
 refine qj (fun hb => ?_) (fun hb => ?_)
 ·replace h := qx hb h
  refine kr [] ?_
  cases h
  exact zd env rfl rfl (zt (zr (qc (q5 (qv (.inr rfl)) (by simp)) (qc (q5 (qi rfl) (by simp)) (qc (q5 (qi rfl) (by simp)) zg)))))
 ·replace h := qy hb h
  refine kr [] ?_
  refine qwl 5 _ 4 49 rfl rfl ?_
  exact yo (by kernel_rfl) lA (qay _ _ _ _ h)
def Y1 (a0 : BA) : Option ((List Token) × Int × Int) :=
 if (decide ((65536 : Int) < (a0.size : Int))) = true then
  some (([] : (List Token)), (3 : Int), (0 : Int))
 else
  qbc a0 >>= fun x1 =>
  some (x1.1, x1.2.1, x1.2.2)
@[reducible] def qpp (a0 : BA) (r : (List Token) × Int × Int) : Prop :=
  Fn Tryz.prog G 25 [(.str a0)] (.tup [(.sl 4 false (r.1.map Token.cells)), (.int .i64 r.2.1), (.int .i64 r.2.2)])
theorem qdr : PC1 qpp Y1 := fun a0 r h => by
 rw [Y1.eq_def] at h
 refine zk (T := tt) (N := 13) (rs := [.tmp 2, .tmp 3, .tmp 4]) (fun vs w => by simp) Tryz.func25 rfl rfl rfl rfl (by kernel_rfl) (jh rfl) (zp _ rfl) ?_
 refine kr [] ?_
 refine qj (fun hb => ?_) (fun hb => ?_)
 ·replace h := qx hb h
  refine kr [] ?_
  cases h
  exact zd env rfl rfl (zt (zr (qc (q5 (qv (.inr rfl)) (by simp)) (qc (q5 (qi rfl) (by simp)) (qc (q5 (qi rfl) (by simp)) zg)))))
 ·replace h := qy hb h
  refine kr [] ?_
  obtain ⟨x1, hx, h⟩ := bind_some h
  refine ql (qpv _ _ hx) ?_
  refine kr [] ?_
  cases h
  exact kf
def yc (a0 : (List Token)) (a1 : Int) (a2 : BA) : Option Bool :=
 ix a0 a1 >>= fun x1 =>
 some (decide (x1.Text = a2))
@[reducible] def qzv (a0 : (List Token)) (a1 : Int) (a2 : BA) (r : Bool) : Prop :=
  Fn Tryz.prog G 59 [(.sl 4 false (a0.map Token.cells)), (.int .i64 a1), (.str a2)] (.bool r)
theorem jy : PC3 qzv yc := fun a0 a1 a2 r h => by
 rw [yc.eq_def] at h
 refine zk (T := tt) (N := 14) (rs := [.tmp 6]) (fun vs w => by simp) Tryz.func59 rfl rfl rfl rfl (by kernel_rfl) (jh rfl) (zp _ rfl) ?_
 refine kr [] ?_
 obtain ⟨x1, hx, h⟩ := bind_some h
 refine jo env hx rfl rfl rfl rfl rfl ?_
 refine kr [] ?_
 cases h
 exact kf
def Ke (a0 : (List Token)) (a1 : Int) : Option Bool :=
 ix a0 a1 >>= fun x1 =>
 if (decide (x1.Kind = (1 : Int))) = true then
  ix a0 a1 >>= fun x2 =>
  qiw x2.Text >>= fun x3 =>
  some x3
 else
  some false
@[reducible] def quu (a0 : (List Token)) (a1 : Int) (r : Bool) : Prop :=
  Fn Tryz.prog G 77 [(.sl 4 false (a0.map Token.cells)), (.int .i64 a1)] (.bool r)
theorem qba : PC2 quu Ke := fun a0 a1 r h => by
 rw [Ke.eq_def] at h
 refine zk (T := tt) (N := 19) (rs := [.tmp 4]) (fun vs w => by simp) Tryz.func77 rfl rfl rfl rfl (by kernel_rfl) (jh rfl) (zp _ rfl) ?_
 refine kr [] ?_
 obtain ⟨x1, hx, h⟩ := bind_some h
 refine jo env hx rfl rfl rfl rfl rfl ?_
 refine kr [] ?_
 refine qr (fun hb => ?_) (fun hb => ?_)
 ·replace h := qx hb h
  refine kr [] ?_
  obtain ⟨x2, hx, h⟩ := bind_some h
  refine jo env hx rfl rfl rfl rfl rfl ?_
  refine kr [] ?_
  obtain ⟨x3, hx, h⟩ := bind_some h
  refine ql (qsn _ _ hx) ?_
  refine kr [] ?_
  cases h
  exact kf
 ·replace h := qy hb h
  refine kr [] ?_
  cases h
  exact kf
def K9 (a0 : (List Token)) (a1 : Int) : Option (Node × Int × Bool) :=
 Ke a0 a1 >>= fun x1 =>
 if (!x1) = true then
  some ((Node.mk 0 (⟨#[]⟩) ([] : LB) ([] : LN)), a1, false)
 else
  ix a0 a1 >>= fun x2 =>
  ix a0 a1 >>= fun x3 =>
  some ((Node.mk (5 : Int) x2.Text ([x3.Lead]) ([] : LN)), (IntKind.i64.wrap (a1 + (1 : Int))), true)
@[reducible] def qsf (a0 : (List Token)) (a1 : Int) (r : Node × Int × Bool) : Prop :=
  Fn Tryz.prog G 101 [(.sl 4 false (a0.map Token.cells)), (.int .i64 a1)] (.tup [(.agg (zf r.1)), (.int .i64 r.2.1), (.bool r.2.2)])
theorem qj6 : PC2 qsf K9 := fun a0 a1 r h => by
 rw [K9.eq_def] at h
 refine zk (T := tt) (N := 27) (rs := [.cell 4 26, .tmp 5, .tmp 6]) (fun vs w => by simp) Tryz.func101 rfl rfl rfl rfl (by kernel_rfl) (jh rfl) (zp _ rfl) ?_
 refine kr [] ?_
 obtain ⟨x1, hx, h⟩ := bind_some h
 refine ql (qba _ _ _ hx) ?_
 refine kr [] ?_
 refine qj (fun hb => ?_) (fun hb => ?_)
 ·replace h := qx hb h
  refine kr [] ?_
  cases h
  exact zd env rfl rfl (zt (zr (qc (jb (qa (qi rfl) (qa (q6 rfl) (qa (qv (.inr rfl)) (qa (qv (.inr rfl)) z1))))) (qc (q5 (qi rfl) (by simp)) (qc (q5 (ze rfl) (by simp)) zg)))))
 ·replace h := qy hb h
  refine kr [] ?_
  obtain ⟨x2, hx, h⟩ := bind_some h
  refine jo env hx rfl rfl rfl rfl rfl ?_
  refine kr [] ?_
  obtain ⟨x3, hx, h⟩ := bind_some h
  refine jo env hx rfl rfl rfl rfl rfl ?_
  refine kr [] ?_
  cases h
  exact zd env rfl rfl (zt (zr (qc (jb (qa (qi rfl) (qa (q6 rfl) (qa (qv (.inl rfl)) (qa (qv (.inr rfl)) z1))))) (qc (q5 (qi rfl) (by simp)) (qc (q5 (ze rfl) (by simp)) zg)))))
def Jn (t0 : (List Token)) (t1 : Int) (o1_0 : Int) (o1_1 : BA) (o1_2 : LB) (o1_3 : LN) : Option (Node × Int × Bool) :=
 ix t0 t1 >>= fun x9 =>
 app 16 o1_2 ([x9.Lead]) >>= fun x10 =>
 some ((Node.mk o1_0 o1_1 x10 o1_3), (IntKind.i64.wrap (t1 + (1 : Int))), true)
@[reducible] def qkx (t0 : (List Token)) (t1 : Int) (o1_0 : Int) (o1_1 : BA) (o1_2 : LB) (o1_3 : LN) (r : Node × Int × Bool) : Prop :=
  Ok Tryz.prog G tt 122 0 (Ret Tryz.prog [.cell 4 26, .tmp 5, .tmp 6] (fun y H => Told Tryz.prog G H y (.tup [(.agg (zf r.1)), (.int .i64 r.2.1), (.bool r.2.2)]))) (.go [] (qda [1000000, 40, 44, 2000019, 2000020] Tryz.f100 0) [] (.n (.sl 4 false (t0.map Token.cells)) (.n (.int .i64 t1) (.n .undef (.n (.ptr 1 1 0) .z .z) .z) .z) (.n .undef (.n (.ptr 0 0 0) .z .z) .z)) 4 [(0, .var 26 [(.int .i64 0), (.str ⟨#[]⟩), (.sl 0 true []), (.sl 0 true [])]), (1, .var 26 [(.int .i64 o1_0), (.str o1_1), (.bs 1 2 2 0 o1_2.length), (.bs 4 3 3 0 o1_3.length)]), (2, .row 9 (o1_2.map sc).flatten), (3, .row 26 (o1_3.map Node.cells).flatten)])
theorem qek : PC6 qkx Jn := fun t0 t1 o1_0 o1_1 o1_2 o1_3 r h => by
 rw [Jn.eq_def] at h
 refine kr [1000000, 40, 44, 2000019, 2000020] ?_
 obtain ⟨x9, hx, h⟩ := bind_some h
 refine jo env hx rfl rfl rfl rfl rfl ?_
 refine kr [1000000, 40, 44, 2000019, 2000020] ?_
 obtain ⟨x10, hx, h⟩ := bind_some h
 have hp_x10 := jx hx (by simp)
 refine y7 (C := sc) env hx rfl rfl (by simp) (fun _ => rfl) rfl rfl rfl rfl rfl (by decide) rfl rfl rfl ?_
 refine kr [1000000, 40, 44, 2000019, 2000020] ?_
 cases h
 exact zd env rfl rfl (zt (zr (qc (jb (qa (qi rfl) (qa (q6 rfl) (qa (z8 yp rfl) (qa (z8 zo rfl) z1))))) (qc (q5 (qi rfl) (by simp)) (qc (q5 (ze rfl) (by simp)) zg)))))
mutual
def vg (t0 : (List Token)) (t1 : Int) (o1_0 : Int) (o1_1 : BA) (o1_2 : LB) (o1_3 : LN) : Option (Node × Int × Bool) :=
 yc (qb t0) (qb t1) (⟨#[41]⟩ : BA) >>= fun x4 =>
 if (!x4) = true then
  Zz (qb t0) (qb t1) (qb o1_0) (qb o1_1) (qb o1_2) (qb o1_3)
 else
  if (decide ((0 : Int) < (o1_3.length : Int))) = true then
   Zz (qb t0) (qb t1) (qb o1_0) (qb o1_1) (qb o1_2) (qb o1_3)
  else
   Jn (qb t0) (qb t1) (qb o1_0) (qb o1_1) (qb o1_2) (qb o1_3)
 partial_fixpoint
def Zz (t0 : (List Token)) (t1 : Int) (o1_0 : Int) (o1_1 : BA) (o1_2 : LB) (o1_3 : LN) : Option (Node × Int × Bool) :=
 if (decide ((0 : Int) < (o1_3.length : Int))) = true then
  yc (qb t0) (qb t1) (⟨#[41]⟩ : BA) >>= fun x5 =>
  if x5 = true then
   Jn (qb t0) (qb t1) (qb o1_0) (qb o1_1) (qb o1_2) (qb o1_3)
  else
   yc (qb t0) (qb t1) (⟨#[44]⟩ : BA) >>= fun x6 =>
   if (!x6) = true then
    some ((Node.mk 0 (⟨#[]⟩) ([] : LB) ([] : LN)), t1, false)
   else
    ix t0 t1 >>= fun x7 =>
    app 16 o1_2 ([x7.Lead]) >>= fun x8 =>
    Qv (qb t0) (IntKind.i64.wrap (t1 + (1 : Int))) (qb o1_0) (qb o1_1) (qb x8) (qb o1_3)
 else
  Qv (qb t0) (qb t1) (qb o1_0) (qb o1_1) (qb o1_2) (qb o1_3)
 partial_fixpoint
def Qv (t0 : (List Token)) (t1 : Int) (o1_0 : Int) (o1_1 : BA) (o1_2 : LB) (o1_3 : LN) : Option (Node × Int × Bool) :=
 Ke (qb t0) (qb t1) >>= fun x11 =>
 if (!x11) = true then
  some ((Node.mk 0 (⟨#[]⟩) ([] : LB) ([] : LN)), t1, false)
 else
  ix t0 t1 >>= fun x12 =>
  ix t0 t1 >>= fun x13 =>
  K9 (qb t0) (IntKind.i64.wrap (t1 + (1 : Int))) >>= fun x14 =>
  if (!x14.2.2) = true then
   some ((Node.mk 0 (⟨#[]⟩) ([] : LB) ([] : LN)), x14.2.1, false)
  else
   app 72 ([] : LN) ([x14.1]) >>= fun x15 =>
   app 72 o1_3 ([(Node.mk (4 : Int) x12.Text ([x13.Lead]) x15)]) >>= fun x16 =>
   vg (qb t0) x14.2.1 (qb o1_0) (qb o1_1) (qb o1_2) (qb x16)
 partial_fixpoint
end
@[reducible] def qas (t0 : (List Token)) (t1 : Int) (o1_0 : Int) (o1_1 : BA) (o1_2 : LB) (o1_3 : LN) (r : Node × Int × Bool) : Prop :=
  Ok Tryz.prog G tt 122 0 (Ret Tryz.prog [.cell 4 26, .tmp 5, .tmp 6] (fun y H => Told Tryz.prog G H y (.tup [(.agg (zf r.1)), (.int .i64 r.2.1), (.bool r.2.2)]))) (.again (yy [1000000, 40, 44, 2000019, 2000020] Tryz.f100 0).1 (yy [1000000, 40, 44, 2000019, 2000020] Tryz.f100 0).2 (.n (.sl 4 false (t0.map Token.cells)) (.n (.int .i64 t1) (.n .undef (.n (.ptr 1 1 0) .z .z) .z) .z) (.n .undef (.n (.ptr 0 0 0) .z .z) .z)) 4 [(0, .var 26 [(.int .i64 0), (.str ⟨#[]⟩), (.sl 0 true []), (.sl 0 true [])]), (1, .var 26 [(.int .i64 o1_0), (.str o1_1), (.bs 1 2 2 0 o1_2.length), (.bs 4 3 3 0 o1_3.length)]), (2, .row 9 (o1_2.map sc).flatten), (3, .row 26 (o1_3.map Node.cells).flatten)])
@[reducible] def W1 (t0 : (List Token)) (t1 : Int) (o1_0 : Int) (o1_1 : BA) (o1_2 : LB) (o1_3 : LN) (r : Node × Int × Bool) : Prop :=
  Ok Tryz.prog G tt 122 0 (Ret Tryz.prog [.cell 4 26, .tmp 5, .tmp 6] (fun y H => Told Tryz.prog G H y (.tup [(.agg (zf r.1)), (.int .i64 r.2.1), (.bool r.2.2)]))) (.go [] (Qh [1000000, 40, 44, 2000019, 2000020] Tryz.f100 40) [] (.n (.sl 4 false (t0.map Token.cells)) (.n (.int .i64 t1) (.n .undef (.n (.ptr 1 1 0) .z .z) .z) .z) (.n .undef (.n (.ptr 0 0 0) .z .z) .z)) 4 [(0, .var 26 [(.int .i64 0), (.str ⟨#[]⟩), (.sl 0 true []), (.sl 0 true [])]), (1, .var 26 [(.int .i64 o1_0), (.str o1_1), (.bs 1 2 2 0 o1_2.length), (.bs 4 3 3 0 o1_3.length)]), (2, .row 9 (o1_2.map sc).flatten), (3, .row 26 (o1_3.map Node.cells).flatten)])
@[reducible] def W0 (t0 : (List Token)) (t1 : Int) (o1_0 : Int) (o1_1 : BA) (o1_2 : LB) (o1_3 : LN) (r : Node × Int × Bool) : Prop :=
  Ok Tryz.prog G tt 122 0 (Ret Tryz.prog [.cell 4 26, .tmp 5, .tmp 6] (fun y H => Told Tryz.prog G H y (.tup [(.agg (zf r.1)), (.int .i64 r.2.1), (.bool r.2.2)]))) (.go [] (Qh [1000000, 40, 44, 2000019, 2000020] Tryz.f100 44) [] (.n (.sl 4 false (t0.map Token.cells)) (.n (.int .i64 t1) (.n .undef (.n (.ptr 1 1 0) .z .z) .z) .z) (.n .undef (.n (.ptr 0 0 0) .z .z) .z)) 5 [(0, .var 26 [(.int .i64 0), (.str ⟨#[]⟩), (.sl 0 true []), (.sl 0 true [])]), (1, .var 26 [(.int .i64 o1_0), (.str o1_1), (.bs 1 2 4 0 o1_2.length), (.bs 4 3 3 0 o1_3.length)]), (4, .row 9 (o1_2.map sc).flatten), (3, .row 26 (o1_3.map Node.cells).flatten)])
theorem Wa : PC6 qas vg ∧ PC6 W1 Zz ∧ PC6 W0 Qv := by
 refine vg.mutual_partial_correctness qas W1 W0 (fun Zz W5 t0 t1 o1_0 o1_1 o1_2 o1_3 r h => ?_) (fun Qv W4 t0 t1 o1_0 o1_1 o1_2 o1_3 r h => ?_) (fun vg qax t0 t1 o1_0 o1_1 o1_2 o1_3 r h => ?_)
 ·unfold qb at h
  refine kt ?_
  refine kr [1000000, 40, 44, 2000019, 2000020] ?_
  obtain ⟨x4, hx, h⟩ := bind_some h
  refine ql (jy _ _ _ _ hx) ?_
  refine kr [1000000, 40, 44, 2000019, 2000020] ?_
  refine qu (fun hb => ?_) (fun hb => ?_)
  ·replace h := qy hb h
   refine kr [1000000, 40, 44, 2000019, 2000020] ?_
   refine qj (fun hb => ?_) (fun hb => ?_)
   ·replace h := qx hb h
    refine kr [1000000, 40, 44, 2000019, 2000020] ?_
    exact zb (by kernel_rfl) rfl lA (W5 _ _ _ _ _ _ _ h)
   ·replace h := qy hb h
    refine kr [1000000, 40, 44, 2000019, 2000020] ?_
    exact zb (by kernel_rfl) rfl lA (qek _ _ _ _ _ _ _ h)
  ·replace h := qx hb h
   refine kr [1000000, 40, 44, 2000019, 2000020] ?_
   exact zb (by kernel_rfl) rfl lA (W5 _ _ _ _ _ _ _ h)
 ·unfold qb at h
  refine kr [1000000, 40, 44, 2000019, 2000020] ?_
  refine qj (fun hb => ?_) (fun hb => ?_)
  ·replace h := qx hb h
   refine kr [1000000, 40, 44, 2000019, 2000020] ?_
   obtain ⟨x5, hx, h⟩ := bind_some h
   refine ql (jy _ _ _ _ hx) ?_
   refine kr [1000000, 40, 44, 2000019, 2000020] ?_
   refine qj (fun hb => ?_) (fun hb => ?_)
   ·replace h := qx hb h
    refine kr [1000000, 40, 44, 2000019, 2000020] ?_
    exact zb (by kernel_rfl) rfl lA (qek _ _ _ _ _ _ _ h)
   ·replace h := qy hb h
    refine kr [1000000, 40, 44, 2000019, 2000020] ?_
    obtain ⟨x6, hx, h⟩ := bind_some h
    refine ql (jy _ _ _ _ hx) ?_
    refine kr [1000000, 40, 44, 2000019, 2000020] ?_
    refine qj (fun hb => ?_) (fun hb => ?_)
    ·replace h := qx hb h
     refine kr [1000000, 40, 44, 2000019, 2000020] ?_
     cases h
     exact zd env rfl rfl (zt (zr (qc (jb (qa (qi rfl) (qa (q6 rfl) (qa (qv (.inr rfl)) (qa (qv (.inr rfl)) z1))))) (qc (q5 (qi rfl) (by simp)) (qc (q5 (ze rfl) (by simp)) zg)))))
    ·replace h := qy hb h
     refine kr [1000000, 40, 44, 2000019, 2000020] ?_
     obtain ⟨x7, hx, h⟩ := bind_some h
     refine jo env hx rfl rfl rfl rfl rfl ?_
     refine kr [1000000, 40, 44, 2000019, 2000020] ?_
     obtain ⟨x8, hx, h⟩ := bind_some h
     have hp_x8 := jx hx (by simp)
     refine y7 (C := sc) env hx rfl rfl (by simp) (fun _ => rfl) rfl rfl rfl rfl rfl (by decide) rfl rfl rfl ?_
     refine kr [1000000, 40, 44, 2000019, 2000020] ?_
     exact zb (by kernel_rfl) rfl lA (W4 _ _ _ _ _ _ _ h)
  ·replace h := qy hb h
   refine kr [1000000, 40, 44, 2000019, 2000020] ?_
   exact zb (by kernel_rfl) rfl lA (W4 _ _ _ _ _ _ _ h)
 ·unfold qb at h
  refine kr [1000000, 40, 44, 2000019, 2000020] ?_
  obtain ⟨x11, hx, h⟩ := bind_some h
  refine ql (qba _ _ _ hx) ?_
  refine kr [1000000, 40, 44, 2000019, 2000020] ?_
  refine qj (fun hb => ?_) (fun hb => ?_)
  ·replace h := qx hb h
   refine kr [1000000, 40, 44, 2000019, 2000020] ?_
   cases h
   exact zd env rfl rfl (zt (zr (qc (jb (qa (qi rfl) (qa (q6 rfl) (qa (qv (.inr rfl)) (qa (qv (.inr rfl)) z1))))) (qc (q5 (qi rfl) (by simp)) (qc (q5 (ze rfl) (by simp)) zg)))))
  ·replace h := qy hb h
   refine kr [1000000, 40, 44, 2000019, 2000020] ?_
   obtain ⟨x12, hx, h⟩ := bind_some h
   refine jo env hx rfl rfl rfl rfl rfl ?_
   refine kr [1000000, 40, 44, 2000019, 2000020] ?_
   obtain ⟨x13, hx, h⟩ := bind_some h
   refine jo env hx rfl rfl rfl rfl rfl ?_
   refine kr [1000000, 40, 44, 2000019, 2000020] ?_
   obtain ⟨x14, hx, h⟩ := bind_some h
   refine ql (qj6 _ _ _ hx) ?_
   refine kr [1000000, 40, 44, 2000019, 2000020] ?_
   refine qj (fun hb => ?_) (fun hb => ?_)
   ·replace h := qx hb h
    refine kr [1000000, 40, 44, 2000019, 2000020] ?_
    cases h
    exact zd env rfl rfl (zt (zr (qc (jb (qa (qi rfl) (qa (q6 rfl) (qa (qv (.inr rfl)) (qa (qv (.inr rfl)) z1))))) (qc (q5 (qi rfl) (by simp)) (qc (q5 (ze rfl) (by simp)) zg)))))
   ·replace h := qy hb h
    refine kr [1000000, 40, 44, 2000019, 2000020] ?_
    obtain ⟨x15, hx, h⟩ := bind_some h
    have hp_x15 := jx hx (by simp)
    refine Y7 (C := Node.cells) env hx rfl (.inr rfl) (show _ = AV.sl _ _ (List.map Node.cells [x14.1]) from (by simp only [List.map_cons, List.map_nil, Node.cells_eq]; rfl)) (by simp) rfl rfl rfl rfl rfl (by decide) rfl rfl ?_
    refine kr [1000000, 40, 44, 2000019, 2000020] ?_
    refine vk 4 3 6 zo rfl rfl rfl rfl rfl rfl ?_
    refine qap ?_
    refine kr [1000000, 40, 44, 2000019, 2000020] ?_
    obtain ⟨x16, hx, h⟩ := bind_some h
    have hp_x16 := jx hx (by simp)
    have hr_x16 := hx
    refine q2l (C := Node.cells) env hx rfl rfl rfl (by simp) Node.cells_len rfl rfl rfl rfl rfl (by decide) rfl rfl rfl ?_
    refine kr [1000000, 40, 44, 2000019, 2000020] ?_
    refine q3z 3 8 26 (cs' := (x16.map Node.cells).flatten) rfl rfl (qz4 hr_x16 (by simp only [List.map_cons, List.map_nil, Node.cells_eq]; exact (qiz (Wl _) (qiz (Wl _) (qiz (qvi (.inl rfl)) (qiz (Wl _) q2r)))))) ?_
    refine qap ?_
    refine kr [1000000, 40, 44, 2000019, 2000020] ?_
    exact j4 (by kernel_rfl) lA (qax _ _ _ _ _ _ _ h)
theorem qax : PC6 qas vg := Wa.1
theorem W5 : PC6 W1 Zz := Wa.2.1
theorem W4 : PC6 W0 Qv := Wa.2.2
def Wi (a0 : (List Token)) (a1 : Int) : Option (Node × Int × Bool) :=
 yc a0 a1 (⟨#[40]⟩ : BA) >>= fun x1 =>
 if (!x1) = true then
  some ((Node.mk 0 (⟨#[]⟩) ([] : LB) ([] : LN)), a1, false)
 else
  ix a0 a1 >>= fun x2 =>
  app 16 ([] : LB) ([x2.Lead]) >>= fun x3 =>
  vg a0 (IntKind.i64.wrap (a1 + (1 : Int))) (3 : Int) (⟨#[]⟩) x3 ([] : LN)
@[reducible] def qpq (a0 : (List Token)) (a1 : Int) (r : Node × Int × Bool) : Prop :=
  Fn Tryz.prog G 100 [(.sl 4 false (a0.map Token.cells)), (.int .i64 a1)] (.tup [(.agg (zf r.1)), (.int .i64 r.2.1), (.bool r.2.2)])
theorem qpu : PC2 qpq Wi := fun a0 a1 r h => by
 rw [Wi.eq_def] at h
 refine zk (T := tt) (N := 122) (rs := [.cell 4 26, .tmp 5, .tmp 6]) (fun vs w => by simp) Tryz.func100 rfl rfl rfl rfl (by kernel_rfl) (jh rfl) (zp _ rfl) ?_
 refine kr [1000000, 40, 44, 2000019, 2000020] ?_
 obtain ⟨x1, hx, h⟩ := bind_some h
 refine ql (jy _ _ _ _ hx) ?_
 refine kr [1000000, 40, 44, 2000019, 2000020] ?_
 refine qj (fun hb => ?_) (fun hb => ?_)
 ·replace h := qx hb h
  refine kr [1000000, 40, 44, 2000019, 2000020] ?_
  cases h
  exact zd env rfl rfl (zt (zr (qc (jb (qa (qi rfl) (qa (q6 rfl) (qa (qv (.inr rfl)) (qa (qv (.inr rfl)) z1))))) (qc (q5 (qi rfl) (by simp)) (qc (q5 (ze rfl) (by simp)) zg)))))
 ·replace h := qy hb h
  refine kr [1000000, 40, 44, 2000019, 2000020] ?_
  obtain ⟨x2, hx, h⟩ := bind_some h
  refine jo env hx rfl rfl rfl rfl rfl ?_
  refine kr [1000000, 40, 44, 2000019, 2000020] ?_
  obtain ⟨x3, hx, h⟩ := bind_some h
  have hp_x3 := jx hx (by simp)
  refine Y7 (C := sc) env hx rfl (.inr rfl) rfl (by simp) rfl rfl rfl rfl rfl (by decide) rfl rfl ?_
  refine kr [1000000, 40, 44, 2000019, 2000020] ?_
  refine qhl 1 3 4 26 rfl rfl rfl ?_
  exact yo (by kernel_rfl) lA (qax _ _ _ _ _ _ _ h)
def qcz (a0 : BA) : Option Int :=
 if (decide (a0 = (⟨#[124]⟩ : BA))) = true then
  some (1 : Int)
 else
  if (decide (a0 = (⟨#[38]⟩ : BA))) = true then
   some (2 : Int)
  else
   if (decide (a0 = (⟨#[61, 61]⟩ : BA))) = true then
    some (3 : Int)
   else
    if (decide (a0 = (⟨#[60]⟩ : BA))) = true then
     some (3 : Int)
    else
     if (decide (a0 = (⟨#[43]⟩ : BA))) = true then
      some (4 : Int)
     else
      if (decide (a0 = (⟨#[45]⟩ : BA))) = true then
       some (4 : Int)
      else
       if (decide (a0 = (⟨#[42]⟩ : BA))) = true then
        some (5 : Int)
       else
        if (decide (a0 = (⟨#[47]⟩ : BA))) = true then
         some (5 : Int)
        else
         some (0 : Int)
@[reducible] def qsg (a0 : BA) (r : Int) : Prop :=
  Fn Tryz.prog G 69 [(.str a0)] (.int .i64 r)
theorem qsk : PC1 qsg qcz := fun a0 r h => by
 rw [qcz.eq_def] at h
 refine zk (T := tt) (N := 17) (rs := [.tmp 2]) (fun vs w => by simp) Tryz.func69 rfl rfl rfl rfl (by kernel_rfl) (jh rfl) (zp _ rfl) ?_
 refine kr [] ?_
 refine qj (fun hb => ?_) (fun hb => ?_)
 ·replace h := qx hb h
  refine kr [] ?_
  cases h
  exact kf
 ·replace h := qy hb h
  refine kr [] ?_
  refine qj (fun hb => ?_) (fun hb => ?_)
  ·replace h := qx hb h
   refine kr [] ?_
   cases h
   exact kf
  ·replace h := qy hb h
   refine kr [] ?_
   refine qj (fun hb => ?_) (fun hb => ?_)
   ·replace h := qx hb h
    refine kr [] ?_
    cases h
    exact kf
   ·replace h := qy hb h
    refine kr [] ?_
    refine qj (fun hb => ?_) (fun hb => ?_)
    ·replace h := qx hb h
     refine kr [] ?_
     cases h
     exact kf
    ·replace h := qy hb h
     refine kr [] ?_
     refine qj (fun hb => ?_) (fun hb => ?_)
     ·replace h := qx hb h
      refine kr [] ?_
      cases h
      exact kf
     ·replace h := qy hb h
      refine kr [] ?_
      refine qj (fun hb => ?_) (fun hb => ?_)
      ·replace h := qx hb h
       refine kr [] ?_
       cases h
       exact kf
      ·replace h := qy hb h
       refine kr [] ?_
       refine qj (fun hb => ?_) (fun hb => ?_)
       ·replace h := qx hb h
        refine kr [] ?_
        cases h
        exact kf
       ·replace h := qy hb h
        refine kr [] ?_
        refine qj (fun hb => ?_) (fun hb => ?_)
        ·replace h := qx hb h
         refine kr [] ?_
         cases h
         exact kf
        ·replace h := qy hb h
         refine kr [] ?_
         cases h
         exact kf
def wm (t0 : (List Token)) (t1 : Int) (t2 : LB) (t9 : LB) (t10 : Int) : Option (LB × Int × Bool) :=
 if (decide (t10 < ((t2.map sc).length : Int))) = true then
  ix t2 t10 >>= fun x1 =>
  if (decide (x1 = (⟨#[]⟩ : BA))) = true then
   Ke (qb t0) (qb t1) >>= fun x2 =>
   if (!x2) = true then
    some (([] : LB), t1, false)
   else
    ix t2 t10 >>= fun x3 =>
    if (!decide (x3 = (⟨#[]⟩ : BA))) = true then
     ix t2 t10 >>= fun x4 =>
     yc (qb t0) (qb t1) (qb x4) >>= fun x5 =>
     if (!x5) = true then
      some (([] : LB), t1, false)
     else
      ix t0 t1 >>= fun x6 =>
      app 16 t9 ([x6.Lead]) >>= fun x7 =>
      wm (qb t0) (IntKind.i64.wrap (t1 + (1 : Int))) (qb t2) (qb x7) (IntKind.i64.wrap (t10 + (1 : Int)))
    else
     ix t0 t1 >>= fun x8 =>
     app 16 t9 ([x8.Lead]) >>= fun x9 =>
     wm (qb t0) (IntKind.i64.wrap (t1 + (1 : Int))) (qb t2) (qb x9) (IntKind.i64.wrap (t10 + (1 : Int)))
  else
   ix t2 t10 >>= fun x10 =>
   if (!decide (x10 = (⟨#[]⟩ : BA))) = true then
    ix t2 t10 >>= fun x11 =>
    yc (qb t0) (qb t1) (qb x11) >>= fun x12 =>
    if (!x12) = true then
     some (([] : LB), t1, false)
    else
     ix t0 t1 >>= fun x13 =>
     app 16 t9 ([x13.Lead]) >>= fun x14 =>
     wm (qb t0) (IntKind.i64.wrap (t1 + (1 : Int))) (qb t2) (qb x14) (IntKind.i64.wrap (t10 + (1 : Int)))
   else
    ix t0 t1 >>= fun x15 =>
    app 16 t9 ([x15.Lead]) >>= fun x16 =>
    wm (qb t0) (IntKind.i64.wrap (t1 + (1 : Int))) (qb t2) (qb x16) (IntKind.i64.wrap (t10 + (1 : Int)))
 else
  some (t9, t1, true)
 partial_fixpoint
@[reducible] def qdb (t0 : (List Token)) (t1 : Int) (t2 : LB) (t9 : LB) (t10 : Int) (r : LB × Int × Bool) : Prop :=
  Ok Tryz.prog G tt 58 1 (Ret Tryz.prog [.tmp 6, .tmp 7, .tmp 8] (fun y H => vu Tryz.prog G 1 H y (.tup [(.bs 1 0 1 0 r.1.length), (.int .i64 r.2.1), (.bool r.2.2)]) ⟨2, [(1, .row 9 (r.1.map sc).flatten)]⟩)) (.again (yy [] Tryz.f99 0).1 (yy [] Tryz.f99 0).2 (.n (.sl 4 false (t0.map Token.cells)) (.n (.int .i64 t1) .z (.n .undef (.n (.bs 1 1 1 0 t9.length) .z .z) .z)) (.n (.sl 1 false (t2.map sc)) .z (.n .undef (.n (.int .i64 t10) .z .z) .z))) 2 [(0, .dead), (1, .row 9 (t9.map sc).flatten)])
theorem Qn : PC5 qdb wm := by
 refine wm.partial_correctness qdb (fun wm Qn t0 t1 t2 t9 t10 r h => ?_)
 ·unfold qb at h
  refine kt ?_
  refine kr [] ?_
  refine qj (fun hb => ?_) (fun hb => ?_)
  ·replace h := qx hb h
   refine kr [] ?_
   obtain ⟨x1, hx, h⟩ := bind_some h
   refine jo env hx rfl rfl rfl rfl rfl ?_
   refine kr [] ?_
   refine qr (fun hb => ?_) (fun hb => ?_)
   ·replace h := qx hb h
    refine kr [] ?_
    obtain ⟨x2, hx, h⟩ := bind_some h
    refine ql (qba _ _ _ hx) ?_
    refine kr [] ?_
    refine qu (fun hb => ?_) (fun hb => ?_)
    ·replace h := qy hb h
     refine kr [] ?_
     obtain ⟨x3, hx, h⟩ := bind_some h
     refine jo env hx rfl rfl rfl rfl rfl ?_
     refine kr [] ?_
     refine qr (fun hb => ?_) (fun hb => ?_)
     ·replace h := qx hb h
      refine kr [] ?_
      obtain ⟨x4, hx, h⟩ := bind_some h
      refine jo env hx rfl rfl rfl rfl rfl ?_
      refine kr [] ?_
      obtain ⟨x5, hx, h⟩ := bind_some h
      refine ql (jy _ _ _ _ hx) ?_
      refine kr [] ?_
      refine qj (fun hb => ?_) (fun hb => ?_)
      ·replace h := qx hb h
       refine kr [] ?_
       cases h
       exact jl env rfl rfl (tS [none] (kc rfl rfl zx) (wh (zj (jq (qdz rfl rfl) (by simp)) (zj (jq (qd (qi rfl) rfl) (by simp)) (zj (jq (qd (ze rfl) rfl) (by simp)) y8)))))
      ·replace h := qy hb h
       refine kr [] ?_
       obtain ⟨x6, hx, h⟩ := bind_some h
       refine jo env hx rfl rfl rfl rfl rfl ?_
       refine kr [] ?_
       obtain ⟨x7, hx, h⟩ := bind_some h
       have hp_x7 := jx hx (by simp)
       refine y7 (C := sc) env hx rfl rfl (by simp) (fun _ => rfl) rfl rfl rfl rfl rfl (by decide) rfl rfl rfl ?_
       refine kr [] ?_
       exact j4 (by kernel_rfl) lQ (Qn _ _ _ _ _ _ h)
     ·replace h := qy hb h
      refine kr [] ?_
      obtain ⟨x8, hx, h⟩ := bind_some h
      refine jo env hx rfl rfl rfl rfl rfl ?_
      refine kr [] ?_
      obtain ⟨x9, hx, h⟩ := bind_some h
      have hp_x9 := jx hx (by simp)
      refine y7 (C := sc) env hx rfl rfl (by simp) (fun _ => rfl) rfl rfl rfl rfl rfl (by decide) rfl rfl rfl ?_
      refine kr [] ?_
      exact j4 (by kernel_rfl) lQ (Qn _ _ _ _ _ _ h)
    ·replace h := qx hb h
     refine kr [] ?_
     cases h
     exact jl env rfl rfl (tS [none] (kc rfl rfl zx) (wh (zj (jq (qdz rfl rfl) (by simp)) (zj (jq (qd (qi rfl) rfl) (by simp)) (zj (jq (qd (ze rfl) rfl) (by simp)) y8)))))
   ·replace h := qy hb h
    refine kr [] ?_
    obtain ⟨x10, hx, h⟩ := bind_some h
    refine jo env hx rfl rfl rfl rfl rfl ?_
    refine kr [] ?_
    refine qr (fun hb => ?_) (fun hb => ?_)
    ·replace h := qx hb h
     refine kr [] ?_
     obtain ⟨x11, hx, h⟩ := bind_some h
     refine jo env hx rfl rfl rfl rfl rfl ?_
     refine kr [] ?_
     obtain ⟨x12, hx, h⟩ := bind_some h
     refine ql (jy _ _ _ _ hx) ?_
     refine kr [] ?_
     refine qj (fun hb => ?_) (fun hb => ?_)
     ·replace h := qx hb h
      refine kr [] ?_
      cases h
      exact jl env rfl rfl (tS [none] (kc rfl rfl zx) (wh (zj (jq (qdz rfl rfl) (by simp)) (zj (jq (qd (qi rfl) rfl) (by simp)) (zj (jq (qd (ze rfl) rfl) (by simp)) y8)))))
     ·replace h := qy hb h
      refine kr [] ?_
      obtain ⟨x13, hx, h⟩ := bind_some h
      refine jo env hx rfl rfl rfl rfl rfl ?_
      refine kr [] ?_
      obtain ⟨x14, hx, h⟩ := bind_some h
      have hp_x14 := jx hx (by simp)
      refine y7 (C := sc) env hx rfl rfl (by simp) (fun _ => rfl) rfl rfl rfl rfl rfl (by decide) rfl rfl rfl ?_
      refine kr [] ?_
      exact j4 (by kernel_rfl) lQ (Qn _ _ _ _ _ _ h)
    ·replace h := qy hb h
     refine kr [] ?_
     obtain ⟨x15, hx, h⟩ := bind_some h
     refine jo env hx rfl rfl rfl rfl rfl ?_
     refine kr [] ?_
     obtain ⟨x16, hx, h⟩ := bind_some h
     have hp_x16 := jx hx (by simp)
     refine y7 (C := sc) env hx rfl rfl (by simp) (fun _ => rfl) rfl rfl rfl rfl rfl (by decide) rfl rfl rfl ?_
     refine kr [] ?_
     exact j4 (by kernel_rfl) lQ (Qn _ _ _ _ _ _ h)
  ·replace h := qy hb h
   refine kr [] ?_
   cases h
   exact jl env rfl rfl (tS [some 1] (sR yp zx) (wh (zj (jq (qte rfl rfl rfl) (by simp)) (zj (jq (qd (qi rfl) rfl) (by simp)) (zj (jq (qd (ze rfl) rfl) (by simp)) y8)))))
def ut (a0 : (List Token)) (a1 : Int) (a2 : LB) : Option (LB × Int × Bool) :=
 wm a0 a1 a2 ([] : LB) (0 : Int)
@[reducible] def qo1 (a0 : (List Token)) (a1 : Int) (a2 : LB) (r : LB × Int × Bool) : Prop :=
  AC Tryz.prog G 99 [(.sl 4 false (a0.map Token.cells)), (.int .i64 a1), (.sl 1 false (a2.map sc))] 1 [(0, .row 9 [])] (.tup [(.bs 1 0 1 0 r.1.length), (.int .i64 r.2.1), (.bool r.2.2)]) 2 [(1, .row 9 (r.1.map sc).flatten)]
theorem Jl : PC3 qo1 ut := fun a0 a1 a2 r h => by
 rw [ut.eq_def] at h
 refine ⟨?_, (qr2 rfl y3), (qa2 z7), (Yc yp y0), (ku yp z7), rfl, rfl, rfl, rfl⟩
 refine Qx (T := tt) (N := 58) (rs := [.tmp 6, .tmp 7, .tmp 8]) (fun vs w => by simp) Tryz.func99 rfl rfl rfl (by kernel_rfl) (by kernel_rfl) ?_
 refine kr [] ?_
 refine qwl 9 _ 1 9 rfl rfl ?_
 exact yo (by kernel_rfl) lQ (Qn _ _ _ _ _ _ h)
def vn (t0 : (List Token)) (t1 : Int) (o1_0 : Int) (o1_1 : BA) (o1_2 : LB) (o1_3 : LN) : Option (Node × Int × Bool) :=
 ix t0 t1 >>= fun x48 =>
 app 16 o1_2 ([x48.Lead]) >>= fun x49 =>
 some ((Node.mk o1_0 o1_1 x49 o1_3), (IntKind.i64.wrap (t1 + (1 : Int))), true)
@[reducible] def qf3 (t0 : (List Token)) (t1 : Int) (o1_0 : Int) (o1_1 : BA) (o1_2 : LB) (o1_3 : LN) (r : Node × Int × Bool) : Prop :=
  Ok Tryz.prog G tt 93 1 (Ret Tryz.prog [.cell 6 26, .tmp 7, .tmp 8] (fun y H => vu Tryz.prog G 1 H y (.tup [(.agg (zf r.1)), (.int .i64 r.2.1), (.bool r.2.2)]) ⟨1, [(0, .row 26 [])]⟩)) (.go [] (qda [1000000, 38, 40] Tryz.f108 0) [] (.n (.sl 4 false (t0.map Token.cells)) (.n (.int .i64 t1) .z (.n (.ptr 1 1 0) .z .z)) (.n .undef .z (.n (.ptr 2 2 0) .z .z))) 6 [(5, .row 26 (o1_3.map Node.cells).flatten), (1, .var 26 [(.int .i64 o1_0), (.str o1_1), (.bs 1 3 3 0 o1_2.length), (.bs 4 0 5 0 o1_3.length)]), (2, .var 26 [(.int .i64 0), (.str ⟨#[]⟩), (.sl 0 true []), (.sl 0 true [])]), (3, .row 9 (o1_2.map sc).flatten)])
theorem qal : PC6 qf3 vn := fun t0 t1 o1_0 o1_1 o1_2 o1_3 r h => by
 rw [vn.eq_def] at h
 refine kr [1000000, 38, 40] ?_
 obtain ⟨x48, hx, h⟩ := bind_some h
 refine jo env hx rfl rfl rfl rfl rfl ?_
 refine kr [1000000, 38, 40] ?_
 obtain ⟨x49, hx, h⟩ := bind_some h
 have hp_x49 := jx hx (by simp)
 refine y7 (C := sc) env hx rfl rfl (by simp) (fun _ => rfl) rfl rfl rfl rfl rfl (by decide) rfl rfl rfl ?_
 refine kr [1000000, 38, 40] ?_
 cases h
 exact jl env rfl rfl (tS [none] (kc rfl rfl zx) (wh (zj (jr (qk (qd (qi rfl) rfl) (qk (qd (q6 rfl) rfl) (qk (qd (z8 yp rfl) rfl) (qk (qd (z8 zo rfl) rfl) jp))))) (zj (jq (qd (qi rfl) rfl) (by simp)) (zj (jq (qd (ze rfl) rfl) (by simp)) y8)))))
def vm (t0 : (List Token)) (t1 : Int) (o2_0 : Int) (o2_1 : BA) (o2_2 : LB) (o2_3 : LN) : Option (Node × Int × Bool) :=
 ix t0 t1 >>= fun x54 =>
 app 16 o2_2 ([x54.Lead]) >>= fun x55 =>
 some ((Node.mk o2_0 o2_1 x55 o2_3), (IntKind.i64.wrap (t1 + (1 : Int))), true)
@[reducible] def qf2 (t0 : (List Token)) (t1 : Int) (o2_0 : Int) (o2_1 : BA) (o2_2 : LB) (o2_3 : LN) (r : Node × Int × Bool) : Prop :=
  Ok Tryz.prog G tt 93 2 (Ret Tryz.prog [.cell 6 26, .tmp 7, .tmp 8] (fun y H => vu Tryz.prog G 2 H y (.tup [(.agg (zf r.1)), (.int .i64 r.2.1), (.bool r.2.2)]) ⟨2, [(0, .row 9 []), (1, .row 26 [])]⟩)) (.go [] (qda [1000000, 38, 40] Tryz.f108 0) [] (.n (.sl 4 false (t0.map Token.cells)) (.n (.int .i64 t1) .z (.n (.ptr 2 2 0) .z .z)) (.n .undef .z (.n (.ptr 3 3 0) .z .z))) 9 [(7, .row 9 (o2_2.map sc).flatten), (8, .row 26 (o2_3.map Node.cells).flatten), (2, .var 26 [(.int .i64 o2_0), (.str o2_1), (.bs 1 0 7 0 o2_2.length), (.bs 4 1 8 0 o2_3.length)]), (3, .var 26 [(.int .i64 0), (.str ⟨#[]⟩), (.sl 0 true []), (.sl 0 true [])])])
theorem qak : PC6 qf2 vm := fun t0 t1 o2_0 o2_1 o2_2 o2_3 r h => by
 rw [vm.eq_def] at h
 refine kr [1000000, 38, 40] ?_
 obtain ⟨x54, hx, h⟩ := bind_some h
 refine jo env hx rfl rfl rfl rfl rfl ?_
 refine kr [1000000, 38, 40] ?_
 obtain ⟨x55, hx, h⟩ := bind_some h
 have hp_x55 := jx hx (by simp)
 refine y7 (C := sc) env hx rfl rfl (by simp) (fun _ => rfl) rfl rfl rfl rfl rfl (by decide) rfl rfl rfl ?_
 refine kr [1000000, 38, 40] ?_
 cases h
 exact jl env rfl rfl (tS [none, none] (kc rfl rfl (kc rfl rfl zx)) (wh (zj (jr (qk (qd (qi rfl) rfl) (qk (qd (q6 rfl) rfl) (qk (qd (z8 yp rfl) rfl) (qk (qd (z8 zo rfl) rfl) jp))))) (zj (jq (qd (qi rfl) rfl) (by simp)) (zj (jq (qd (ze rfl) rfl) (by simp)) y8)))))
def qa3 (t12 : Int) (t13 : Bool) (o1 : Node) : Option (Node × Int × Bool) :=
 some (o1, t12, t13)
@[reducible] def ql5 (t12 : Int) (t13 : Bool) (o1 : Node) (r : Node × Int × Bool) : Prop :=
  Ok Tryz.prog G tt 108 0 (Ret Tryz.prog [.cell 4 26, .tmp 5, .tmp 6] (fun y H => Told Tryz.prog G H y (.tup [(.agg (zf r.1)), (.int .i64 r.2.1), (.bool r.2.2)]))) (.go [] (qda [1000000] Tryz.f68 0) [] (.n .undef (.n .undef (.n .undef .z (.n (.ptr 1 1 0) .z .z)) (.n .undef .z (.n (.bool t13) .z .z))) (.n .undef (.n (.ptr 0 0 0) .z (.n (.int .i64 t12) .z .z)) .z)) 2 [(0, .var 26 [(.int .i64 0), (.str ⟨#[]⟩), (.sl 0 true []), (.sl 0 true [])]), (1, .var 26 (zf o1))])
theorem qft : PC3 ql5 qa3 := fun t12 t13 o1 r h => by
 rw [qa3.eq_def] at h
 refine kr [1000000] ?_
 cases h
 exact kf
def Jo (t10 : Int) (o1 : Node) : Option (Node × Int × Bool) :=
 some (o1, t10, true)
@[reducible] def qkz (t10 : Int) (o1 : Node) (r : Node × Int × Bool) : Prop :=
  Ok Tryz.prog G tt 89 0 (Ret Tryz.prog [.cell 6 26, .tmp 7, .tmp 8] (fun y H => Told Tryz.prog G H y (.tup [(.agg (zf r.1)), (.int .i64 r.2.1), (.bool r.2.2)]))) (.go [] (qda [1000000] Tryz.f32 0) [] (.n .undef (.n .undef .z (.n .undef (.n (.ptr 1 1 0) .z .z) .z)) (.n .undef .z (.n (.ptr 0 0 0) (.n (.int .i64 t10) .z .z) .z))) 6 [(0, .var 26 [(.int .i64 0), (.str ⟨#[]⟩), (.sl 0 true []), (.sl 0 true [])]), (1, .var 26 (zf o1))])
theorem qem : PC2 qkz Jo := fun t10 o1 r h => by
 rw [Jo.eq_def] at h
 refine kr [1000000] ?_
 cases h
 exact kf
mutual
def j5 (a0 : (List Token)) (a1 : Int) (a2 : Int) : Option (Node × Int × Bool) :=
 if (decide ((5 : Int) < a2)) = true then
  Jc (qb a0) (qb a1) >>= fun x1 =>
  some (x1.1, x1.2.1, x1.2.2)
 else
  j5 (qb a0) (qb a1) (IntKind.i64.wrap (a2 + (1 : Int))) >>= fun x2 =>
  if (!x2.2.2) = true then
   some ((Node.mk 0 (⟨#[]⟩) ([] : LB) ([] : LN)), x2.2.1, false)
  else
   vh (qb a0) (qb a2) x2.2.1 x2.1
 partial_fixpoint
def Jc (a0 : (List Token)) (a1 : Int) : Option (Node × Int × Bool) :=
 yc (qb a0) (qb a1) (⟨#[45]⟩ : BA) >>= fun x3 =>
 if x3 = true then
  Jc (qb a0) (IntKind.i64.wrap (a1 + (1 : Int))) >>= fun x10 =>
  if (!x10.2.2) = true then
   some ((Node.mk 0 (⟨#[]⟩) ([] : LB) ([] : LN)), x10.2.1, false)
  else
   ix a0 a1 >>= fun x11 =>
   ix a0 a1 >>= fun x12 =>
   app 72 ([] : LN) ([x10.1]) >>= fun x13 =>
   some ((Node.mk (25 : Int) x11.Text ([x12.Lead]) x13), x10.2.1, true)
 else
  yc (qb a0) (qb a1) (⟨#[33]⟩ : BA) >>= fun x4 =>
  if x4 = true then
   Jc (qb a0) (IntKind.i64.wrap (a1 + (1 : Int))) >>= fun x5 =>
   if (!x5.2.2) = true then
    some ((Node.mk 0 (⟨#[]⟩) ([] : LB) ([] : LN)), x5.2.1, false)
   else
    ix a0 a1 >>= fun x6 =>
    ix a0 a1 >>= fun x7 =>
    app 72 ([] : LN) ([x5.1]) >>= fun x8 =>
    some ((Node.mk (25 : Int) x6.Text ([x7.Lead]) x8), x5.2.1, true)
  else
   Ya (qb a0) (qb a1) >>= fun x9 =>
   wg (qb a0) x9.2.1 x9.2.2 x9.1
 partial_fixpoint
def Ya (a0 : (List Token)) (a1 : Int) : Option (Node × Int × Bool) :=
 ix a0 a1 >>= fun x14 =>
 if (decide (x14.Kind = (2 : Int))) = true then
  some ((Node.mk (17 : Int) x14.Text ([x14.Lead]) ([] : LN)), (IntKind.i64.wrap (a1 + (1 : Int))), true)
 else
  if (decide (x14.Text = (⟨#[116, 114, 117, 101]⟩ : BA))) = true then
   some ((Node.mk (18 : Int) x14.Text ([x14.Lead]) ([] : LN)), (IntKind.i64.wrap (a1 + (1 : Int))), true)
  else
   if (decide (x14.Text = (⟨#[102, 97, 108, 115, 101]⟩ : BA))) = true then
    some ((Node.mk (18 : Int) x14.Text ([x14.Lead]) ([] : LN)), (IntKind.i64.wrap (a1 + (1 : Int))), true)
   else
    if (decide (x14.Text = (⟨#[115, 101, 108, 102]⟩ : BA))) = true then
     some ((Node.mk (23 : Int) x14.Text ([x14.Lead]) ([] : LN)), (IntKind.i64.wrap (a1 + (1 : Int))), true)
    else
     if (decide (x14.Text = (⟨#[110, 101, 119]⟩ : BA))) = true then
      ut (qb a0) (qb a1) ([(⟨#[110, 101, 119]⟩ : BA), (⟨#[]⟩ : BA), (⟨#[40]⟩ : BA), (⟨#[41]⟩ : BA)]) >>= fun x15 =>
      if (!x15.2.2) = true then
       some ((Node.mk 0 (⟨#[]⟩) ([] : LB) ([] : LN)), x15.2.1, false)
      else
       ix a0 (IntKind.i64.wrap (a1 + (1 : Int))) >>= fun x16 =>
       some ((Node.mk (22 : Int) x16.Text x15.1 ([] : LN)), x15.2.1, true)
     else
      if (decide (x14.Text = (⟨#[40]⟩ : BA))) = true then
       j5 (qb a0) (IntKind.i64.wrap (a1 + (1 : Int))) (1 : Int) >>= fun x17 =>
       if (!x17.2.2) = true then
        some ((Node.mk 0 (⟨#[]⟩) ([] : LB) ([] : LN)), x17.2.1, false)
       else
        yc (qb a0) x17.2.1 (⟨#[41]⟩ : BA) >>= fun x18 =>
        if (!x18) = true then
         some ((Node.mk 0 (⟨#[]⟩) ([] : LB) ([] : LN)), x17.2.1, false)
        else
         ix a0 x17.2.1 >>= fun x19 =>
         app 72 ([] : LN) ([x17.1]) >>= fun x20 =>
         some ((Node.mk (26 : Int) (⟨#[]⟩) ([x14.Lead, x19.Lead]) x20), (IntKind.i64.wrap (x17.2.1 + (1 : Int))), true)
      else
       Ke (qb a0) (qb a1) >>= fun x21 =>
       if (!x21) = true then
        some ((Node.mk 0 (⟨#[]⟩) ([] : LB) ([] : LN)), a1, false)
       else
        yc (qb a0) (IntKind.i64.wrap (a1 + (1 : Int))) (⟨#[40]⟩ : BA) >>= fun x22 =>
        if x22 = true then
         v8 (qb a0) (IntKind.i64.wrap (a1 + (1 : Int))) (20 : Int) x14.Text ([x14.Lead]) ([] : LN) >>= fun x23 =>
         some (x23.1, x23.2.1, x23.2.2)
        else
         some ((Node.mk (19 : Int) x14.Text ([x14.Lead]) ([] : LN)), (IntKind.i64.wrap (a1 + (1 : Int))), true)
 partial_fixpoint
def v8 (a0 : (List Token)) (a1 : Int) (a2 : Int) (a3 : BA) (a4 : LB) (a5 : LN) : Option (Node × Int × Bool) :=
 yc (qb a0) (qb a1) (⟨#[40]⟩ : BA) >>= fun x24 =>
 if (!x24) = true then
  some ((Node.mk 0 (⟨#[]⟩) ([] : LB) ([] : LN)), a1, false)
 else
  ix a0 a1 >>= fun x25 =>
  app 16 a4 ([x25.Lead]) >>= fun x26 =>
  wr (qb a0) (IntKind.i64.wrap (a1 + (1 : Int))) (qb true) (qb a2) (qb a3) (qb x26) (qb a5)
 partial_fixpoint
def ug (a0 : (List Token)) (a1 : Int) (a2 : Int) (a3 : BA) (a4 : LB) (a5 : LN) : Option (Node × Int × Bool) :=
 yc (qb a0) (qb a1) (⟨#[40]⟩ : BA) >>= fun x27 =>
 if (!x27) = true then
  some ((Node.mk 0 (⟨#[]⟩) ([] : LB) ([] : LN)), a1, false)
 else
  ix a0 a1 >>= fun x28 =>
  app 16 a4 ([x28.Lead]) >>= fun x29 =>
  wq (qb a0) (IntKind.i64.wrap (a1 + (1 : Int))) (qb true) (qb a2) (qb a3) (qb x29) (qb a5)
 partial_fixpoint
def vh (t0 : (List Token)) (t2 : Int) (t10 : Int) (o1 : Node) : Option (Node × Int × Bool) :=
 ix t0 t10 >>= fun x30 =>
 qcz x30.Text >>= fun x31 =>
 if (decide (x31 = t2)) = true then
  ix t0 t10 >>= fun x32 =>
  ix t0 t10 >>= fun x33 =>
  j5 (qb t0) (IntKind.i64.wrap (t10 + (1 : Int))) (IntKind.i64.wrap (t2 + (1 : Int))) >>= fun x34 =>
  if (!x34.2.2) = true then
   some ((Node.mk 0 (⟨#[]⟩) ([] : LB) ([] : LN)), x34.2.1, false)
  else
   app 72 ([] : LN) ([o1]) >>= fun x35 =>
   app 72 x35 ([x34.1]) >>= fun x36 =>
   if (decide (t2 = (3 : Int))) = true then
    Jo x34.2.1 (Node.mk (24 : Int) x32.Text ([x33.Lead]) x36)
   else
    vh (qb t0) (qb t2) x34.2.1 (Node.mk (24 : Int) x32.Text ([x33.Lead]) x36)
 else
  Jo (qb t10) (qb o1)
 partial_fixpoint
def wg (t0 : (List Token)) (t12 : Int) (t13 : Bool) (o1 : Node) : Option (Node × Int × Bool) :=
 if t13 = true then
  yc (qb t0) (qb t12) (⟨#[46]⟩ : BA) >>= fun x37 =>
  if x37 = true then
   ut (qb t0) (qb t12) ([(⟨#[46]⟩ : BA), (⟨#[]⟩ : BA)]) >>= fun x38 =>
   if (!x38.2.2) = true then
    some ((Node.mk 0 (⟨#[]⟩) ([] : LB) ([] : LN)), x38.2.1, false)
   else
    ix t0 (IntKind.i64.wrap (x38.2.1 - (1 : Int))) >>= fun x39 =>
    app 72 ([] : LN) ([o1]) >>= fun x40 =>
    ug (qb t0) x38.2.1 (21 : Int) x39.Text x38.1 (qb x40) >>= fun x41 =>
    wg (qb t0) x41.2.1 x41.2.2 x41.1
  else
   qa3 (qb t12) (qb t13) (qb o1)
 else
  qa3 (qb t12) (qb t13) (qb o1)
 partial_fixpoint
def wr (t0 : (List Token)) (t1 : Int) (t9 : Bool) (o1_0 : Int) (o1_1 : BA) (o1_2 : LB) (o1_3 : LN) : Option (Node × Int × Bool) :=
 yc (qb t0) (qb t1) (⟨#[41]⟩ : BA) >>= fun x42 =>
 if (!x42) = true then
  ux (qb t0) (qb t1) (qb t9) (qb o1_0) (qb o1_1) (qb o1_2) (qb o1_3)
 else
  if (!t9) = true then
   ux (qb t0) (qb t1) (qb t9) (qb o1_0) (qb o1_1) (qb o1_2) (qb o1_3)
  else
   vn (qb t0) (qb t1) (qb o1_0) (qb o1_1) (qb o1_2) (qb o1_3)
 partial_fixpoint
def wq (t0 : (List Token)) (t1 : Int) (t9 : Bool) (o2_0 : Int) (o2_1 : BA) (o2_2 : LB) (o2_3 : LN) : Option (Node × Int × Bool) :=
 yc (qb t0) (qb t1) (⟨#[41]⟩ : BA) >>= fun x43 =>
 if (!x43) = true then
  uw (qb t0) (qb t1) (qb t9) (qb o2_0) (qb o2_1) (qb o2_2) (qb o2_3)
 else
  if (!t9) = true then
   uw (qb t0) (qb t1) (qb t9) (qb o2_0) (qb o2_1) (qb o2_2) (qb o2_3)
  else
   vm (qb t0) (qb t1) (qb o2_0) (qb o2_1) (qb o2_2) (qb o2_3)
 partial_fixpoint
def ux (t0 : (List Token)) (t1 : Int) (t9 : Bool) (o1_0 : Int) (o1_1 : BA) (o1_2 : LB) (o1_3 : LN) : Option (Node × Int × Bool) :=
 if (!t9) = true then
  yc (qb t0) (qb t1) (⟨#[41]⟩ : BA) >>= fun x44 =>
  if x44 = true then
   vn (qb t0) (qb t1) (qb o1_0) (qb o1_1) (qb o1_2) (qb o1_3)
  else
   yc (qb t0) (qb t1) (⟨#[44]⟩ : BA) >>= fun x45 =>
   if (!x45) = true then
    some ((Node.mk 0 (⟨#[]⟩) ([] : LB) ([] : LN)), t1, false)
   else
    ix t0 t1 >>= fun x46 =>
    app 16 o1_2 ([x46.Lead]) >>= fun x47 =>
    w7 (qb t0) (IntKind.i64.wrap (t1 + (1 : Int))) (qb o1_0) (qb o1_1) (qb x47) (qb o1_3)
 else
  w7 (qb t0) (qb t1) (qb o1_0) (qb o1_1) (qb o1_2) (qb o1_3)
 partial_fixpoint
def uw (t0 : (List Token)) (t1 : Int) (t9 : Bool) (o2_0 : Int) (o2_1 : BA) (o2_2 : LB) (o2_3 : LN) : Option (Node × Int × Bool) :=
 if (!t9) = true then
  yc (qb t0) (qb t1) (⟨#[41]⟩ : BA) >>= fun x50 =>
  if x50 = true then
   vm (qb t0) (qb t1) (qb o2_0) (qb o2_1) (qb o2_2) (qb o2_3)
  else
   yc (qb t0) (qb t1) (⟨#[44]⟩ : BA) >>= fun x51 =>
   if (!x51) = true then
    some ((Node.mk 0 (⟨#[]⟩) ([] : LB) ([] : LN)), t1, false)
   else
    ix t0 t1 >>= fun x52 =>
    app 16 o2_2 ([x52.Lead]) >>= fun x53 =>
    w6 (qb t0) (IntKind.i64.wrap (t1 + (1 : Int))) (qb o2_0) (qb o2_1) (qb x53) (qb o2_3)
 else
  w6 (qb t0) (qb t1) (qb o2_0) (qb o2_1) (qb o2_2) (qb o2_3)
 partial_fixpoint
def w7 (t0 : (List Token)) (t1 : Int) (o1_0 : Int) (o1_1 : BA) (o1_2 : LB) (o1_3 : LN) : Option (Node × Int × Bool) :=
 j5 (qb t0) (qb t1) (1 : Int) >>= fun x56 =>
 if (!x56.2.2) = true then
  some ((Node.mk 0 (⟨#[]⟩) ([] : LB) ([] : LN)), x56.2.1, false)
 else
  app 72 o1_3 ([x56.1]) >>= fun x57 =>
  wr (qb t0) x56.2.1 (qb false) (qb o1_0) (qb o1_1) (qb o1_2) (qb x57)
 partial_fixpoint
def w6 (t0 : (List Token)) (t1 : Int) (o2_0 : Int) (o2_1 : BA) (o2_2 : LB) (o2_3 : LN) : Option (Node × Int × Bool) :=
 j5 (qb t0) (qb t1) (1 : Int) >>= fun x58 =>
 if (!x58.2.2) = true then
  some ((Node.mk 0 (⟨#[]⟩) ([] : LB) ([] : LN)), x58.2.1, false)
 else
  app 72 o2_3 ([x58.1]) >>= fun x59 =>
  wq (qb t0) x58.2.1 (qb false) (qb o2_0) (qb o2_1) (qb o2_2) (qb x59)
 partial_fixpoint
end
@[reducible] def qdq (a0 : (List Token)) (a1 : Int) (a2 : Int) (r : Node × Int × Bool) : Prop :=
  Fn Tryz.prog G 32 [(.sl 4 false (a0.map Token.cells)), (.int .i64 a1), (.int .i64 a2)] (.tup [(.agg (zf r.1)), (.int .i64 r.2.1), (.bool r.2.2)])
@[reducible] def qfi (a0 : (List Token)) (a1 : Int) (r : Node × Int × Bool) : Prop :=
  Fn Tryz.prog G 68 [(.sl 4 false (a0.map Token.cells)), (.int .i64 a1)] (.tup [(.agg (zf r.1)), (.int .i64 r.2.1), (.bool r.2.2)])
@[reducible] def qci (a0 : (List Token)) (a1 : Int) (r : Node × Int × Bool) : Prop :=
  Fn Tryz.prog G 107 [(.sl 4 false (a0.map Token.cells)), (.int .i64 a1)] (.tup [(.agg (zf r.1)), (.int .i64 r.2.1), (.bool r.2.2)])
@[reducible] def K7 (a0 : (List Token)) (a1 : Int) (a2 : Int) (a3 : BA) (a4 : LB) (a5 : LN) (r : Node × Int × Bool) : Prop :=
  AC Tryz.prog G 108 [(.sl 4 false (a0.map Token.cells)), (.int .i64 a1), (.agg [(.int .i64 a2), (.str a3), (.sl 1 true (a4.map sc)), (.bs 4 0 0 0 a5.length)])] 1 [(0, .row 26 (a5.map Node.cells).flatten)] (.tup [(.agg (zf r.1)), (.int .i64 r.2.1), (.bool r.2.2)]) 1 [(0, .row 26 [])]
@[reducible] def K6 (a0 : (List Token)) (a1 : Int) (a2 : Int) (a3 : BA) (a4 : LB) (a5 : LN) (r : Node × Int × Bool) : Prop :=
  AC Tryz.prog G 108 [(.sl 4 false (a0.map Token.cells)), (.int .i64 a1), (.agg [(.int .i64 a2), (.str a3), (.bs 1 0 0 0 a4.length), (.bs 4 1 1 0 a5.length)])] 2 [(0, .row 9 (a4.map sc).flatten), (1, .row 26 (a5.map Node.cells).flatten)] (.tup [(.agg (zf r.1)), (.int .i64 r.2.1), (.bool r.2.2)]) 2 [(0, .row 9 []), (1, .row 26 [])]
@[reducible] def qat (t0 : (List Token)) (t2 : Int) (t10 : Int) (o1 : Node) (r : Node × Int × Bool) : Prop :=
  Ok Tryz.prog G tt 89 0 (Ret Tryz.prog [.cell 6 26, .tmp 7, .tmp 8] (fun y H => Told Tryz.prog G H y (.tup [(.agg (zf r.1)), (.int .i64 r.2.1), (.bool r.2.2)]))) (.again (yy [1000000] Tryz.f32 0).1 (yy [1000000] Tryz.f32 0).2 (.n (.sl 4 false (t0.map Token.cells)) (.n .undef .z (.n .undef (.n (.ptr 1 1 0) .z .z) .z)) (.n (.int .i64 t2) .z (.n (.ptr 0 0 0) (.n (.int .i64 t10) .z .z) .z))) 2 [(0, .var 26 [(.int .i64 0), (.str ⟨#[]⟩), (.sl 0 true []), (.sl 0 true [])]), (1, .var 26 (zf o1))])
@[reducible] def qbk (t0 : (List Token)) (t12 : Int) (t13 : Bool) (o1 : Node) (r : Node × Int × Bool) : Prop :=
  Ok Tryz.prog G tt 108 0 (Ret Tryz.prog [.cell 4 26, .tmp 5, .tmp 6] (fun y H => Told Tryz.prog G H y (.tup [(.agg (zf r.1)), (.int .i64 r.2.1), (.bool r.2.2)]))) (.again (yy [1000000] Tryz.f68 0).1 (yy [1000000] Tryz.f68 0).2 (.n (.sl 4 false (t0.map Token.cells)) (.n .undef (.n .undef .z (.n (.ptr 1 1 0) .z .z)) (.n .undef .z (.n (.bool t13) .z .z))) (.n .undef (.n (.ptr 0 0 0) .z (.n (.int .i64 t12) .z .z)) .z)) 2 [(0, .var 26 [(.int .i64 0), (.str ⟨#[]⟩), (.sl 0 true []), (.sl 0 true [])]), (1, .var 26 (zf o1))])
@[reducible] def Yp (t0 : (List Token)) (t1 : Int) (t9 : Bool) (o1_0 : Int) (o1_1 : BA) (o1_2 : LB) (o1_3 : LN) (r : Node × Int × Bool) : Prop :=
  Ok Tryz.prog G tt 93 1 (Ret Tryz.prog [.cell 6 26, .tmp 7, .tmp 8] (fun y H => vu Tryz.prog G 1 H y (.tup [(.agg (zf r.1)), (.int .i64 r.2.1), (.bool r.2.2)]) ⟨1, [(0, .row 26 [])]⟩)) (.again (yy [1000000, 38, 40] Tryz.f108 0).1 (yy [1000000, 38, 40] Tryz.f108 0).2 (.n (.sl 4 false (t0.map Token.cells)) (.n (.int .i64 t1) .z (.n (.ptr 1 1 0) (.n (.bool t9) .z .z) .z)) (.n .undef .z (.n (.ptr 2 2 0) .z .z))) 5 [(4, .row 26 (o1_3.map Node.cells).flatten), (1, .var 26 [(.int .i64 o1_0), (.str o1_1), (.bs 1 3 3 0 o1_2.length), (.bs 4 0 4 0 o1_3.length)]), (2, .var 26 [(.int .i64 0), (.str ⟨#[]⟩), (.sl 0 true []), (.sl 0 true [])]), (3, .row 9 (o1_2.map sc).flatten)])
@[reducible] def Yo (t0 : (List Token)) (t1 : Int) (t9 : Bool) (o2_0 : Int) (o2_1 : BA) (o2_2 : LB) (o2_3 : LN) (r : Node × Int × Bool) : Prop :=
  Ok Tryz.prog G tt 93 2 (Ret Tryz.prog [.cell 6 26, .tmp 7, .tmp 8] (fun y H => vu Tryz.prog G 2 H y (.tup [(.agg (zf r.1)), (.int .i64 r.2.1), (.bool r.2.2)]) ⟨2, [(0, .row 9 []), (1, .row 26 [])]⟩)) (.again (yy [1000000, 38, 40] Tryz.f108 0).1 (yy [1000000, 38, 40] Tryz.f108 0).2 (.n (.sl 4 false (t0.map Token.cells)) (.n (.int .i64 t1) .z (.n (.ptr 2 2 0) (.n (.bool t9) .z .z) .z)) (.n .undef .z (.n (.ptr 3 3 0) .z .z))) 7 [(5, .row 9 (o2_2.map sc).flatten), (6, .row 26 (o2_3.map Node.cells).flatten), (2, .var 26 [(.int .i64 o2_0), (.str o2_1), (.bs 1 0 5 0 o2_2.length), (.bs 4 1 6 0 o2_3.length)]), (3, .var 26 [(.int .i64 0), (.str ⟨#[]⟩), (.sl 0 true []), (.sl 0 true [])])])
@[reducible] def J2 (t0 : (List Token)) (t1 : Int) (t9 : Bool) (o1_0 : Int) (o1_1 : BA) (o1_2 : LB) (o1_3 : LN) (r : Node × Int × Bool) : Prop :=
  Ok Tryz.prog G tt 93 1 (Ret Tryz.prog [.cell 6 26, .tmp 7, .tmp 8] (fun y H => vu Tryz.prog G 1 H y (.tup [(.agg (zf r.1)), (.int .i64 r.2.1), (.bool r.2.2)]) ⟨1, [(0, .row 26 [])]⟩)) (.go [] (Qh [1000000, 38, 40] Tryz.f108 38) [] (.n (.sl 4 false (t0.map Token.cells)) (.n (.int .i64 t1) .z (.n (.ptr 1 1 0) (.n (.bool t9) .z .z) .z)) (.n .undef .z (.n (.ptr 2 2 0) .z .z))) 6 [(5, .row 26 (o1_3.map Node.cells).flatten), (1, .var 26 [(.int .i64 o1_0), (.str o1_1), (.bs 1 3 3 0 o1_2.length), (.bs 4 0 5 0 o1_3.length)]), (2, .var 26 [(.int .i64 0), (.str ⟨#[]⟩), (.sl 0 true []), (.sl 0 true [])]), (3, .row 9 (o1_2.map sc).flatten)])
@[reducible] def J0 (t0 : (List Token)) (t1 : Int) (t9 : Bool) (o2_0 : Int) (o2_1 : BA) (o2_2 : LB) (o2_3 : LN) (r : Node × Int × Bool) : Prop :=
  Ok Tryz.prog G tt 93 2 (Ret Tryz.prog [.cell 6 26, .tmp 7, .tmp 8] (fun y H => vu Tryz.prog G 2 H y (.tup [(.agg (zf r.1)), (.int .i64 r.2.1), (.bool r.2.2)]) ⟨2, [(0, .row 9 []), (1, .row 26 [])]⟩)) (.go [] (Qh [1000000, 38, 40] Tryz.f108 38) [] (.n (.sl 4 false (t0.map Token.cells)) (.n (.int .i64 t1) .z (.n (.ptr 2 2 0) (.n (.bool t9) .z .z) .z)) (.n .undef .z (.n (.ptr 3 3 0) .z .z))) 9 [(7, .row 9 (o2_2.map sc).flatten), (8, .row 26 (o2_3.map Node.cells).flatten), (2, .var 26 [(.int .i64 o2_0), (.str o2_1), (.bs 1 0 7 0 o2_2.length), (.bs 4 1 8 0 o2_3.length)]), (3, .var 26 [(.int .i64 0), (.str ⟨#[]⟩), (.sl 0 true []), (.sl 0 true [])])])
@[reducible] def J1 (t0 : (List Token)) (t1 : Int) (o1_0 : Int) (o1_1 : BA) (o1_2 : LB) (o1_3 : LN) (r : Node × Int × Bool) : Prop :=
  Ok Tryz.prog G tt 93 1 (Ret Tryz.prog [.cell 6 26, .tmp 7, .tmp 8] (fun y H => vu Tryz.prog G 1 H y (.tup [(.agg (zf r.1)), (.int .i64 r.2.1), (.bool r.2.2)]) ⟨1, [(0, .row 26 [])]⟩)) (.go [] (Qh [1000000, 38, 40] Tryz.f108 40) [] (.n (.sl 4 false (t0.map Token.cells)) (.n (.int .i64 t1) .z (.n (.ptr 1 1 0) .z .z)) (.n .undef .z (.n (.ptr 2 2 0) .z .z))) 8 [(7, .row 26 (o1_3.map Node.cells).flatten), (1, .var 26 [(.int .i64 o1_0), (.str o1_1), (.bs 1 3 6 0 o1_2.length), (.bs 4 0 7 0 o1_3.length)]), (2, .var 26 [(.int .i64 0), (.str ⟨#[]⟩), (.sl 0 true []), (.sl 0 true [])]), (6, .row 9 (o1_2.map sc).flatten)])
@[reducible] def Jz (t0 : (List Token)) (t1 : Int) (o2_0 : Int) (o2_1 : BA) (o2_2 : LB) (o2_3 : LN) (r : Node × Int × Bool) : Prop :=
  Ok Tryz.prog G tt 93 2 (Ret Tryz.prog [.cell 6 26, .tmp 7, .tmp 8] (fun y H => vu Tryz.prog G 2 H y (.tup [(.agg (zf r.1)), (.int .i64 r.2.1), (.bool r.2.2)]) ⟨2, [(0, .row 9 []), (1, .row 26 [])]⟩)) (.go [] (Qh [1000000, 38, 40] Tryz.f108 40) [] (.n (.sl 4 false (t0.map Token.cells)) (.n (.int .i64 t1) .z (.n (.ptr 2 2 0) .z .z)) (.n .undef .z (.n (.ptr 3 3 0) .z .z))) 12 [(10, .row 9 (o2_2.map sc).flatten), (11, .row 26 (o2_3.map Node.cells).flatten), (2, .var 26 [(.int .i64 o2_0), (.str o2_1), (.bs 1 0 10 0 o2_2.length), (.bs 4 1 11 0 o2_3.length)]), (3, .var 26 [(.int .i64 0), (.str ⟨#[]⟩), (.sl 0 true []), (.sl 0 true [])])])
theorem ko : PC3 qdq j5 ∧ PC4 qat vh ∧ PC2 qfi Jc ∧ PC4 qbk wg ∧ PC6 K6 ug ∧ PC7 Yo wq ∧ PC7 J0 uw ∧ PC6 Jz w6 ∧ PC2 qci Ya ∧ PC6 K7 v8 ∧ PC7 Yp wr ∧ PC7 J2 ux ∧ PC6 J1 w7 := by
 refine j5.mutual_partial_correctness qdq qat qfi qbk K6 Yo J0 Jz qci K7 Yp J2 J1 (fun j5 vh Jc we Y8 W3 a0 a1 a2 r h => ?_) (fun j5 vh we Y8 t0 t2 t10 o1 r h => ?_) (fun Jc wg Ya W3 Ku qg3 a0 a1 r h => ?_) (fun wg ug Ku qcs t0 t12 t13 o1 r h => ?_) (fun wq Zq a0 a1 a2 a3 a4 a5 r h => ?_) (fun uw J4 t0 t1 t9 o2_0 o2_1 o2_2 o2_3 r h => ?_) (fun w6 J3 t0 t1 t9 o2_0 o2_1 o2_2 o2_3 r h => ?_) (fun j5 wq we Zq t0 t1 o2_0 o2_1 o2_2 o2_3 r h => ?_) (fun j5 v8 we qct a0 a1 r h => ?_) (fun wr Zr a0 a1 a2 a3 a4 a5 r h => ?_) (fun ux J6 t0 t1 t9 o1_0 o1_1 o1_2 o1_3 r h => ?_) (fun w7 J5 t0 t1 t9 o1_0 o1_1 o1_2 o1_3 r h => ?_) (fun j5 wr we Zr t0 t1 o1_0 o1_1 o1_2 o1_3 r h => ?_)
 ·unfold qb at h
  refine zk (T := tt) (N := 89) (rs := [.cell 6 26, .tmp 7, .tmp 8]) (fun vs w => by simp) Tryz.func32 rfl rfl rfl rfl (by kernel_rfl) (jh rfl) (zp _ rfl) ?_
  refine kr [1000000] ?_
  refine qj (fun hb => ?_) (fun hb => ?_)
  ·replace h := qx hb h
   refine kr [1000000] ?_
   obtain ⟨x1, hx, h⟩ := bind_some h
   refine ql (W3 _ _ _ hx) ?_
   refine kr [1000000] ?_
   cases h
   exact kf
  ·replace h := qy hb h
   refine kr [1000000] ?_
   obtain ⟨x2, hx, h⟩ := bind_some h
   refine ql (we _ _ _ _ hx) ?_
   refine kr [1000000] ?_
   refine qj (fun hb => ?_) (fun hb => ?_)
   ·replace h := qx hb h
    refine kr [1000000] ?_
    cases h
    exact zd env rfl rfl (zt (zr (qc (jb (qa (qi rfl) (qa (q6 rfl) (qa (qv (.inr rfl)) (qa (qv (.inr rfl)) z1))))) (qc (q5 (qi rfl) (by simp)) (qc (q5 (ze rfl) (by simp)) zg)))))
   ·replace h := qy hb h
    refine kr [1000000] ?_
    exact yo (by kernel_rfl) lA (Y8 _ _ _ _ _ h)
 ·unfold qb at h
  refine kt ?_
  refine kr [1000000] ?_
  obtain ⟨x30, hx, h⟩ := bind_some h
  refine jo env hx rfl rfl rfl rfl rfl ?_
  refine kr [1000000] ?_
  obtain ⟨x31, hx, h⟩ := bind_some h
  refine ql (qsk _ _ hx) ?_
  refine kr [1000000] ?_
  refine qj (fun hb => ?_) (fun hb => ?_)
  ·replace h := qx hb h
   refine kr [1000000] ?_
   obtain ⟨x32, hx, h⟩ := bind_some h
   refine jo env hx rfl rfl rfl rfl rfl ?_
   refine kr [1000000] ?_
   obtain ⟨x33, hx, h⟩ := bind_some h
   refine jo env hx rfl rfl rfl rfl rfl ?_
   refine kr [1000000] ?_
   obtain ⟨x34, hx, h⟩ := bind_some h
   refine ql (we _ _ _ _ hx) ?_
   refine kr [1000000] ?_
   refine qj (fun hb => ?_) (fun hb => ?_)
   ·replace h := qx hb h
    refine kr [1000000] ?_
    cases h
    exact zd env rfl rfl (zt (zr (qc (jb (qa (qi rfl) (qa (q6 rfl) (qa (qv (.inr rfl)) (qa (qv (.inr rfl)) z1))))) (qc (q5 (qi rfl) (by simp)) (qc (q5 (ze rfl) (by simp)) zg)))))
   ·replace h := qy hb h
    refine kr [1000000] ?_
    obtain ⟨x35, hx, h⟩ := bind_some h
    have hp_x35 := jx hx (by simp)
    refine Y7 (C := Node.cells) env hx rfl (.inr rfl) (show _ = AV.sl _ _ (List.map Node.cells [o1]) from (by simp only [List.map_cons, List.map_nil, Node.cells_eq]; rfl)) (by simp) rfl rfl rfl rfl rfl (by decide) rfl rfl ?_
    refine kr [1000000] ?_
    obtain ⟨x36, hx, h⟩ := bind_some h
    have hp_x36 := jx hx (by simp)
    refine y7 (C := Node.cells) env hx rfl (show _ = AV.sl _ _ (List.map Node.cells [x34.1]) from (by simp only [List.map_cons, List.map_nil, Node.cells_eq]; rfl)) (by simp) Node.cells_len rfl rfl rfl rfl rfl (by decide) rfl rfl rfl ?_
    refine kr [1000000] ?_
    refine qj (fun hb => ?_) (fun hb => ?_)
    ·replace h := qx hb h
     refine kr [1000000] ?_
     refine vk 1 3 4 zo rfl rfl rfl rfl rfl rfl ?_
     exact zb (by kernel_rfl) rfl lA (qem _ _ _ h)
    ·replace h := qy hb h
     refine kr [1000000] ?_
     refine qhk 1 3 4 zo rfl rfl rfl rfl rfl ?_
     exact j4 (by kernel_rfl) lA (Y8 _ _ _ _ _ h)
  ·replace h := qy hb h
   refine kr [1000000] ?_
   exact zb (by kernel_rfl) rfl lA (qem _ _ _ h)
 ·unfold qb at h
  refine zk (T := tt) (N := 108) (rs := [.cell 4 26, .tmp 5, .tmp 6]) (fun vs w => by simp) Tryz.func68 rfl rfl rfl rfl (by kernel_rfl) (jh rfl) (zp _ rfl) ?_
  refine kr [1000000] ?_
  obtain ⟨x3, hx, h⟩ := bind_some h
  refine ql (jy _ _ _ _ hx) ?_
  refine kr [1000000] ?_
  refine qu (fun hb => ?_) (fun hb => ?_)
  ·replace h := qy hb h
   refine kr [1000000] ?_
   obtain ⟨x4, hx, h⟩ := bind_some h
   refine ql (jy _ _ _ _ hx) ?_
   refine kr [1000000] ?_
   refine qj (fun hb => ?_) (fun hb => ?_)
   ·replace h := qx hb h
    refine kr [1000000] ?_
    obtain ⟨x5, hx, h⟩ := bind_some h
    refine ql (W3 _ _ _ hx) ?_
    refine kr [1000000] ?_
    refine qj (fun hb => ?_) (fun hb => ?_)
    ·replace h := qx hb h
     refine kr [1000000] ?_
     cases h
     exact zd env rfl rfl (zt (zr (qc (jb (qa (qi rfl) (qa (q6 rfl) (qa (qv (.inr rfl)) (qa (qv (.inr rfl)) z1))))) (qc (q5 (qi rfl) (by simp)) (qc (q5 (ze rfl) (by simp)) zg)))))
    ·replace h := qy hb h
     refine kr [1000000] ?_
     obtain ⟨x6, hx, h⟩ := bind_some h
     refine jo env hx rfl rfl rfl rfl rfl ?_
     refine kr [1000000] ?_
     obtain ⟨x7, hx, h⟩ := bind_some h
     refine jo env hx rfl rfl rfl rfl rfl ?_
     refine kr [1000000] ?_
     obtain ⟨x8, hx, h⟩ := bind_some h
     have hp_x8 := jx hx (by simp)
     refine Y7 (C := Node.cells) env hx rfl (.inr rfl) (show _ = AV.sl _ _ (List.map Node.cells [x5.1]) from (by simp only [List.map_cons, List.map_nil, Node.cells_eq]; rfl)) (by simp) rfl rfl rfl rfl rfl (by decide) rfl rfl ?_
     refine kr [1000000] ?_
     cases h
     exact zd env rfl rfl (zt (zr (qc (jb (qa (qi rfl) (qa (q6 rfl) (qa (qv (.inl rfl)) (qa (z8 zo rfl) z1))))) (qc (q5 (qi rfl) (by simp)) (qc (q5 (ze rfl) (by simp)) zg)))))
   ·replace h := qy hb h
    refine kr [1000000] ?_
    obtain ⟨x9, hx, h⟩ := bind_some h
    refine ql (qg3 _ _ _ hx) ?_
    refine kr [1000000] ?_
    exact yo (by kernel_rfl) lA (Ku _ _ _ _ _ h)
  ·replace h := qx hb h
   refine kr [1000000] ?_
   obtain ⟨x10, hx, h⟩ := bind_some h
   refine ql (W3 _ _ _ hx) ?_
   refine kr [1000000] ?_
   refine qj (fun hb => ?_) (fun hb => ?_)
   ·replace h := qx hb h
    refine kr [1000000] ?_
    cases h
    exact zd env rfl rfl (zt (zr (qc (jb (qa (qi rfl) (qa (q6 rfl) (qa (qv (.inr rfl)) (qa (qv (.inr rfl)) z1))))) (qc (q5 (qi rfl) (by simp)) (qc (q5 (ze rfl) (by simp)) zg)))))
   ·replace h := qy hb h
    refine kr [1000000] ?_
    obtain ⟨x11, hx, h⟩ := bind_some h
    refine jo env hx rfl rfl rfl rfl rfl ?_
    refine kr [1000000] ?_
    obtain ⟨x12, hx, h⟩ := bind_some h
    refine jo env hx rfl rfl rfl rfl rfl ?_
    refine kr [1000000] ?_
    obtain ⟨x13, hx, h⟩ := bind_some h
    have hp_x13 := jx hx (by simp)
    refine Y7 (C := Node.cells) env hx rfl (.inr rfl) (show _ = AV.sl _ _ (List.map Node.cells [x10.1]) from (by simp only [List.map_cons, List.map_nil, Node.cells_eq]; rfl)) (by simp) rfl rfl rfl rfl rfl (by decide) rfl rfl ?_
    refine kr [1000000] ?_
    cases h
    exact zd env rfl rfl (zt (zr (qc (jb (qa (qi rfl) (qa (q6 rfl) (qa (qv (.inl rfl)) (qa (z8 zo rfl) z1))))) (qc (q5 (qi rfl) (by simp)) (qc (q5 (ze rfl) (by simp)) zg)))))
 ·unfold qb at h
  refine kt ?_
  refine kr [1000000] ?_
  refine qr (fun hb => ?_) (fun hb => ?_)
  ·replace h := qx hb h
   refine kr [1000000] ?_
   obtain ⟨x37, hx, h⟩ := bind_some h
   refine ql (jy _ _ _ _ hx) ?_
   refine kr [1000000] ?_
   refine qj (fun hb => ?_) (fun hb => ?_)
   ·replace h := qx hb h
    refine kr [1000000] ?_
    obtain ⟨x38, hx, h⟩ := bind_some h
    refine qn (ACalls.ghost (e := 9) (ACalls.wkg (AC.go (objs := [(0, .var 26 [(.int .i64 0), (.str ⟨#[]⟩), (.sl 0 true []), (.sl 0 true [])]), (1, .var 26 (zf o1)), (2, .row 9 (([] : LB).map sc).flatten)]) (xs := [(.sl 4 false (t0.map Token.cells)), (.int .i64 t12), (.sl 1 false (([(⟨#[46]⟩ : BA), (⟨#[]⟩ : BA)]).map sc))]) (Jl _ _ _ _ hx) [2] [2] rfl rfl rfl rfl rfl rfl rfl rfl rfl) (qt (q7 _) (qt (q9 _) (qt (qb5 (.inl rfl) (by simp)) jg))) (z6 _))) ?_
    refine kr [1000000] ?_
    refine qj (fun hb => ?_) (fun hb => ?_)
    ·replace h := qx hb h
     refine kr [1000000] ?_
     cases h
     exact zd env rfl rfl (zt (zr (qc (jb (qa (qi rfl) (qa (q6 rfl) (qa (qv (.inr rfl)) (qa (qv (.inr rfl)) z1))))) (qc (q5 (qi rfl) (by simp)) (qc (q5 (ze rfl) (by simp)) zg)))))
    ·replace h := qy hb h
     refine kr [1000000] ?_
     obtain ⟨x39, hx, h⟩ := bind_some h
     refine jo env hx rfl rfl rfl rfl rfl ?_
     refine kr [1000000] ?_
     obtain ⟨x40, hx, h⟩ := bind_some h
     have hp_x40 := jx hx (by simp)
     refine Y7 (C := Node.cells) env hx rfl (.inr rfl) (show _ = AV.sl _ _ (List.map Node.cells [o1]) from (by simp only [List.map_cons, List.map_nil, Node.cells_eq]; rfl)) (by simp) rfl rfl rfl rfl rfl (by decide) rfl rfl ?_
     refine kr [1000000] ?_
     obtain ⟨x41, hx, h⟩ := bind_some h
     refine qn (AC.g9 (qcs _ _ _ _ _ _ _ hx) [2, 4] [3, 5]) ?_
     refine kr [1000000] ?_
     exact j4 (by kernel_rfl) lA (Ku _ _ _ _ _ h)
   ·replace h := qy hb h
    refine kr [1000000] ?_
    exact zb (by kernel_rfl) rfl lA (qft _ _ _ _ h)
  ·replace h := qy hb h
   refine kr [1000000] ?_
   exact zb (by kernel_rfl) rfl lA (qft _ _ _ _ h)
 ·unfold qb at h
  refine ⟨?_, (Qy yp rfl (Qy zo rfl y3)), (ku yp (ku zo z7)), (qeu (qeu y0)), (qa2 (qa2 z7)), rfl, rfl, rfl, rfl⟩
  refine Qx (T := tt) (N := 93) (rs := [.cell 6 26, .tmp 7, .tmp 8]) (fun vs w => by simp) Tryz.func108 rfl rfl rfl (by kernel_rfl) (by kernel_rfl) ?_
  refine kr [1000000, 38, 40] ?_
  obtain ⟨x27, hx, h⟩ := bind_some h
  refine ql (jy _ _ _ _ hx) ?_
  refine kr [1000000, 38, 40] ?_
  refine qj (fun hb => ?_) (fun hb => ?_)
  ·replace h := qx hb h
   refine kr [1000000, 38, 40] ?_
   cases h
   exact jl env rfl rfl (tS [none, none] (kc rfl rfl (kc rfl rfl zx)) (wh (zj (jr (qk (qd (qi rfl) rfl) (qk (qd (q6 rfl) rfl) (qk (qd (qv (.inr rfl)) rfl) (qk (qd (qv (.inr rfl)) rfl) jp))))) (zj (jq (qd (qi rfl) rfl) (by simp)) (zj (jq (qd (ze rfl) rfl) (by simp)) y8)))))
  ·replace h := qy hb h
   refine kr [1000000, 38, 40] ?_
   obtain ⟨x28, hx, h⟩ := bind_some h
   refine jo env hx rfl rfl rfl rfl rfl ?_
   refine kr [1000000, 38, 40] ?_
   obtain ⟨x29, hx, h⟩ := bind_some h
   have hp_x29 := jx hx (by simp)
   refine y7 (C := sc) env hx rfl rfl (by simp) (fun _ => rfl) rfl rfl rfl rfl rfl (by decide) rfl rfl rfl ?_
   refine kr [1000000, 38, 40] ?_
   exact yo (by kernel_rfl) lQ (Zq _ _ _ _ _ _ _ _ h)
 ·unfold qb at h
  refine kt ?_
  refine kr [1000000, 38, 40] ?_
  obtain ⟨x43, hx, h⟩ := bind_some h
  refine ql (jy _ _ _ _ hx) ?_
  refine kr [1000000, 38, 40] ?_
  refine qu (fun hb => ?_) (fun hb => ?_)
  ·replace h := qy hb h
   refine kr [1000000, 38, 40] ?_
   refine qj (fun hb => ?_) (fun hb => ?_)
   ·replace h := qx hb h
    refine kr [1000000, 38, 40] ?_
    exact zb (by kernel_rfl) rfl lQ (J4 _ _ _ _ _ _ _ _ h)
   ·replace h := qy hb h
    refine kr [1000000, 38, 40] ?_
    exact zb (by kernel_rfl) rfl lQ (qak _ _ _ _ _ _ _ h)
  ·replace h := qx hb h
   refine kr [1000000, 38, 40] ?_
   exact zb (by kernel_rfl) rfl lQ (J4 _ _ _ _ _ _ _ _ h)
 ·unfold qb at h
  refine kr [1000000, 38, 40] ?_
  refine qj (fun hb => ?_) (fun hb => ?_)
  ·replace h := qx hb h
   refine kr [1000000, 38, 40] ?_
   obtain ⟨x50, hx, h⟩ := bind_some h
   refine ql (jy _ _ _ _ hx) ?_
   refine kr [1000000, 38, 40] ?_
   refine qj (fun hb => ?_) (fun hb => ?_)
   ·replace h := qx hb h
    refine kr [1000000, 38, 40] ?_
    exact zb (by kernel_rfl) rfl lQ (qak _ _ _ _ _ _ _ h)
   ·replace h := qy hb h
    refine kr [1000000, 38, 40] ?_
    obtain ⟨x51, hx, h⟩ := bind_some h
    refine ql (jy _ _ _ _ hx) ?_
    refine kr [1000000, 38, 40] ?_
    refine qj (fun hb => ?_) (fun hb => ?_)
    ·replace h := qx hb h
     refine kr [1000000, 38, 40] ?_
     cases h
     exact jl env rfl rfl (tS [none, none] (kc rfl rfl (kc rfl rfl zx)) (wh (zj (jr (qk (qd (qi rfl) rfl) (qk (qd (q6 rfl) rfl) (qk (qd (qv (.inr rfl)) rfl) (qk (qd (qv (.inr rfl)) rfl) jp))))) (zj (jq (qd (qi rfl) rfl) (by simp)) (zj (jq (qd (ze rfl) rfl) (by simp)) y8)))))
    ·replace h := qy hb h
     refine kr [1000000, 38, 40] ?_
     obtain ⟨x52, hx, h⟩ := bind_some h
     refine jo env hx rfl rfl rfl rfl rfl ?_
     refine kr [1000000, 38, 40] ?_
     obtain ⟨x53, hx, h⟩ := bind_some h
     have hp_x53 := jx hx (by simp)
     refine y7 (C := sc) env hx rfl rfl (by simp) (fun _ => rfl) rfl rfl rfl rfl rfl (by decide) rfl rfl rfl ?_
     refine kr [1000000, 38, 40] ?_
     exact zb (by kernel_rfl) rfl lQ (J3 _ _ _ _ _ _ _ h)
  ·replace h := qy hb h
   refine kr [1000000, 38, 40] ?_
   exact zb (by kernel_rfl) rfl lQ (J3 _ _ _ _ _ _ _ h)
 ·unfold qb at h
  refine kr [1000000, 38, 40] ?_
  obtain ⟨x58, hx, h⟩ := bind_some h
  refine ql (we _ _ _ _ hx) ?_
  refine kr [1000000, 38, 40] ?_
  refine qj (fun hb => ?_) (fun hb => ?_)
  ·replace h := qx hb h
   refine kr [1000000, 38, 40] ?_
   cases h
   exact jl env rfl rfl (tS [none, none] (kc rfl rfl (kc rfl rfl zx)) (wh (zj (jr (qk (qd (qi rfl) rfl) (qk (qd (q6 rfl) rfl) (qk (qd (qv (.inr rfl)) rfl) (qk (qd (qv (.inr rfl)) rfl) jp))))) (zj (jq (qd (qi rfl) rfl) (by simp)) (zj (jq (qd (ze rfl) rfl) (by simp)) y8)))))
  ·replace h := qy hb h
   refine kr [1000000, 38, 40] ?_
   obtain ⟨x59, hx, h⟩ := bind_some h
   have hp_x59 := jx hx (by simp)
   refine y7 (C := Node.cells) env hx rfl (show _ = AV.sl _ _ (List.map Node.cells [x58.1]) from (by simp only [List.map_cons, List.map_nil, Node.cells_eq]; rfl)) (by simp) Node.cells_len rfl rfl rfl rfl rfl (by decide) rfl rfl rfl ?_
   refine kr [1000000, 38, 40] ?_
   exact j4 (by kernel_rfl) lQ (Zq _ _ _ _ _ _ _ _ h)
 ·unfold qb at h
  refine zk (T := tt) (N := 151) (rs := [.cell 4 26, .tmp 5, .tmp 6]) (fun vs w => by simp) Tryz.func107 rfl rfl rfl rfl (by kernel_rfl) (jh rfl) (zp _ rfl) ?_
  refine kr [] ?_
  obtain ⟨x14, hx, h⟩ := bind_some h
  refine jo env hx rfl rfl rfl rfl rfl ?_
  refine kr [] ?_
  refine qj (fun hb => ?_) (fun hb => ?_)
  ·replace h := qx hb h
   refine kr [] ?_
   cases h
   exact zd env rfl rfl (zt (zr (qc (jb (qa (qi rfl) (qa (q6 rfl) (qa (qv (.inl rfl)) (qa (qv (.inr rfl)) z1))))) (qc (q5 (qi rfl) (by simp)) (qc (q5 (ze rfl) (by simp)) zg)))))
  ·replace h := qy hb h
   refine kr [] ?_
   refine qu (fun hb => ?_) (fun hb => ?_)
   ·replace h := qy hb h
    refine kr [] ?_
    refine qj (fun hb => ?_) (fun hb => ?_)
    ·replace h := qx hb h
     refine kr [] ?_
     cases h
     exact zd env rfl rfl (zt (zr (qc (jb (qa (qi rfl) (qa (q6 rfl) (qa (qv (.inl rfl)) (qa (qv (.inr rfl)) z1))))) (qc (q5 (qi rfl) (by simp)) (qc (q5 (ze rfl) (by simp)) zg)))))
    ·replace h := qy hb h
     refine kr [] ?_
     refine qj (fun hb => ?_) (fun hb => ?_)
     ·replace h := qx hb h
      refine kr [] ?_
      cases h
      exact zd env rfl rfl (zt (zr (qc (jb (qa (qi rfl) (qa (q6 rfl) (qa (qv (.inl rfl)) (qa (qv (.inr rfl)) z1))))) (qc (q5 (qi rfl) (by simp)) (qc (q5 (ze rfl) (by simp)) zg)))))
     ·replace h := qy hb h
      refine kr [] ?_
      refine qj (fun hb => ?_) (fun hb => ?_)
      ·replace h := qx hb h
       refine kr [] ?_
       obtain ⟨x15, hx, h⟩ := bind_some h
       refine qn (ACalls.ghost (e := 9) (ACalls.wkg (AC.go (objs := [(0, .var 26 [(.int .i64 0), (.str ⟨#[]⟩), (.sl 0 true []), (.sl 0 true [])]), (1, .var 49 (Token.cells x14)), (2, .row 9 (([] : LB).map sc).flatten)]) (xs := [(.sl 4 false (a0.map Token.cells)), (.int .i64 a1), (.sl 1 false (([(⟨#[110, 101, 119]⟩ : BA), (⟨#[]⟩ : BA), (⟨#[40]⟩ : BA), (⟨#[41]⟩ : BA)]).map sc))]) (Jl _ _ _ _ hx) [2] [2] rfl rfl rfl rfl rfl rfl rfl rfl rfl) (qt (q7 _) (qt (q9 _) (qt (qb5 (.inl rfl) (by simp)) jg))) (z6 _))) ?_
       refine kr [] ?_
       refine qj (fun hb => ?_) (fun hb => ?_)
       ·replace h := qx hb h
        refine kr [] ?_
        cases h
        exact zd env rfl rfl (zt (zr (qc (jb (qa (qi rfl) (qa (q6 rfl) (qa (qv (.inr rfl)) (qa (qv (.inr rfl)) z1))))) (qc (q5 (qi rfl) (by simp)) (qc (q5 (ze rfl) (by simp)) zg)))))
       ·replace h := qy hb h
        refine kr [] ?_
        obtain ⟨x16, hx, h⟩ := bind_some h
        refine jo env hx rfl rfl rfl rfl rfl ?_
        refine kr [] ?_
        cases h
        exact zd env rfl rfl (zt (zr (qc (jb (qa (qi rfl) (qa (q6 rfl) (qa (z8 yp rfl) (qa (qv (.inr rfl)) z1))))) (qc (q5 (qi rfl) (by simp)) (qc (q5 (ze rfl) (by simp)) zg)))))
      ·replace h := qy hb h
       refine kr [] ?_
       refine qj (fun hb => ?_) (fun hb => ?_)
       ·replace h := qx hb h
        refine kr [] ?_
        obtain ⟨x17, hx, h⟩ := bind_some h
        refine ql (we _ _ _ _ hx) ?_
        refine kr [] ?_
        refine qu (fun hb => ?_) (fun hb => ?_)
        ·replace h := qy hb h
         refine kr [] ?_
         obtain ⟨x18, hx, h⟩ := bind_some h
         refine ql (jy _ _ _ _ hx) ?_
         refine kr [] ?_
         refine qj (fun hb => ?_) (fun hb => ?_)
         ·replace h := qx hb h
          refine kr [] ?_
          cases h
          exact zd env rfl rfl (zt (zr (qc (jb (qa (qi rfl) (qa (q6 rfl) (qa (qv (.inr rfl)) (qa (qv (.inr rfl)) z1))))) (qc (q5 (qi rfl) (by simp)) (qc (q5 (ze rfl) (by simp)) zg)))))
         ·replace h := qy hb h
          refine kr [] ?_
          obtain ⟨x19, hx, h⟩ := bind_some h
          refine jo env hx rfl rfl rfl rfl rfl ?_
          refine kr [] ?_
          obtain ⟨x20, hx, h⟩ := bind_some h
          have hp_x20 := jx hx (by simp)
          refine Y7 (C := Node.cells) env hx rfl (.inr rfl) (show _ = AV.sl _ _ (List.map Node.cells [x17.1]) from (by simp only [List.map_cons, List.map_nil, Node.cells_eq]; rfl)) (by simp) rfl rfl rfl rfl rfl (by decide) rfl rfl ?_
          refine kr [] ?_
          cases h
          exact zd env rfl rfl (zt (zr (qc (jb (qa (qi rfl) (qa (q6 rfl) (qa (qv (.inl rfl)) (qa (z8 zo rfl) z1))))) (qc (q5 (qi rfl) (by simp)) (qc (q5 (ze rfl) (by simp)) zg)))))
        ·replace h := qx hb h
         refine kr [] ?_
         cases h
         exact zd env rfl rfl (zt (zr (qc (jb (qa (qi rfl) (qa (q6 rfl) (qa (qv (.inr rfl)) (qa (qv (.inr rfl)) z1))))) (qc (q5 (qi rfl) (by simp)) (qc (q5 (ze rfl) (by simp)) zg)))))
       ·replace h := qy hb h
        refine kr [] ?_
        obtain ⟨x21, hx, h⟩ := bind_some h
        refine ql (qba _ _ _ hx) ?_
        refine kr [] ?_
        refine qj (fun hb => ?_) (fun hb => ?_)
        ·replace h := qx hb h
         refine kr [] ?_
         cases h
         exact zd env rfl rfl (zt (zr (qc (jb (qa (qi rfl) (qa (q6 rfl) (qa (qv (.inr rfl)) (qa (qv (.inr rfl)) z1))))) (qc (q5 (qi rfl) (by simp)) (qc (q5 (ze rfl) (by simp)) zg)))))
        ·replace h := qy hb h
         refine kr [] ?_
         obtain ⟨x22, hx, h⟩ := bind_some h
         refine ql (jy _ _ _ _ hx) ?_
         refine kr [] ?_
         refine qj (fun hb => ?_) (fun hb => ?_)
         ·replace h := qx hb h
          refine kr [] ?_
          obtain ⟨x23, hx, h⟩ := bind_some h
          refine qn (ACalls.ghost (e := 26) (ACalls.wkg (AC.go (objs := [(0, .var 26 [(.int .i64 0), (.str ⟨#[]⟩), (.sl 0 true []), (.sl 0 true [])]), (1, .var 49 (Token.cells x14)), (2, .row 26 (([] : LN).map Node.cells).flatten)]) (xs := [(.sl 4 false (a0.map Token.cells)), (.int .i64 (IntKind.i64.wrap (a1 + (1 : Int)))), (.agg [(.int .i64 (20 : Int)), (.str x14.Text), (.sl 1 true (([x14.Lead]).map sc)), (.bs 4 2 2 0 ([] : LN).length)])]) (qct _ _ _ _ _ _ _ hx) [2] [2] rfl rfl rfl rfl rfl rfl rfl rfl rfl) (qt (q7 _) (qt (q9 _) (qt (qg8 (qq (q7 _) (qq (q7 _) (qq (q7 _) (qq (zu rfl) j3))))) jg))) (z6 _))) ?_
          refine kr [] ?_
          cases h
          exact kf
         ·replace h := qy hb h
          refine kr [] ?_
          cases h
          exact zd env rfl rfl (zt (zr (qc (jb (qa (qi rfl) (qa (q6 rfl) (qa (qv (.inl rfl)) (qa (qv (.inr rfl)) z1))))) (qc (q5 (qi rfl) (by simp)) (qc (q5 (ze rfl) (by simp)) zg)))))
   ·replace h := qx hb h
    refine kr [] ?_
    cases h
    exact zd env rfl rfl (zt (zr (qc (jb (qa (qi rfl) (qa (q6 rfl) (qa (qv (.inl rfl)) (qa (qv (.inr rfl)) z1))))) (qc (q5 (qi rfl) (by simp)) (qc (q5 (ze rfl) (by simp)) zg)))))
 ·unfold qb at h
  refine ⟨?_, (Qy zo rfl y3), (ku zo z7), (qeu y0), (qa2 z7), rfl, rfl, rfl, rfl⟩
  refine Qx (T := tt) (N := 93) (rs := [.cell 6 26, .tmp 7, .tmp 8]) (fun vs w => by simp) Tryz.func108 rfl rfl rfl (by kernel_rfl) (by kernel_rfl) ?_
  refine kr [1000000, 38, 40] ?_
  obtain ⟨x24, hx, h⟩ := bind_some h
  refine ql (jy _ _ _ _ hx) ?_
  refine kr [1000000, 38, 40] ?_
  refine qj (fun hb => ?_) (fun hb => ?_)
  ·replace h := qx hb h
   refine kr [1000000, 38, 40] ?_
   cases h
   exact jl env rfl rfl (tS [none] (kc rfl rfl zx) (wh (zj (jr (qk (qd (qi rfl) rfl) (qk (qd (q6 rfl) rfl) (qk (qd (qv (.inr rfl)) rfl) (qk (qd (qv (.inr rfl)) rfl) jp))))) (zj (jq (qd (qi rfl) rfl) (by simp)) (zj (jq (qd (ze rfl) rfl) (by simp)) y8)))))
  ·replace h := qy hb h
   refine kr [1000000, 38, 40] ?_
   obtain ⟨x25, hx, h⟩ := bind_some h
   refine jo env hx rfl rfl rfl rfl rfl ?_
   refine kr [1000000, 38, 40] ?_
   obtain ⟨x26, hx, h⟩ := bind_some h
   have hp_x26 := jx hx (by simp)
   refine Y7 (C := sc) env hx rfl (.inl rfl) rfl (by simp) rfl rfl rfl rfl rfl (by decide) rfl rfl ?_
   refine kr [1000000, 38, 40] ?_
   exact yo (by kernel_rfl) lQ (Zr _ _ _ _ _ _ _ _ h)
 ·unfold qb at h
  refine kt ?_
  refine kr [1000000, 38, 40] ?_
  obtain ⟨x42, hx, h⟩ := bind_some h
  refine ql (jy _ _ _ _ hx) ?_
  refine kr [1000000, 38, 40] ?_
  refine qu (fun hb => ?_) (fun hb => ?_)
  ·replace h := qy hb h
   refine kr [1000000, 38, 40] ?_
   refine qj (fun hb => ?_) (fun hb => ?_)
   ·replace h := qx hb h
    refine kr [1000000, 38, 40] ?_
    exact zb (by kernel_rfl) rfl lQ (J6 _ _ _ _ _ _ _ _ h)
   ·replace h := qy hb h
    refine kr [1000000, 38, 40] ?_
    exact zb (by kernel_rfl) rfl lQ (qal _ _ _ _ _ _ _ h)
  ·replace h := qx hb h
   refine kr [1000000, 38, 40] ?_
   exact zb (by kernel_rfl) rfl lQ (J6 _ _ _ _ _ _ _ _ h)
 ·unfold qb at h
  refine kr [1000000, 38, 40] ?_
  refine qj (fun hb => ?_) (fun hb => ?_)
  ·replace h := qx hb h
   refine kr [1000000, 38, 40] ?_
   obtain ⟨x44, hx, h⟩ := bind_some h
   refine ql (jy _ _ _ _ hx) ?_
   refine kr [1000000, 38, 40] ?_
   refine qj (fun hb => ?_) (fun hb => ?_)
   ·replace h := qx hb h
    refine kr [1000000, 38, 40] ?_
    exact zb (by kernel_rfl) rfl lQ (qal _ _ _ _ _ _ _ h)
   ·replace h := qy hb h
    refine kr [1000000, 38, 40] ?_
    obtain ⟨x45, hx, h⟩ := bind_some h
    refine ql (jy _ _ _ _ hx) ?_
    refine kr [1000000, 38, 40] ?_
    refine qj (fun hb => ?_) (fun hb => ?_)
    ·replace h := qx hb h
     refine kr [1000000, 38, 40] ?_
     cases h
     exact jl env rfl rfl (tS [none] (kc rfl rfl zx) (wh (zj (jr (qk (qd (qi rfl) rfl) (qk (qd (q6 rfl) rfl) (qk (qd (qv (.inr rfl)) rfl) (qk (qd (qv (.inr rfl)) rfl) jp))))) (zj (jq (qd (qi rfl) rfl) (by simp)) (zj (jq (qd (ze rfl) rfl) (by simp)) y8)))))
    ·replace h := qy hb h
     refine kr [1000000, 38, 40] ?_
     obtain ⟨x46, hx, h⟩ := bind_some h
     refine jo env hx rfl rfl rfl rfl rfl ?_
     refine kr [1000000, 38, 40] ?_
     obtain ⟨x47, hx, h⟩ := bind_some h
     have hp_x47 := jx hx (by simp)
     refine y7 (C := sc) env hx rfl rfl (by simp) (fun _ => rfl) rfl rfl rfl rfl rfl (by decide) rfl rfl rfl ?_
     refine kr [1000000, 38, 40] ?_
     exact zb (by kernel_rfl) rfl lQ (J5 _ _ _ _ _ _ _ h)
  ·replace h := qy hb h
   refine kr [1000000, 38, 40] ?_
   exact zb (by kernel_rfl) rfl lQ (J5 _ _ _ _ _ _ _ h)
 ·unfold qb at h
  refine kr [1000000, 38, 40] ?_
  obtain ⟨x56, hx, h⟩ := bind_some h
  refine ql (we _ _ _ _ hx) ?_
  refine kr [1000000, 38, 40] ?_
  refine qj (fun hb => ?_) (fun hb => ?_)
  ·replace h := qx hb h
   refine kr [1000000, 38, 40] ?_
   cases h
   exact jl env rfl rfl (tS [none] (kc rfl rfl zx) (wh (zj (jr (qk (qd (qi rfl) rfl) (qk (qd (q6 rfl) rfl) (qk (qd (qv (.inr rfl)) rfl) (qk (qd (qv (.inr rfl)) rfl) jp))))) (zj (jq (qd (qi rfl) rfl) (by simp)) (zj (jq (qd (ze rfl) rfl) (by simp)) y8)))))
  ·replace h := qy hb h
   refine kr [1000000, 38, 40] ?_
   obtain ⟨x57, hx, h⟩ := bind_some h
   have hp_x57 := jx hx (by simp)
   refine y7 (C := Node.cells) env hx rfl (show _ = AV.sl _ _ (List.map Node.cells [x56.1]) from (by simp only [List.map_cons, List.map_nil, Node.cells_eq]; rfl)) (by simp) Node.cells_len rfl rfl rfl rfl rfl (by decide) rfl rfl rfl ?_
   refine kr [1000000, 38, 40] ?_
   exact j4 (by kernel_rfl) lQ (Zr _ _ _ _ _ _ _ _ h)
theorem we : PC3 qdq j5 := ko.1
theorem Y8 : PC4 qat vh := ko.2.1
theorem W3 : PC2 qfi Jc := ko.2.2.1
theorem Ku : PC4 qbk wg := ko.2.2.2.1
theorem qcs : PC6 K6 ug := ko.2.2.2.2.1
theorem Zq : PC7 Yo wq := ko.2.2.2.2.2.1
theorem J4 : PC7 J0 uw := ko.2.2.2.2.2.2.1
theorem J3 : PC6 Jz w6 := ko.2.2.2.2.2.2.2.1
theorem qg3 : PC2 qci Ya := ko.2.2.2.2.2.2.2.2.1
theorem qct : PC6 K7 v8 := ko.2.2.2.2.2.2.2.2.2.1
theorem Zr : PC7 Yp wr := ko.2.2.2.2.2.2.2.2.2.2.1
theorem J6 : PC7 J2 ux := ko.2.2.2.2.2.2.2.2.2.2.2.1
theorem J5 : PC6 J1 w7 := ko.2.2.2.2.2.2.2.2.2.2.2.2
def Yl (a0 : (List Token)) (a1 : Int) (a2 : Int) (a3 : BA) (a4 : LB) (a5 : LN) : Option (Node × Int × Bool) :=
 j5 a0 a1 (1 : Int) >>= fun x1 =>
 if (!x1.2.2) = true then
  some ((Node.mk 0 (⟨#[]⟩) ([] : LB) ([] : LN)), x1.2.1, false)
 else
  yc a0 x1.2.1 (⟨#[59]⟩ : BA) >>= fun x2 =>
  if (!x2) = true then
   some ((Node.mk 0 (⟨#[]⟩) ([] : LB) ([] : LN)), x1.2.1, false)
  else
   app 72 a5 ([x1.1]) >>= fun x3 =>
   ix a0 x1.2.1 >>= fun x4 =>
   app 16 a4 ([x4.Lead]) >>= fun x5 =>
   some ((Node.mk a2 a3 x5 x3), (IntKind.i64.wrap (x1.2.1 + (1 : Int))), true)
@[reducible] def ql8 (a0 : (List Token)) (a1 : Int) (a2 : Int) (a3 : BA) (a4 : LB) (a5 : LN) (r : Node × Int × Bool) : Prop :=
  AC Tryz.prog G 74 [(.sl 4 false (a0.map Token.cells)), (.int .i64 a1), (.agg [(.int .i64 a2), (.str a3), (.bs 1 0 0 0 a4.length), (.bs 4 1 1 0 a5.length)])] 2 [(0, .row 9 (a4.map sc).flatten), (1, .row 26 (a5.map Node.cells).flatten)] (.tup [(.agg (zf r.1)), (.int .i64 r.2.1), (.bool r.2.2)]) 2 [(0, .row 9 []), (1, .row 26 [])]
theorem qfv : PC6 ql8 Yl := fun a0 a1 a2 a3 a4 a5 r h => by
 rw [Yl.eq_def] at h
 refine ⟨?_, (Qy yp rfl (Qy zo rfl y3)), (ku yp (ku zo z7)), (qeu (qeu y0)), (qa2 (qa2 z7)), rfl, rfl, rfl, rfl⟩
 refine Qx (T := tt) (N := 48) (rs := [.cell 6 26, .tmp 7, .tmp 8]) (fun vs w => by simp) Tryz.func74 rfl rfl rfl (by kernel_rfl) (by kernel_rfl) ?_
 refine kr [] ?_
 obtain ⟨x1, hx, h⟩ := bind_some h
 refine ql (we _ _ _ _ hx) ?_
 refine kr [] ?_
 refine qu (fun hb => ?_) (fun hb => ?_)
 ·replace h := qy hb h
  refine kr [] ?_
  obtain ⟨x2, hx, h⟩ := bind_some h
  refine ql (jy _ _ _ _ hx) ?_
  refine kr [] ?_
  refine qj (fun hb => ?_) (fun hb => ?_)
  ·replace h := qx hb h
   refine kr [] ?_
   cases h
   exact jl env rfl rfl (tS [none, none] (kc rfl rfl (kc rfl rfl zx)) (wh (zj (jr (qk (qd (qi rfl) rfl) (qk (qd (q6 rfl) rfl) (qk (qd (qv (.inr rfl)) rfl) (qk (qd (qv (.inr rfl)) rfl) jp))))) (zj (jq (qd (qi rfl) rfl) (by simp)) (zj (jq (qd (ze rfl) rfl) (by simp)) y8)))))
  ·replace h := qy hb h
   refine kr [] ?_
   obtain ⟨x3, hx, h⟩ := bind_some h
   have hp_x3 := jx hx (by simp)
   refine y7 (C := Node.cells) env hx rfl (show _ = AV.sl _ _ (List.map Node.cells [x1.1]) from (by simp only [List.map_cons, List.map_nil, Node.cells_eq]; rfl)) (by simp) Node.cells_len rfl rfl rfl rfl rfl (by decide) rfl rfl rfl ?_
   refine kr [] ?_
   obtain ⟨x4, hx, h⟩ := bind_some h
   refine jo env hx rfl rfl rfl rfl rfl ?_
   refine kr [] ?_
   obtain ⟨x5, hx, h⟩ := bind_some h
   have hp_x5 := jx hx (by simp)
   refine y7 (C := sc) env hx rfl rfl (by simp) (fun _ => rfl) rfl rfl rfl rfl rfl (by decide) rfl rfl rfl ?_
   refine kr [] ?_
   cases h
   exact jl env rfl rfl (tS [none, none] (kc rfl rfl (kc rfl rfl zx)) (wh (zj (jr (qk (qd (qi rfl) rfl) (qk (qd (q6 rfl) rfl) (qk (qd (z8 yp rfl) rfl) (qk (qd (z8 zo rfl) rfl) jp))))) (zj (jq (qd (qi rfl) rfl) (by simp)) (zj (jq (qd (ze rfl) rfl) (by simp)) y8)))))
 ·replace h := qx hb h
  refine kr [] ?_
  cases h
  exact jl env rfl rfl (tS [none, none] (kc rfl rfl (kc rfl rfl zx)) (wh (zj (jr (qk (qd (qi rfl) rfl) (qk (qd (q6 rfl) rfl) (qk (qd (qv (.inr rfl)) rfl) (qk (qd (qv (.inr rfl)) rfl) jp))))) (zj (jq (qd (qi rfl) rfl) (by simp)) (zj (jq (qd (ze rfl) rfl) (by simp)) y8)))))
def Q8 (a0 : (List Token)) (a1 : Int) (a2 : Int) (a3 : LB) : Option (Node × Int × Bool) :=
 ut a0 a1 a3 >>= fun x1 =>
 if (!x1.2.2) = true then
  some ((Node.mk 0 (⟨#[]⟩) ([] : LB) ([] : LN)), x1.2.1, false)
 else
  ix a0 (IntKind.i64.wrap (x1.2.1 - (2 : Int))) >>= fun x2 =>
  Yl a0 x1.2.1 a2 x2.Text x1.1 ([] : LN) >>= fun x3 =>
  some (x3.1, x3.2.1, x3.2.2)
@[reducible] def qo3 (a0 : (List Token)) (a1 : Int) (a2 : Int) (a3 : LB) (r : Node × Int × Bool) : Prop :=
  Fn Tryz.prog G 62 [(.sl 4 false (a0.map Token.cells)), (.int .i64 a1), (.int .i64 a2), (.sl 1 false (a3.map sc))] (.tup [(.agg (zf r.1)), (.int .i64 r.2.1), (.bool r.2.2)])
theorem qcr : PC4 qo3 Q8 := fun a0 a1 a2 a3 r h => by
 rw [Q8.eq_def] at h
 refine zk (T := tt) (N := 43) (rs := [.cell 8 26, .tmp 9, .tmp 10]) (fun vs w => by simp) Tryz.func62 rfl rfl rfl rfl (by kernel_rfl) (jh rfl) (zp _ rfl) ?_
 refine kr [] ?_
 obtain ⟨x1, hx, h⟩ := bind_some h
 refine qn (ACalls.ghost (e := 9) (AC.g9 (Jl _ _ _ _ hx) [1] [1])) ?_
 refine kr [] ?_
 refine qj (fun hb => ?_) (fun hb => ?_)
 ·replace h := qx hb h
  refine kr [] ?_
  cases h
  exact zd env rfl rfl (zt (zr (qc (jb (qa (qi rfl) (qa (q6 rfl) (qa (qv (.inr rfl)) (qa (qv (.inr rfl)) z1))))) (qc (q5 (qi rfl) (by simp)) (qc (q5 (ze rfl) (by simp)) zg)))))
 ·replace h := qy hb h
  refine kr [] ?_
  obtain ⟨x2, hx, h⟩ := bind_some h
  refine jo env hx rfl rfl rfl rfl rfl ?_
  refine kr [] ?_
  obtain ⟨x3, hx, h⟩ := bind_some h
  refine qn (ACalls.ghost (e := 26) (ACalls.wkg (AC.go (objs := [(0, .var 26 [(.int .i64 0), (.str ⟨#[]⟩), (.sl 0 true []), (.sl 0 true [])]), (2, .row 9 (x1.1.map sc).flatten), (3, .var 26 [(.int .i64 a2), (.str x2.Text), (.bs 1 1 2 0 x1.1.length), (.sl 0 true [])]), (4, .row 26 (([] : LN).map Node.cells).flatten)]) (xs := [(.sl 4 false (a0.map Token.cells)), (.int .i64 x1.2.1), (.agg [(.int .i64 a2), (.str x2.Text), (.bs 1 1 2 0 x1.1.length), (.bs 4 3 4 0 ([] : LN).length)])]) (qfv _ _ _ _ _ _ _ hx) [1, 3] [2, 4] rfl rfl rfl rfl rfl rfl rfl rfl rfl) (qt (q7 _) (qt (q9 _) (qt (qg8 (qq (q7 _) (qq (q7 _) (qq (q7 _) (qq (zu rfl) j3))))) jg))) (z6 _))) ?_
  refine kr [] ?_
  cases h
  exact kf
def Ko (a0 : (List Token)) (a1 : Int) (a2 : Int) (a3 : BA) (a4 : LB) (a5 : LN) : Option (Node × Int × Bool) :=
 j5 a0 a1 (1 : Int) >>= fun x1 =>
 if (!x1.2.2) = true then
  some ((Node.mk 0 (⟨#[]⟩) ([] : LB) ([] : LN)), x1.2.1, false)
 else
  yc a0 x1.2.1 (⟨#[59]⟩ : BA) >>= fun x2 =>
  if (!x2) = true then
   some ((Node.mk 0 (⟨#[]⟩) ([] : LB) ([] : LN)), x1.2.1, false)
  else
   app 72 a5 ([x1.1]) >>= fun x3 =>
   ix a0 x1.2.1 >>= fun x4 =>
   app 16 a4 ([x4.Lead]) >>= fun x5 =>
   some ((Node.mk a2 a3 x5 x3), (IntKind.i64.wrap (x1.2.1 + (1 : Int))), true)
@[reducible] def ql7 (a0 : (List Token)) (a1 : Int) (a2 : Int) (a3 : BA) (a4 : LB) (a5 : LN) (r : Node × Int × Bool) : Prop :=
  AC Tryz.prog G 74 [(.sl 4 false (a0.map Token.cells)), (.int .i64 a1), (.agg [(.int .i64 a2), (.str a3), (.sl 1 true (a4.map sc)), (.bs 4 0 0 0 a5.length)])] 1 [(0, .row 26 (a5.map Node.cells).flatten)] (.tup [(.agg (zf r.1)), (.int .i64 r.2.1), (.bool r.2.2)]) 1 [(0, .row 26 [])]
theorem qmd : PC6 ql7 Ko := fun a0 a1 a2 a3 a4 a5 r h => by
 rw [Ko.eq_def] at h
 refine ⟨?_, (Qy zo rfl y3), (ku zo z7), (qeu y0), (qa2 z7), rfl, rfl, rfl, rfl⟩
 refine Qx (T := tt) (N := 48) (rs := [.cell 6 26, .tmp 7, .tmp 8]) (fun vs w => by simp) Tryz.func74 rfl rfl rfl (by kernel_rfl) (by kernel_rfl) ?_
 refine kr [] ?_
 obtain ⟨x1, hx, h⟩ := bind_some h
 refine ql (we _ _ _ _ hx) ?_
 refine kr [] ?_
 refine qu (fun hb => ?_) (fun hb => ?_)
 ·replace h := qy hb h
  refine kr [] ?_
  obtain ⟨x2, hx, h⟩ := bind_some h
  refine ql (jy _ _ _ _ hx) ?_
  refine kr [] ?_
  refine qj (fun hb => ?_) (fun hb => ?_)
  ·replace h := qx hb h
   refine kr [] ?_
   cases h
   exact jl env rfl rfl (tS [none] (kc rfl rfl zx) (wh (zj (jr (qk (qd (qi rfl) rfl) (qk (qd (q6 rfl) rfl) (qk (qd (qv (.inr rfl)) rfl) (qk (qd (qv (.inr rfl)) rfl) jp))))) (zj (jq (qd (qi rfl) rfl) (by simp)) (zj (jq (qd (ze rfl) rfl) (by simp)) y8)))))
  ·replace h := qy hb h
   refine kr [] ?_
   obtain ⟨x3, hx, h⟩ := bind_some h
   have hp_x3 := jx hx (by simp)
   refine y7 (C := Node.cells) env hx rfl (show _ = AV.sl _ _ (List.map Node.cells [x1.1]) from (by simp only [List.map_cons, List.map_nil, Node.cells_eq]; rfl)) (by simp) Node.cells_len rfl rfl rfl rfl rfl (by decide) rfl rfl rfl ?_
   refine kr [] ?_
   obtain ⟨x4, hx, h⟩ := bind_some h
   refine jo env hx rfl rfl rfl rfl rfl ?_
   refine kr [] ?_
   obtain ⟨x5, hx, h⟩ := bind_some h
   have hp_x5 := jx hx (by simp)
   refine Y7 (C := sc) env hx rfl (.inl rfl) rfl (by simp) rfl rfl rfl rfl rfl (by decide) rfl rfl ?_
   refine kr [] ?_
   cases h
   exact jl env rfl rfl (tS [none] (kc rfl rfl zx) (wh (zj (jr (qk (qd (qi rfl) rfl) (qk (qd (q6 rfl) rfl) (qk (qd (z8 yp rfl) rfl) (qk (qd (z8 zo rfl) rfl) jp))))) (zj (jq (qd (qi rfl) rfl) (by simp)) (zj (jq (qd (ze rfl) rfl) (by simp)) y8)))))
 ·replace h := qx hb h
  refine kr [] ?_
  cases h
  exact jl env rfl rfl (tS [none] (kc rfl rfl zx) (wh (zj (jr (qk (qd (qi rfl) rfl) (qk (qd (q6 rfl) rfl) (qk (qd (qv (.inr rfl)) rfl) (qk (qd (qv (.inr rfl)) rfl) jp))))) (zj (jq (qd (qi rfl) rfl) (by simp)) (zj (jq (qd (ze rfl) rfl) (by simp)) y8)))))
def Z0 (t8 : Int) (o3_0 : Int) (o3_1 : BA) (o3_2 : LB) (o3_3 : LN) (o4 : Node) : Option (Node × Int × Bool) :=
 app 72 o3_3 ([o4]) >>= fun x33 =>
 some ((Node.mk o3_0 o3_1 o3_2 x33), t8, true)
@[reducible] def qj4 (t8 : Int) (o3_0 : Int) (o3_1 : BA) (o3_2 : LB) (o3_3 : LN) (o4 : Node) (r : Node × Int × Bool) : Prop :=
  Ok Tryz.prog G tt 74 0 (Ret Tryz.prog [.cell 4 26, .tmp 5, .tmp 6] (fun y H => Told Tryz.prog G H y (.tup [(.agg (zf r.1)), (.int .i64 r.2.1), (.bool r.2.2)]))) (.go [] (Qh [36] Tryz.f75 36) [] (.n .undef (.n .undef (.n .undef (.n (.ptr 3 4 0) .z .z) .z) .z) (.n .undef (.n (.ptr 0 0 0) (.n (.int .i64 t8) .z .z) .z) (.n .undef (.n (.ptr 4 5 0) .z .z) .z))) 9 [(0, .var 26 [(.int .i64 0), (.str ⟨#[]⟩), (.sl 0 true []), (.sl 0 true [])]), (1, .dead), (3, .row 26 (o3_3.map Node.cells).flatten), (4, .var 26 [(.int .i64 o3_0), (.str o3_1), (.sl 1 false (o3_2.map sc)), (.bs 4 2 3 0 o3_3.length)]), (5, .var 26 (zf o4))])
theorem qdh : PC6 qj4 Z0 := fun t8 o3_0 o3_1 o3_2 o3_3 o4 r h => by
 rw [Z0.eq_def] at h
 refine kr [36] ?_
 obtain ⟨x33, hx, h⟩ := bind_some h
 have hp_x33 := jx hx (by simp)
 refine y7 (C := Node.cells) env hx rfl (show _ = AV.sl _ _ (List.map Node.cells [o4]) from (by simp only [List.map_cons, List.map_nil, Node.cells_eq]; rfl)) (by simp) Node.cells_len rfl rfl rfl rfl rfl (by decide) rfl rfl rfl ?_
 refine kr [36] ?_
 cases h
 exact zd env rfl rfl (zt (zr (qc (jb (qa (qi rfl) (qa (q6 rfl) (qa (qv (.inl rfl)) (qa (z8 zo rfl) z1))))) (qc (q5 (qi rfl) (by simp)) (qc (q5 (ze rfl) (by simp)) zg)))))
def v6 (t0 : (List Token)) (t1 : Int) : Option (Node × Int × Bool) :=
 Yl t0 t1 (16 : Int) (⟨#[]⟩) ([] : LB) ([] : LN) >>= fun x32 =>
 some (x32.1, x32.2.1, x32.2.2)
@[reducible] def qgz (t0 : (List Token)) (t1 : Int) (r : Node × Int × Bool) : Prop :=
  Ok Tryz.prog G tt 85 0 (Ret Tryz.prog [.cell 4 26, .tmp 5, .tmp 6] (fun y H => Told Tryz.prog G H y (.tup [(.agg (zf r.1)), (.int .i64 r.2.1), (.bool r.2.2)]))) (.go [] (Qh [70] Tryz.f35 70) [] (.n (.sl 4 false (t0.map Token.cells)) (.n (.int .i64 t1) .z .z) (.n .undef (.n (.ptr 0 0 0) .z .z) .z)) 1 [(0, .var 26 [(.int .i64 0), (.str ⟨#[]⟩), (.sl 0 true []), (.sl 0 true [])])])
theorem qa9 : PC2 qgz v6 := fun t0 t1 r h => by
 rw [v6.eq_def] at h
 refine kr [70] ?_
 obtain ⟨x32, hx, h⟩ := bind_some h
 refine qn (ACalls.ghost (e := 9) (ACalls.ghost (e := 26) (ACalls.wkg (AC.go (objs := [(0, .var 26 [(.int .i64 0), (.str ⟨#[]⟩), (.sl 0 true []), (.sl 0 true [])]), (1, .row 9 (([] : LB).map sc).flatten), (2, .row 26 (([] : LN).map Node.cells).flatten)]) (xs := [(.sl 4 false (t0.map Token.cells)), (.int .i64 t1), (.agg [(.int .i64 (16 : Int)), (.str ⟨#[]⟩), (.bs 1 1 1 0 ([] : LB).length), (.bs 4 2 2 0 ([] : LN).length)])]) (qfv _ _ _ _ _ _ _ hx) [1, 2] [1, 2] rfl rfl rfl rfl rfl rfl rfl rfl rfl) (qt (q7 _) (qt (q9 _) (qt (qg8 (qq (q7 _) (qq (q7 _) (qq (zu rfl) (qq (zu rfl) j3))))) jg))) (z6 _)))) ?_
 refine kr [70] ?_
 cases h
 exact kf
mutual
def w5 (a0 : (List Token)) (a1 : Int) : Option (Node × Int × Bool) :=
 yc (qb a0) (qb a1) (⟨#[108, 101, 116]⟩ : BA) >>= fun x1 =>
 if x1 = true then
  Q8 (qb a0) (qb a1) (10 : Int) ([(⟨#[108, 101, 116]⟩ : BA), (⟨#[]⟩ : BA), (⟨#[61]⟩ : BA)]) >>= fun x2 =>
  some (x2.1, x2.2.1, x2.2.2)
 else
  yc (qb a0) (qb a1) (⟨#[114, 101, 116, 117, 114, 110]⟩ : BA) >>= fun x3 =>
  if x3 = true then
   ix a0 a1 >>= fun x4 =>
   Ko (qb a0) (IntKind.i64.wrap (a1 + (1 : Int))) (12 : Int) (⟨#[]⟩) ([x4.Lead]) ([] : LN) >>= fun x5 =>
   some (x5.1, x5.2.1, x5.2.2)
  else
   yc (qb a0) (qb a1) (⟨#[105, 102]⟩ : BA) >>= fun x6 =>
   if x6 = true then
    qbb (qb a0) (qb a1) >>= fun x7 =>
    some (x7.1, x7.2.1, x7.2.2)
   else
    yc (qb a0) (qb a1) (⟨#[119, 104, 105, 108, 101]⟩ : BA) >>= fun x8 =>
    if x8 = true then
     ix a0 a1 >>= fun x9 =>
     Zb (qb a0) (IntKind.i64.wrap (a1 + (1 : Int))) (15 : Int) (⟨#[]⟩) ([x9.Lead]) ([] : LN) >>= fun x10 =>
     some ((Node.mk x10.1.kind x10.1.text x10.1.gaps x10.1.kids), x10.2.1, x10.2.2)
    else
     Ke (qb a0) (qb a1) >>= fun x11 =>
     if x11 = true then
      yc (qb a0) (IntKind.i64.wrap (a1 + (1 : Int))) (⟨#[61]⟩ : BA) >>= fun x12 =>
      if x12 = true then
       Q8 (qb a0) (qb a1) (11 : Int) ([(⟨#[]⟩ : BA), (⟨#[61]⟩ : BA)]) >>= fun x13 =>
       some (x13.1, x13.2.1, x13.2.2)
      else
       v6 (qb a0) (qb a1)
     else
      v6 (qb a0) (qb a1)
 partial_fixpoint
def qbb (a0 : (List Token)) (a1 : Int) : Option (Node × Int × Bool) :=
 ix a0 a1 >>= fun x14 =>
 Zb (qb a0) (IntKind.i64.wrap (a1 + (1 : Int))) (13 : Int) (⟨#[]⟩) ([x14.Lead]) ([] : LN) >>= fun x15 =>
 if (!x15.2.2) = true then
  some ((Node.mk 0 (⟨#[]⟩) ([] : LB) ([] : LN)), x15.2.1, false)
 else
  yc (qb a0) x15.2.1 (⟨#[101, 108, 115, 101]⟩ : BA) >>= fun x16 =>
  if x16 = true then
   ix a0 x15.2.1 >>= fun x17 =>
   app 16 ([] : LB) ([x17.Lead]) >>= fun x18 =>
   v7 (qb a0) (IntKind.i64.wrap (x15.2.1 + (1 : Int))) >>= fun x19 =>
   if (!x19.2.2) = true then
    some ((Node.mk 0 (⟨#[]⟩) ([] : LB) ([] : LN)), x19.2.1, false)
   else
    app 72 ([] : LN) ([x19.1]) >>= fun x20 =>
    Z0 x19.2.1 x15.1.kind x15.1.text x15.1.gaps x15.1.kids (Node.mk (14 : Int) (⟨#[]⟩) x18 x20)
  else
   Z0 x15.2.1 x15.1.kind x15.1.text x15.1.gaps x15.1.kids (Node.mk (14 : Int) (⟨#[]⟩) ([] : LB) ([] : LN))
 partial_fixpoint
def v7 (a0 : (List Token)) (a1 : Int) : Option (Node × Int × Bool) :=
 yc (qb a0) (qb a1) (⟨#[123]⟩ : BA) >>= fun x21 =>
 if (!x21) = true then
  some ((Node.mk 0 (⟨#[]⟩) ([] : LB) ([] : LN)), a1, false)
 else
  ix a0 a1 >>= fun x22 =>
  app 16 ([] : LB) ([x22.Lead]) >>= fun x23 =>
  Qe (qb a0) (IntKind.i64.wrap (a1 + (1 : Int))) (6 : Int) (⟨#[]⟩) (qb x23) ([] : LN)
 partial_fixpoint
def Zb (a0 : (List Token)) (a1 : Int) (a2 : Int) (a3 : BA) (a4 : LB) (a5 : LN) : Option (Node × Int × Bool) :=
 j5 (qb a0) (qb a1) (1 : Int) >>= fun x28 =>
 if (!x28.2.2) = true then
  some ((Node.mk 0 (⟨#[]⟩) ([] : LB) ([] : LN)), x28.2.1, false)
 else
  v7 (qb a0) x28.2.1 >>= fun x29 =>
  if (!x29.2.2) = true then
   some ((Node.mk 0 (⟨#[]⟩) ([] : LB) ([] : LN)), x29.2.1, false)
  else
   app 72 a5 ([x28.1]) >>= fun x30 =>
   app 72 x30 ([x29.1]) >>= fun x31 =>
   some ((Node.mk a2 a3 a4 x31), x29.2.1, true)
 partial_fixpoint
def Qe (t0 : (List Token)) (t1 : Int) (o1_0 : Int) (o1_1 : BA) (o1_2 : LB) (o1_3 : LN) : Option (Node × Int × Bool) :=
 yc (qb t0) (qb t1) (⟨#[125]⟩ : BA) >>= fun x34 =>
 if (!x34) = true then
  w5 (qb t0) (qb t1) >>= fun x35 =>
  if (!x35.2.2) = true then
   some ((Node.mk 0 (⟨#[]⟩) ([] : LB) ([] : LN)), x35.2.1, false)
  else
   app 72 o1_3 ([x35.1]) >>= fun x36 =>
   Qe (qb t0) x35.2.1 (qb o1_0) (qb o1_1) (qb o1_2) (qb x36)
 else
  ix t0 t1 >>= fun x37 =>
  app 16 o1_2 ([x37.Lead]) >>= fun x38 =>
  some ((Node.mk o1_0 o1_1 x38 o1_3), (IntKind.i64.wrap (t1 + (1 : Int))), true)
 partial_fixpoint
end
@[reducible] def qar (a0 : (List Token)) (a1 : Int) (r : Node × Int × Bool) : Prop :=
  Fn Tryz.prog G 35 [(.sl 4 false (a0.map Token.cells)), (.int .i64 a1)] (.tup [(.agg (zf r.1)), (.int .i64 r.2.1), (.bool r.2.2)])
@[reducible] def qdp (a0 : (List Token)) (a1 : Int) (r : Node × Int × Bool) : Prop :=
  Fn Tryz.prog G 75 [(.sl 4 false (a0.map Token.cells)), (.int .i64 a1)] (.tup [(.agg (zf r.1)), (.int .i64 r.2.1), (.bool r.2.2)])
@[reducible] def qfj (a0 : (List Token)) (a1 : Int) (r : Node × Int × Bool) : Prop :=
  Fn Tryz.prog G 102 [(.sl 4 false (a0.map Token.cells)), (.int .i64 a1)] (.tup [(.agg (zf r.1)), (.int .i64 r.2.1), (.bool r.2.2)])
@[reducible] def qbl (a0 : (List Token)) (a1 : Int) (a2 : Int) (a3 : BA) (a4 : LB) (a5 : LN) (r : Node × Int × Bool) : Prop :=
  AC Tryz.prog G 76 [(.sl 4 false (a0.map Token.cells)), (.int .i64 a1), (.agg [(.int .i64 a2), (.str a3), (.sl 1 false (a4.map sc)), (.bs 4 0 0 0 a5.length)])] 2 [(0, .row 26 (a5.map Node.cells).flatten), (1, .row 26 [])] (.tup [(.agg [(.int .i64 r.1.kind), (.str r.1.text), (.sl 1 false (r.1.gaps.map sc)), (.bs 4 1 2 0 r.1.kids.length)]), (.int .i64 r.2.1), (.bool r.2.2)]) 3 [(0, .row 26 []), (2, .row 26 (r.1.kids.map Node.cells).flatten)]
@[reducible] def qbm (t0 : (List Token)) (t1 : Int) (o1_0 : Int) (o1_1 : BA) (o1_2 : LB) (o1_3 : LN) (r : Node × Int × Bool) : Prop :=
  Ok Tryz.prog G tt 65 0 (Ret Tryz.prog [.cell 4 26, .tmp 5, .tmp 6] (fun y H => Told Tryz.prog G H y (.tup [(.agg (zf r.1)), (.int .i64 r.2.1), (.bool r.2.2)]))) (.again (yy [] Tryz.f102 0).1 (yy [] Tryz.f102 0).2 (.n (.sl 4 false (t0.map Token.cells)) (.n (.int .i64 t1) (.n .undef (.n (.ptr 1 1 0) .z .z) .z) .z) (.n .undef (.n (.ptr 0 0 0) .z .z) .z)) 4 [(0, .var 26 [(.int .i64 0), (.str ⟨#[]⟩), (.sl 0 true []), (.sl 0 true [])]), (1, .var 26 [(.int .i64 o1_0), (.str o1_1), (.bs 1 2 2 0 o1_2.length), (.bs 4 3 3 0 o1_3.length)]), (2, .row 9 (o1_2.map sc).flatten), (3, .row 26 (o1_3.map Node.cells).flatten)])
theorem Zo : PC2 qar w5 ∧ PC6 qbl Zb ∧ PC2 qfj v7 ∧ PC6 qbm Qe ∧ PC2 qdp qbb := by
 refine w5.mutual_partial_correctness qar qbl qfj qbm qdp (fun Zb qbb Kv qhx a0 a1 r h => ?_) (fun v7 W6 a0 a1 a2 a3 a4 a5 r h => ?_) (fun Qe Kw a0 a1 r h => ?_) (fun w5 Qe qaw Kw t0 t1 o1_0 o1_1 o1_2 o1_3 r h => ?_) (fun Zb v7 Kv W6 a0 a1 r h => ?_)
 ·unfold qb at h
  refine zk (T := tt) (N := 85) (rs := [.cell 4 26, .tmp 5, .tmp 6]) (fun vs w => by simp) Tryz.func35 rfl rfl rfl rfl (by kernel_rfl) (jh rfl) (zp _ rfl) ?_
  refine kr [70] ?_
  obtain ⟨x1, hx, h⟩ := bind_some h
  refine ql (jy _ _ _ _ hx) ?_
  refine kr [70] ?_
  refine qj (fun hb => ?_) (fun hb => ?_)
  ·replace h := qx hb h
   refine kr [70] ?_
   obtain ⟨x2, hx, h⟩ := bind_some h
   refine ql (Fn.wk (qcr _ _ _ _ _ hx) (Zw (qbw _) (Zw (qbw _) (Zw (qbw _) (Zw (qz3 (.inl rfl)) qmx))))) ?_
   refine kr [70] ?_
   cases h
   exact kf
  ·replace h := qy hb h
   refine kr [70] ?_
   obtain ⟨x3, hx, h⟩ := bind_some h
   refine ql (jy _ _ _ _ hx) ?_
   refine kr [70] ?_
   refine qj (fun hb => ?_) (fun hb => ?_)
   ·replace h := qx hb h
    refine kr [70] ?_
    obtain ⟨x4, hx, h⟩ := bind_some h
    refine jo env hx rfl rfl rfl rfl rfl ?_
    refine kr [70] ?_
    obtain ⟨x5, hx, h⟩ := bind_some h
    refine qn (ACalls.ghost (e := 26) (ACalls.wkg (AC.go (objs := [(0, .var 26 [(.int .i64 0), (.str ⟨#[]⟩), (.sl 0 true []), (.sl 0 true [])]), (1, .row 26 (([] : LN).map Node.cells).flatten)]) (xs := [(.sl 4 false (a0.map Token.cells)), (.int .i64 (IntKind.i64.wrap (a1 + (1 : Int)))), (.agg [(.int .i64 (12 : Int)), (.str ⟨#[]⟩), (.sl 1 true (([x4.Lead]).map sc)), (.bs 4 1 1 0 ([] : LN).length)])]) (qmd _ _ _ _ _ _ _ hx) [1] [1] rfl rfl rfl rfl rfl rfl rfl rfl rfl) (qt (q7 _) (qt (q9 _) (qt (qg8 (qq (q7 _) (qq (q7 _) (qq (q7 _) (qq (zu rfl) j3))))) jg))) (z6 _))) ?_
    refine kr [70] ?_
    cases h
    exact kf
   ·replace h := qy hb h
    refine kr [70] ?_
    obtain ⟨x6, hx, h⟩ := bind_some h
    refine ql (jy _ _ _ _ hx) ?_
    refine kr [70] ?_
    refine qj (fun hb => ?_) (fun hb => ?_)
    ·replace h := qx hb h
     refine kr [70] ?_
     obtain ⟨x7, hx, h⟩ := bind_some h
     refine ql (qhx _ _ _ hx) ?_
     refine kr [70] ?_
     cases h
     exact kf
    ·replace h := qy hb h
     refine kr [70] ?_
     obtain ⟨x8, hx, h⟩ := bind_some h
     refine ql (jy _ _ _ _ hx) ?_
     refine kr [70] ?_
     refine qj (fun hb => ?_) (fun hb => ?_)
     ·replace h := qx hb h
      refine kr [70] ?_
      obtain ⟨x9, hx, h⟩ := bind_some h
      refine jo env hx rfl rfl rfl rfl rfl ?_
      refine kr [70] ?_
      obtain ⟨x10, hx, h⟩ := bind_some h
      refine qn (ACalls.ghost (e := 26) (ACalls.ghost (e := 26) (ACalls.wkg (AC.go (objs := [(0, .var 26 [(.int .i64 0), (.str ⟨#[]⟩), (.sl 0 true []), (.sl 0 true [])]), (1, .var 26 [(.int .i64 (15 : Int)), (.str ⟨#[]⟩), (.sl 1 true (([x9.Lead]).map sc)), (.sl 0 true [])]), (2, .row 26 (([] : LN).map Node.cells).flatten), (3, .row 26 (([] : LN).map Node.cells).flatten)]) (xs := [(.sl 4 false (a0.map Token.cells)), (.int .i64 (IntKind.i64.wrap (a1 + (1 : Int)))), (.agg [(.int .i64 (15 : Int)), (.str ⟨#[]⟩), (.sl 1 false (([x9.Lead]).map sc)), (.bs 4 2 2 0 ([] : LN).length)])]) (Kv _ _ _ _ _ _ _ hx) [2, 3] [2, 3] rfl rfl rfl rfl rfl rfl rfl rfl rfl) (qt (q7 _) (qt (q9 _) (qt (qg8 (qq (q7 _) (qq (q7 _) (qq (qb5 (.inl rfl) (by simp)) (qq (zu rfl) j3))))) jg))) (z6 _)))) ?_
      refine kr [70] ?_
      cases h
      exact zd env rfl rfl (zt (zr (qc (jb (qa (qi rfl) (qa (q6 rfl) (qa (qv (.inl rfl)) (qa (z8 zo rfl) z1))))) (qc (q5 (qi rfl) (by simp)) (qc (q5 (ze rfl) (by simp)) zg)))))
     ·replace h := qy hb h
      refine kr [70] ?_
      obtain ⟨x11, hx, h⟩ := bind_some h
      refine ql (qba _ _ _ hx) ?_
      refine kr [70] ?_
      refine qr (fun hb => ?_) (fun hb => ?_)
      ·replace h := qx hb h
       refine kr [70] ?_
       obtain ⟨x12, hx, h⟩ := bind_some h
       refine ql (jy _ _ _ _ hx) ?_
       refine kr [70] ?_
       refine qj (fun hb => ?_) (fun hb => ?_)
       ·replace h := qx hb h
        refine kr [70] ?_
        obtain ⟨x13, hx, h⟩ := bind_some h
        refine ql (Fn.wk (qcr _ _ _ _ _ hx) (Zw (qbw _) (Zw (qbw _) (Zw (qbw _) (Zw (qz3 (.inl rfl)) qmx))))) ?_
        refine kr [70] ?_
        cases h
        exact kf
       ·replace h := qy hb h
        refine kr [70] ?_
        exact zb (by kernel_rfl) rfl lA (qa9 _ _ _ h)
      ·replace h := qy hb h
       refine kr [70] ?_
       exact zb (by kernel_rfl) rfl lA (qa9 _ _ _ h)
 ·unfold qb at h
  refine ⟨?_, (Qy zo rfl (qr2 rfl y3)), (ku zo (qa2 z7)), (qeu (Yc zo y0)), (qa2 (ku zo z7)), rfl, rfl, rfl, rfl⟩
  refine Qx (T := tt) (N := 49) (rs := [.cell 6 26, .tmp 7, .tmp 8]) (fun vs w => by simp) Tryz.func76 rfl rfl rfl (by kernel_rfl) (by kernel_rfl) ?_
  refine kr [] ?_
  obtain ⟨x28, hx, h⟩ := bind_some h
  refine ql (we _ _ _ _ hx) ?_
  refine kr [] ?_
  refine qj (fun hb => ?_) (fun hb => ?_)
  ·replace h := qx hb h
   refine kr [] ?_
   cases h
   exact jl env rfl rfl (tS [none, none] (kc rfl rfl (kc rfl rfl zx)) (wh (zj (jr (qk (qd (qi rfl) rfl) (qk (qd (q6 rfl) rfl) (qk (qd (qv (.inr rfl)) rfl) (qk (qdz rfl rfl) jp))))) (zj (jq (qd (qi rfl) rfl) (by simp)) (zj (jq (qd (ze rfl) rfl) (by simp)) y8)))))
  ·replace h := qy hb h
   refine kr [] ?_
   obtain ⟨x29, hx, h⟩ := bind_some h
   refine ql (W6 _ _ _ hx) ?_
   refine kr [] ?_
   refine qj (fun hb => ?_) (fun hb => ?_)
   ·replace h := qx hb h
    refine kr [] ?_
    cases h
    exact jl env rfl rfl (tS [none, none] (kc rfl rfl (kc rfl rfl zx)) (wh (zj (jr (qk (qd (qi rfl) rfl) (qk (qd (q6 rfl) rfl) (qk (qd (qv (.inr rfl)) rfl) (qk (qdz rfl rfl) jp))))) (zj (jq (qd (qi rfl) rfl) (by simp)) (zj (jq (qd (ze rfl) rfl) (by simp)) y8)))))
   ·replace h := qy hb h
    refine kr [] ?_
    obtain ⟨x30, hx, h⟩ := bind_some h
    have hp_x30 := jx hx (by simp)
    refine y7 (C := Node.cells) env hx rfl (show _ = AV.sl _ _ (List.map Node.cells [x28.1]) from (by simp only [List.map_cons, List.map_nil, Node.cells_eq]; rfl)) (by simp) Node.cells_len rfl rfl rfl rfl rfl (by decide) rfl rfl rfl ?_
    refine kr [] ?_
    obtain ⟨x31, hx, h⟩ := bind_some h
    have hp_x31 := jx hx (by simp)
    refine y7 (C := Node.cells) env hx rfl (show _ = AV.sl _ _ (List.map Node.cells [x29.1]) from (by simp only [List.map_cons, List.map_nil, Node.cells_eq]; rfl)) (by simp) Node.cells_len rfl rfl rfl rfl rfl (by decide) rfl rfl rfl ?_
    refine kr [] ?_
    cases h
    exact jl env rfl rfl (tS [none, some 0] (kc rfl rfl (sR zo zx)) (wh (zj (jr (qk (qd (qi rfl) rfl) (qk (qd (q6 rfl) rfl) (qk (qd (qv (.inl rfl)) rfl) (qk (qte rfl rfl rfl) jp))))) (zj (jq (qd (qi rfl) rfl) (by simp)) (zj (jq (qd (ze rfl) rfl) (by simp)) y8)))))
 ·unfold qb at h
  refine zk (T := tt) (N := 65) (rs := [.cell 4 26, .tmp 5, .tmp 6]) (fun vs w => by simp) Tryz.func102 rfl rfl rfl rfl (by kernel_rfl) (jh rfl) (zp _ rfl) ?_
  refine kr [] ?_
  obtain ⟨x21, hx, h⟩ := bind_some h
  refine ql (jy _ _ _ _ hx) ?_
  refine kr [] ?_
  refine qj (fun hb => ?_) (fun hb => ?_)
  ·replace h := qx hb h
   refine kr [] ?_
   cases h
   exact zd env rfl rfl (zt (zr (qc (jb (qa (qi rfl) (qa (q6 rfl) (qa (qv (.inr rfl)) (qa (qv (.inr rfl)) z1))))) (qc (q5 (qi rfl) (by simp)) (qc (q5 (ze rfl) (by simp)) zg)))))
  ·replace h := qy hb h
   refine kr [] ?_
   obtain ⟨x22, hx, h⟩ := bind_some h
   refine jo env hx rfl rfl rfl rfl rfl ?_
   refine kr [] ?_
   obtain ⟨x23, hx, h⟩ := bind_some h
   have hp_x23 := jx hx (by simp)
   refine Y7 (C := sc) env hx rfl (.inr rfl) rfl (by simp) rfl rfl rfl rfl rfl (by decide) rfl rfl ?_
   refine kr [] ?_
   refine qhl 1 3 4 26 rfl rfl rfl ?_
   exact yo (by kernel_rfl) lA (Kw _ _ _ _ _ _ _ h)
 ·unfold qb at h
  refine kt ?_
  refine kr [] ?_
  obtain ⟨x34, hx, h⟩ := bind_some h
  refine ql (jy _ _ _ _ hx) ?_
  refine kr [] ?_
  refine qj (fun hb => ?_) (fun hb => ?_)
  ·replace h := qx hb h
   refine kr [] ?_
   obtain ⟨x35, hx, h⟩ := bind_some h
   refine ql (qaw _ _ _ hx) ?_
   refine kr [] ?_
   refine qj (fun hb => ?_) (fun hb => ?_)
   ·replace h := qx hb h
    refine kr [] ?_
    cases h
    exact zd env rfl rfl (zt (zr (qc (jb (qa (qi rfl) (qa (q6 rfl) (qa (qv (.inr rfl)) (qa (qv (.inr rfl)) z1))))) (qc (q5 (qi rfl) (by simp)) (qc (q5 (ze rfl) (by simp)) zg)))))
   ·replace h := qy hb h
    refine kr [] ?_
    obtain ⟨x36, hx, h⟩ := bind_some h
    have hp_x36 := jx hx (by simp)
    refine y7 (C := Node.cells) env hx rfl (show _ = AV.sl _ _ (List.map Node.cells [x35.1]) from (by simp only [List.map_cons, List.map_nil, Node.cells_eq]; rfl)) (by simp) Node.cells_len rfl rfl rfl rfl rfl (by decide) rfl rfl rfl ?_
    refine kr [] ?_
    exact j4 (by kernel_rfl) lA (Kw _ _ _ _ _ _ _ h)
  ·replace h := qy hb h
   refine kr [] ?_
   obtain ⟨x37, hx, h⟩ := bind_some h
   refine jo env hx rfl rfl rfl rfl rfl ?_
   refine kr [] ?_
   obtain ⟨x38, hx, h⟩ := bind_some h
   have hp_x38 := jx hx (by simp)
   refine y7 (C := sc) env hx rfl rfl (by simp) (fun _ => rfl) rfl rfl rfl rfl rfl (by decide) rfl rfl rfl ?_
   refine kr [] ?_
   cases h
   exact zd env rfl rfl (zt (zr (qc (jb (qa (qi rfl) (qa (q6 rfl) (qa (z8 yp rfl) (qa (z8 zo rfl) z1))))) (qc (q5 (qi rfl) (by simp)) (qc (q5 (ze rfl) (by simp)) zg)))))
 ·unfold qb at h
  refine zk (T := tt) (N := 74) (rs := [.cell 4 26, .tmp 5, .tmp 6]) (fun vs w => by simp) Tryz.func75 rfl rfl rfl rfl (by kernel_rfl) (jh rfl) (zp _ rfl) ?_
  refine kr [36] ?_
  obtain ⟨x14, hx, h⟩ := bind_some h
  refine jo env hx rfl rfl rfl rfl rfl ?_
  refine kr [36] ?_
  obtain ⟨x15, hx, h⟩ := bind_some h
  refine qn (ACalls.ghost (e := 26) (ACalls.ghost (e := 26) (ACalls.wkg (AC.go (objs := [(0, .var 26 [(.int .i64 0), (.str ⟨#[]⟩), (.sl 0 true []), (.sl 0 true [])]), (1, .row 26 (([] : LN).map Node.cells).flatten), (2, .row 26 (([] : LN).map Node.cells).flatten)]) (xs := [(.sl 4 false (a0.map Token.cells)), (.int .i64 (IntKind.i64.wrap (a1 + (1 : Int)))), (.agg [(.int .i64 (13 : Int)), (.str ⟨#[]⟩), (.sl 1 false (([x14.Lead]).map sc)), (.bs 4 1 1 0 ([] : LN).length)])]) (Kv _ _ _ _ _ _ _ hx) [1, 2] [1, 2] rfl rfl rfl rfl rfl rfl rfl rfl rfl) (qt (q7 _) (qt (q9 _) (qt (qg8 (qq (q7 _) (qq (q7 _) (qq (qb5 (.inl rfl) (by simp)) (qq (zu rfl) j3))))) jg))) (z6 _)))) ?_
  refine kr [36] ?_
  refine qj (fun hb => ?_) (fun hb => ?_)
  ·replace h := qx hb h
   refine kr [36] ?_
   cases h
   exact zd env rfl rfl (zt (zr (qc (jb (qa (qi rfl) (qa (q6 rfl) (qa (qv (.inr rfl)) (qa (qv (.inr rfl)) z1))))) (qc (q5 (qi rfl) (by simp)) (qc (q5 (ze rfl) (by simp)) zg)))))
  ·replace h := qy hb h
   refine kr [36] ?_
   obtain ⟨x16, hx, h⟩ := bind_some h
   refine ql (jy _ _ _ _ hx) ?_
   refine kr [36] ?_
   refine qj (fun hb => ?_) (fun hb => ?_)
   ·replace h := qx hb h
    refine kr [36] ?_
    obtain ⟨x17, hx, h⟩ := bind_some h
    refine jo env hx rfl rfl rfl rfl rfl ?_
    refine kr [36] ?_
    obtain ⟨x18, hx, h⟩ := bind_some h
    have hp_x18 := jx hx (by simp)
    refine Y7 (C := sc) env hx rfl (.inr rfl) rfl (by simp) rfl rfl rfl rfl rfl (by decide) rfl rfl ?_
    refine kr [36] ?_
    obtain ⟨x19, hx, h⟩ := bind_some h
    refine ql (W6 _ _ _ hx) ?_
    refine kr [36] ?_
    refine qj (fun hb => ?_) (fun hb => ?_)
    ·replace h := qx hb h
     refine kr [36] ?_
     cases h
     exact zd env rfl rfl (zt (zr (qc (jb (qa (qi rfl) (qa (q6 rfl) (qa (qv (.inr rfl)) (qa (qv (.inr rfl)) z1))))) (qc (q5 (qi rfl) (by simp)) (qc (q5 (ze rfl) (by simp)) zg)))))
    ·replace h := qy hb h
     refine kr [36] ?_
     obtain ⟨x20, hx, h⟩ := bind_some h
     have hp_x20 := jx hx (by simp)
     refine Y7 (C := Node.cells) env hx rfl (.inr rfl) (show _ = AV.sl _ _ (List.map Node.cells [x19.1]) from (by simp only [List.map_cons, List.map_nil, Node.cells_eq]; rfl)) (by simp) rfl rfl rfl rfl rfl (by decide) rfl rfl ?_
     refine kr [36] ?_
     refine vk 4 2 5 yp rfl rfl rfl rfl rfl rfl ?_
     refine vk 4 3 7 zo rfl rfl rfl rfl rfl rfl ?_
     exact zb (by kernel_rfl) rfl lA (qdh _ _ _ _ _ _ _ h)
   ·replace h := qy hb h
    refine kr [36] ?_
    exact zb (by kernel_rfl) rfl lA (qdh _ _ _ _ _ _ _ h)
theorem qaw : PC2 qar w5 := Zo.1
theorem Kv : PC6 qbl Zb := Zo.2.1
theorem W6 : PC2 qfj v7 := Zo.2.2.1
theorem Kw : PC6 qbm Qe := Zo.2.2.2.1
theorem qhx : PC2 qdp qbb := Zo.2.2.2.2
def Jd (a0 : (List Token)) (a1 : Int) : Option (Node × Int × Bool) :=
 ut a0 a1 ([(⟨#[102, 110]⟩ : BA), (⟨#[]⟩ : BA)]) >>= fun x1 =>
 if (!x1.2.2) = true then
  some ((Node.mk 0 (⟨#[]⟩) ([] : LB) ([] : LN)), x1.2.1, false)
 else
  ix a0 (IntKind.i64.wrap (x1.2.1 - (1 : Int))) >>= fun x2 =>
  Wi a0 x1.2.1 >>= fun x3 =>
  if (!x3.2.2) = true then
   some ((Node.mk 0 (⟨#[]⟩) ([] : LB) ([] : LN)), x3.2.1, false)
  else
   K9 a0 x3.2.1 >>= fun x4 =>
   if (!x4.2.2) = true then
    some ((Node.mk 0 (⟨#[]⟩) ([] : LB) ([] : LN)), x4.2.1, false)
   else
    v7 a0 x4.2.1 >>= fun x5 =>
    if (!x5.2.2) = true then
     some ((Node.mk 0 (⟨#[]⟩) ([] : LB) ([] : LN)), x5.2.1, false)
    else
     app 72 ([] : LN) ([x3.1]) >>= fun x6 =>
     app 72 x6 ([x4.1]) >>= fun x7 =>
     app 72 x7 ([x5.1]) >>= fun x8 =>
     some ((Node.mk (2 : Int) x2.Text x1.1 x8), x5.2.1, true)
@[reducible] def ql6 (a0 : (List Token)) (a1 : Int) (r : Node × Int × Bool) : Prop :=
  Fn Tryz.prog G 60 [(.sl 4 false (a0.map Token.cells)), (.int .i64 a1)] (.tup [(.agg (zf r.1)), (.int .i64 r.2.1), (.bool r.2.2)])
theorem qfu : PC2 ql6 Jd := fun a0 a1 r h => by
 rw [Jd.eq_def] at h
 refine zk (T := tt) (N := 87) (rs := [.cell 4 26, .tmp 5, .tmp 6]) (fun vs w => by simp) Tryz.func60 rfl rfl rfl rfl (by kernel_rfl) (jh rfl) (zp _ rfl) ?_
 refine kr [] ?_
 obtain ⟨x1, hx, h⟩ := bind_some h
 refine qn (ACalls.ghost (e := 9) (ACalls.wkg (AC.go (objs := [(0, .var 26 [(.int .i64 0), (.str ⟨#[]⟩), (.sl 0 true []), (.sl 0 true [])]), (1, .row 9 (([] : LB).map sc).flatten)]) (xs := [(.sl 4 false (a0.map Token.cells)), (.int .i64 a1), (.sl 1 false (([(⟨#[102, 110]⟩ : BA), (⟨#[]⟩ : BA)]).map sc))]) (Jl _ _ _ _ hx) [1] [1] rfl rfl rfl rfl rfl rfl rfl rfl rfl) (qt (q7 _) (qt (q9 _) (qt (qb5 (.inl rfl) (by simp)) jg))) (z6 _))) ?_
 refine kr [] ?_
 refine qj (fun hb => ?_) (fun hb => ?_)
 ·replace h := qx hb h
  refine kr [] ?_
  cases h
  exact zd env rfl rfl (zt (zr (qc (jb (qa (qi rfl) (qa (q6 rfl) (qa (qv (.inr rfl)) (qa (qv (.inr rfl)) z1))))) (qc (q5 (qi rfl) (by simp)) (qc (q5 (ze rfl) (by simp)) zg)))))
 ·replace h := qy hb h
  refine kr [] ?_
  obtain ⟨x2, hx, h⟩ := bind_some h
  refine jo env hx rfl rfl rfl rfl rfl ?_
  refine kr [] ?_
  obtain ⟨x3, hx, h⟩ := bind_some h
  refine ql (qpu _ _ _ hx) ?_
  refine kr [] ?_
  refine qj (fun hb => ?_) (fun hb => ?_)
  ·replace h := qx hb h
   refine kr [] ?_
   cases h
   exact zd env rfl rfl (zt (zr (qc (jb (qa (qi rfl) (qa (q6 rfl) (qa (qv (.inr rfl)) (qa (qv (.inr rfl)) z1))))) (qc (q5 (qi rfl) (by simp)) (qc (q5 (ze rfl) (by simp)) zg)))))
  ·replace h := qy hb h
   refine kr [] ?_
   obtain ⟨x4, hx, h⟩ := bind_some h
   refine ql (qj6 _ _ _ hx) ?_
   refine kr [] ?_
   refine qj (fun hb => ?_) (fun hb => ?_)
   ·replace h := qx hb h
    refine kr [] ?_
    cases h
    exact zd env rfl rfl (zt (zr (qc (jb (qa (qi rfl) (qa (q6 rfl) (qa (qv (.inr rfl)) (qa (qv (.inr rfl)) z1))))) (qc (q5 (qi rfl) (by simp)) (qc (q5 (ze rfl) (by simp)) zg)))))
   ·replace h := qy hb h
    refine kr [] ?_
    obtain ⟨x5, hx, h⟩ := bind_some h
    refine ql (W6 _ _ _ hx) ?_
    refine kr [] ?_
    refine qj (fun hb => ?_) (fun hb => ?_)
    ·replace h := qx hb h
     refine kr [] ?_
     cases h
     exact zd env rfl rfl (zt (zr (qc (jb (qa (qi rfl) (qa (q6 rfl) (qa (qv (.inr rfl)) (qa (qv (.inr rfl)) z1))))) (qc (q5 (qi rfl) (by simp)) (qc (q5 (ze rfl) (by simp)) zg)))))
    ·replace h := qy hb h
     refine kr [] ?_
     obtain ⟨x6, hx, h⟩ := bind_some h
     have hp_x6 := jx hx (by simp)
     refine Y7 (C := Node.cells) env hx rfl (.inr rfl) (show _ = AV.sl _ _ (List.map Node.cells [x3.1]) from (by simp only [List.map_cons, List.map_nil, Node.cells_eq]; rfl)) (by simp) rfl rfl rfl rfl rfl (by decide) rfl rfl ?_
     refine kr [] ?_
     obtain ⟨x7, hx, h⟩ := bind_some h
     have hp_x7 := jx hx (by simp)
     refine y7 (C := Node.cells) env hx rfl (show _ = AV.sl _ _ (List.map Node.cells [x4.1]) from (by simp only [List.map_cons, List.map_nil, Node.cells_eq]; rfl)) (by simp) Node.cells_len rfl rfl rfl rfl rfl (by decide) rfl rfl rfl ?_
     refine kr [] ?_
     obtain ⟨x8, hx, h⟩ := bind_some h
     have hp_x8 := jx hx (by simp)
     refine y7 (C := Node.cells) env hx rfl (show _ = AV.sl _ _ (List.map Node.cells [x5.1]) from (by simp only [List.map_cons, List.map_nil, Node.cells_eq]; rfl)) (by simp) Node.cells_len rfl rfl rfl rfl rfl (by decide) rfl rfl rfl ?_
     refine kr [] ?_
     cases h
     exact zd env rfl rfl (zt (zr (qc (jb (qa (qi rfl) (qa (q6 rfl) (qa (z8 yp rfl) (qa (z8 zo rfl) z1))))) (qc (q5 (qi rfl) (by simp)) (qc (q5 (ze rfl) (by simp)) zg)))))
def Zc (t0 : (List Token)) (t8 : Int) (o2_0 : Int) (o2_1 : BA) (o2_2 : LB) (o2_3 : LN) : Option (Node × Int × Bool) :=
 yc (qb t0) (qb t8) (⟨#[102, 110]⟩ : BA) >>= fun x10 =>
 if x10 = true then
  Jd (qb t0) (qb t8) >>= fun x11 =>
  if (!x11.2.2) = true then
   some ((Node.mk 0 (⟨#[]⟩) ([] : LB) ([] : LN)), x11.2.1, false)
  else
   app 72 o2_3 ([x11.1]) >>= fun x12 =>
   Zc (qb t0) x11.2.1 (qb o2_0) (qb o2_1) (qb o2_2) (qb x12)
 else
  yc (qb t0) (qb t8) (⟨#[125]⟩ : BA) >>= fun x13 =>
  if (!x13) = true then
   some ((Node.mk 0 (⟨#[]⟩) ([] : LB) ([] : LN)), t8, false)
  else
   ix t0 t8 >>= fun x14 =>
   app 16 o2_2 ([x14.Lead]) >>= fun x15 =>
   some ((Node.mk o2_0 o2_1 x15 o2_3), (IntKind.i64.wrap (t8 + (1 : Int))), true)
 partial_fixpoint
@[reducible] def qfs (t0 : (List Token)) (t8 : Int) (o2_0 : Int) (o2_1 : BA) (o2_2 : LB) (o2_3 : LN) (r : Node × Int × Bool) : Prop :=
  Ok Tryz.prog G tt 124 0 (Ret Tryz.prog [.cell 4 26, .tmp 5, .tmp 6] (fun y H => Told Tryz.prog G H y (.tup [(.agg (zf r.1)), (.int .i64 r.2.1), (.bool r.2.2)]))) (.again (yy [38] Tryz.f61 0).1 (yy [38] Tryz.f61 0).2 (.n (.sl 4 false (t0.map Token.cells)) .z (.n .undef (.n (.ptr 0 0 0) (.n (.int .i64 t8) .z .z) .z) (.n .undef (.n (.ptr 2 3 0) .z .z) .z))) 10 [(0, .var 26 [(.int .i64 0), (.str ⟨#[]⟩), (.sl 0 true []), (.sl 0 true [])]), (9, .row 9 (o2_2.map sc).flatten), (3, .var 26 [(.int .i64 o2_0), (.str o2_1), (.bs 1 1 9 0 o2_2.length), (.bs 4 5 8 0 o2_3.length)]), (4, .dead), (6, .dead), (8, .row 26 (o2_3.map Node.cells).flatten)])
theorem qbr : PC6 qfs Zc := by
 refine Zc.partial_correctness qfs (fun Zc qbr t0 t8 o2_0 o2_1 o2_2 o2_3 r h => ?_)
 ·unfold qb at h
  refine kt ?_
  refine kr [38] ?_
  obtain ⟨x10, hx, h⟩ := bind_some h
  refine ql (jy _ _ _ _ hx) ?_
  refine kr [38] ?_
  refine qj (fun hb => ?_) (fun hb => ?_)
  ·replace h := qx hb h
   refine kr [38] ?_
   obtain ⟨x11, hx, h⟩ := bind_some h
   refine ql (qfu _ _ _ hx) ?_
   refine kr [38] ?_
   refine qj (fun hb => ?_) (fun hb => ?_)
   ·replace h := qx hb h
    refine kr [38] ?_
    cases h
    exact zd env rfl rfl (zt (zr (qc (jb (qa (qi rfl) (qa (q6 rfl) (qa (qv (.inr rfl)) (qa (qv (.inr rfl)) z1))))) (qc (q5 (qi rfl) (by simp)) (qc (q5 (ze rfl) (by simp)) zg)))))
   ·replace h := qy hb h
    refine kr [38] ?_
    obtain ⟨x12, hx, h⟩ := bind_some h
    have hp_x12 := jx hx (by simp)
    refine y7 (C := Node.cells) env hx rfl (show _ = AV.sl _ _ (List.map Node.cells [x11.1]) from (by simp only [List.map_cons, List.map_nil, Node.cells_eq]; rfl)) (by simp) Node.cells_len rfl rfl rfl rfl rfl (by decide) rfl rfl rfl ?_
    refine kr [38] ?_
    exact j4 (by kernel_rfl) lA (qbr _ _ _ _ _ _ _ h)
  ·replace h := qy hb h
   refine kr [38] ?_
   obtain ⟨x13, hx, h⟩ := bind_some h
   refine ql (jy _ _ _ _ hx) ?_
   refine kr [38] ?_
   refine qj (fun hb => ?_) (fun hb => ?_)
   ·replace h := qx hb h
    refine kr [38] ?_
    cases h
    exact zd env rfl rfl (zt (zr (qc (jb (qa (qi rfl) (qa (q6 rfl) (qa (qv (.inr rfl)) (qa (qv (.inr rfl)) z1))))) (qc (q5 (qi rfl) (by simp)) (qc (q5 (ze rfl) (by simp)) zg)))))
   ·replace h := qy hb h
    refine kr [38] ?_
    obtain ⟨x14, hx, h⟩ := bind_some h
    refine jo env hx rfl rfl rfl rfl rfl ?_
    refine kr [38] ?_
    obtain ⟨x15, hx, h⟩ := bind_some h
    have hp_x15 := jx hx (by simp)
    refine y7 (C := sc) env hx rfl rfl (by simp) (fun _ => rfl) rfl rfl rfl rfl rfl (by decide) rfl rfl rfl ?_
    refine kr [38] ?_
    cases h
    exact zd env rfl rfl (zt (zr (qc (jb (qa (qi rfl) (qa (q6 rfl) (qa (z8 yp rfl) (qa (z8 zo rfl) z1))))) (qc (q5 (qi rfl) (by simp)) (qc (q5 (ze rfl) (by simp)) zg)))))
def um (t0 : (List Token)) (t8 : Int) (o2_0 : Int) (o2_1 : BA) (o2_2 : LB) (o2_3 : LN) (o3 : Node) : Option (Node × Int × Bool) :=
 app 72 o2_3 ([o3]) >>= fun x6 =>
 yc t0 t8 (⟨#[123]⟩ : BA) >>= fun x7 =>
 if (!x7) = true then
  some ((Node.mk 0 (⟨#[]⟩) ([] : LB) ([] : LN)), t8, false)
 else
  ix t0 t8 >>= fun x8 =>
  app 16 o2_2 ([x8.Lead]) >>= fun x9 =>
  Zc t0 (IntKind.i64.wrap (t8 + (1 : Int))) o2_0 o2_1 x9 x6
@[reducible] def qky (t0 : (List Token)) (t8 : Int) (o2_0 : Int) (o2_1 : BA) (o2_2 : LB) (o2_3 : LN) (o3 : Node) (r : Node × Int × Bool) : Prop :=
  Ok Tryz.prog G tt 124 0 (Ret Tryz.prog [.cell 4 26, .tmp 5, .tmp 6] (fun y H => Told Tryz.prog G H y (.tup [(.agg (zf r.1)), (.int .i64 r.2.1), (.bool r.2.2)]))) (.go [] (Qh [38] Tryz.f61 38) [] (.n (.sl 4 false (t0.map Token.cells)) (.n .undef (.n .undef .z (.n (.ptr 3 4 0) .z .z)) .z) (.n .undef (.n (.ptr 0 0 0) (.n (.int .i64 t8) .z .z) .z) (.n .undef (.n (.ptr 2 3 0) .z .z) .z))) 8 [(0, .var 26 [(.int .i64 0), (.str ⟨#[]⟩), (.sl 0 true []), (.sl 0 true [])]), (2, .row 9 (o2_2.map sc).flatten), (3, .var 26 [(.int .i64 o2_0), (.str o2_1), (.bs 1 1 2 0 o2_2.length), (.bs 4 5 7 0 o2_3.length)]), (4, .var 26 (zf o3)), (6, .dead), (7, .row 26 (o2_3.map Node.cells).flatten)])
theorem qel : PC7 qky um := fun t0 t8 o2_0 o2_1 o2_2 o2_3 o3 r h => by
 rw [um.eq_def] at h
 refine kr [38] ?_
 obtain ⟨x6, hx, h⟩ := bind_some h
 have hp_x6 := jx hx (by simp)
 refine y7 (C := Node.cells) env hx rfl (show _ = AV.sl _ _ (List.map Node.cells [o3]) from (by simp only [List.map_cons, List.map_nil, Node.cells_eq]; rfl)) (by simp) Node.cells_len rfl rfl rfl rfl rfl (by decide) rfl rfl rfl ?_
 refine kr [38] ?_
 obtain ⟨x7, hx, h⟩ := bind_some h
 refine ql (jy _ _ _ _ hx) ?_
 refine kr [38] ?_
 refine qj (fun hb => ?_) (fun hb => ?_)
 ·replace h := qx hb h
  refine kr [38] ?_
  cases h
  exact zd env rfl rfl (zt (zr (qc (jb (qa (qi rfl) (qa (q6 rfl) (qa (qv (.inr rfl)) (qa (qv (.inr rfl)) z1))))) (qc (q5 (qi rfl) (by simp)) (qc (q5 (ze rfl) (by simp)) zg)))))
 ·replace h := qy hb h
  refine kr [38] ?_
  obtain ⟨x8, hx, h⟩ := bind_some h
  refine jo env hx rfl rfl rfl rfl rfl ?_
  refine kr [38] ?_
  obtain ⟨x9, hx, h⟩ := bind_some h
  have hp_x9 := jx hx (by simp)
  refine y7 (C := sc) env hx rfl rfl (by simp) (fun _ => rfl) rfl rfl rfl rfl rfl (by decide) rfl rfl rfl ?_
  refine kr [38] ?_
  exact yo (by kernel_rfl) lA (qbr _ _ _ _ _ _ _ h)
def qaz (a0 : (List Token)) (a1 : Int) : Option (Node × Int × Bool) :=
 ut a0 a1 ([(⟨#[99, 108, 97, 115, 115]⟩ : BA), (⟨#[]⟩ : BA)]) >>= fun x1 =>
 if (!x1.2.2) = true then
  some ((Node.mk 0 (⟨#[]⟩) ([] : LB) ([] : LN)), x1.2.1, false)
 else
  ix a0 (IntKind.i64.wrap (x1.2.1 - (1 : Int))) >>= fun x2 =>
  yc a0 x1.2.1 (⟨#[58]⟩ : BA) >>= fun x3 =>
  if x3 = true then
   ut a0 x1.2.1 ([(⟨#[58]⟩ : BA), (⟨#[]⟩ : BA)]) >>= fun x4 =>
   if (!x4.2.2) = true then
    some ((Node.mk 0 (⟨#[]⟩) ([] : LB) ([] : LN)), x4.2.1, false)
   else
    ix a0 (IntKind.i64.wrap (x4.2.1 - (1 : Int))) >>= fun x5 =>
    um a0 x4.2.1 (7 : Int) x2.Text x1.1 ([] : LN) (Node.mk (8 : Int) x5.Text x4.1 ([] : LN))
  else
   um a0 x1.2.1 (7 : Int) x2.Text x1.1 ([] : LN) (Node.mk (8 : Int) (⟨#[]⟩) ([] : LB) ([] : LN))
@[reducible] def qsh (a0 : (List Token)) (a1 : Int) (r : Node × Int × Bool) : Prop :=
  Fn Tryz.prog G 61 [(.sl 4 false (a0.map Token.cells)), (.int .i64 a1)] (.tup [(.agg (zf r.1)), (.int .i64 r.2.1), (.bool r.2.2)])
theorem qsl : PC2 qsh qaz := fun a0 a1 r h => by
 rw [qaz.eq_def] at h
 refine zk (T := tt) (N := 124) (rs := [.cell 4 26, .tmp 5, .tmp 6]) (fun vs w => by simp) Tryz.func61 rfl rfl rfl rfl (by kernel_rfl) (jh rfl) (zp _ rfl) ?_
 refine kr [38] ?_
 obtain ⟨x1, hx, h⟩ := bind_some h
 refine qn (ACalls.ghost (e := 9) (ACalls.wkg (AC.go (objs := [(0, .var 26 [(.int .i64 0), (.str ⟨#[]⟩), (.sl 0 true []), (.sl 0 true [])]), (1, .row 9 (([] : LB).map sc).flatten)]) (xs := [(.sl 4 false (a0.map Token.cells)), (.int .i64 a1), (.sl 1 false (([(⟨#[99, 108, 97, 115, 115]⟩ : BA), (⟨#[]⟩ : BA)]).map sc))]) (Jl _ _ _ _ hx) [1] [1] rfl rfl rfl rfl rfl rfl rfl rfl rfl) (qt (q7 _) (qt (q9 _) (qt (qb5 (.inl rfl) (by simp)) jg))) (z6 _))) ?_
 refine kr [38] ?_
 refine qj (fun hb => ?_) (fun hb => ?_)
 ·replace h := qx hb h
  refine kr [38] ?_
  cases h
  exact zd env rfl rfl (zt (zr (qc (jb (qa (qi rfl) (qa (q6 rfl) (qa (qv (.inr rfl)) (qa (qv (.inr rfl)) z1))))) (qc (q5 (qi rfl) (by simp)) (qc (q5 (ze rfl) (by simp)) zg)))))
 ·replace h := qy hb h
  refine kr [38] ?_
  obtain ⟨x2, hx, h⟩ := bind_some h
  refine jo env hx rfl rfl rfl rfl rfl ?_
  refine kr [38] ?_
  obtain ⟨x3, hx, h⟩ := bind_some h
  refine ql (jy _ _ _ _ hx) ?_
  refine kr [38] ?_
  refine qj (fun hb => ?_) (fun hb => ?_)
  ·replace h := qx hb h
   refine kr [38] ?_
   obtain ⟨x4, hx, h⟩ := bind_some h
   refine qn (ACalls.ghost (e := 9) (ACalls.wkg (AC.go (objs := [(0, .var 26 [(.int .i64 0), (.str ⟨#[]⟩), (.sl 0 true []), (.sl 0 true [])]), (2, .row 9 (x1.1.map sc).flatten), (3, .var 26 [(.int .i64 (7 : Int)), (.str x2.Text), (.bs 1 1 2 0 x1.1.length), (.sl 0 true [])]), (4, .var 26 [(.int .i64 (8 : Int)), (.str ⟨#[]⟩), (.sl 0 true []), (.sl 0 true [])]), (5, .row 9 (([] : LB).map sc).flatten)]) (xs := [(.sl 4 false (a0.map Token.cells)), (.int .i64 x1.2.1), (.sl 1 false (([(⟨#[58]⟩ : BA), (⟨#[]⟩ : BA)]).map sc))]) (Jl _ _ _ _ hx) [4] [5] rfl rfl rfl rfl rfl rfl rfl rfl rfl) (qt (q7 _) (qt (q9 _) (qt (qb5 (.inl rfl) (by simp)) jg))) (z6 _))) ?_
   refine kr [38] ?_
   refine qj (fun hb => ?_) (fun hb => ?_)
   ·replace h := qx hb h
    refine kr [38] ?_
    cases h
    exact zd env rfl rfl (zt (zr (qc (jb (qa (qi rfl) (qa (q6 rfl) (qa (qv (.inr rfl)) (qa (qv (.inr rfl)) z1))))) (qc (q5 (qi rfl) (by simp)) (qc (q5 (ze rfl) (by simp)) zg)))))
   ·replace h := qy hb h
    refine kr [38] ?_
    obtain ⟨x5, hx, h⟩ := bind_some h
    refine jo env hx rfl rfl rfl rfl rfl ?_
    refine kr [38] ?_
    refine qur 2 3 4 26 rfl rfl rfl rfl ?_
    refine vk 3 2 4 yp rfl rfl rfl rfl rfl rfl ?_
    exact zb (by kernel_rfl) rfl lA (qel _ _ _ _ _ _ _ _ h)
  ·replace h := qy hb h
   refine kr [38] ?_
   refine qur 2 3 4 26 rfl rfl rfl rfl ?_
   exact zb (by kernel_rfl) rfl (qza [some 0, some 1, some 2, some 3, none, some 4] rfl rfl rfl (by simp [Reader.cells, Token.cells] <;> (repeat' apply And.intro) <;> first | rfl | exact fun x a _ h => (zo.all a x h).2 | exact fun x a _ h => (yp.all a x h).2) (qh5 rfl rfl (Yh rfl rfl (Yh rfl rfl (Yh rfl rfl (Yh rfl rfl qn1)))) (qne yp rfl rfl (qh5 rfl rfl (Yh rfl rfl (Yh rfl rfl (Yh rfl rfl (Yh rfl rfl qn1)))) (qh5 rfl rfl (Yh rfl rfl (Yh rfl rfl (qxq (.inr rfl) rfl (qxq (.inr rfl) rfl qn1)))) (qy3 rfl (qne zo rfl rfl qvv))))))) (qel _ _ _ _ _ _ _ _ h)
def qhm (a0 : (List Token)) (a1 : Int) : Option (Node × Int × Bool) :=
 yc a0 a1 (⟨#[102, 110]⟩ : BA) >>= fun x1 =>
 if x1 = true then
  Jd a0 a1 >>= fun x2 =>
  some (x2.1, x2.2.1, x2.2.2)
 else
  yc a0 a1 (⟨#[99, 108, 97, 115, 115]⟩ : BA) >>= fun x3 =>
  if x3 = true then
   qaz a0 a1 >>= fun x4 =>
   some (x4.1, x4.2.1, x4.2.2)
  else
   yc a0 a1 (⟨#[99, 111, 110, 115, 116]⟩ : BA) >>= fun x5 =>
   if x5 = true then
    Q8 a0 a1 (9 : Int) ([(⟨#[99, 111, 110, 115, 116]⟩ : BA), (⟨#[]⟩ : BA), (⟨#[61]⟩ : BA)]) >>= fun x6 =>
    some (x6.1, x6.2.1, x6.2.2)
   else
    some ((Node.mk 0 (⟨#[]⟩) ([] : LB) ([] : LN)), a1, false)
@[reducible] def quv (a0 : (List Token)) (a1 : Int) (r : Node × Int × Bool) : Prop :=
  Fn Tryz.prog G 26 [(.sl 4 false (a0.map Token.cells)), (.int .i64 a1)] (.tup [(.agg (zf r.1)), (.int .i64 r.2.1), (.bool r.2.2)])
theorem qu2 : PC2 quv qhm := fun a0 a1 r h => by
 rw [qhm.eq_def] at h
 refine zk (T := tt) (N := 37) (rs := [.cell 4 26, .tmp 5, .tmp 6]) (fun vs w => by simp) Tryz.func26 rfl rfl rfl rfl (by kernel_rfl) (jh rfl) (zp _ rfl) ?_
 refine kr [] ?_
 obtain ⟨x1, hx, h⟩ := bind_some h
 refine ql (jy _ _ _ _ hx) ?_
 refine kr [] ?_
 refine qj (fun hb => ?_) (fun hb => ?_)
 ·replace h := qx hb h
  refine kr [] ?_
  obtain ⟨x2, hx, h⟩ := bind_some h
  refine ql (qfu _ _ _ hx) ?_
  refine kr [] ?_
  cases h
  exact kf
 ·replace h := qy hb h
  refine kr [] ?_
  obtain ⟨x3, hx, h⟩ := bind_some h
  refine ql (jy _ _ _ _ hx) ?_
  refine kr [] ?_
  refine qj (fun hb => ?_) (fun hb => ?_)
  ·replace h := qx hb h
   refine kr [] ?_
   obtain ⟨x4, hx, h⟩ := bind_some h
   refine ql (qsl _ _ _ hx) ?_
   refine kr [] ?_
   cases h
   exact kf
  ·replace h := qy hb h
   refine kr [] ?_
   obtain ⟨x5, hx, h⟩ := bind_some h
   refine ql (jy _ _ _ _ hx) ?_
   refine kr [] ?_
   refine qj (fun hb => ?_) (fun hb => ?_)
   ·replace h := qx hb h
    refine kr [] ?_
    obtain ⟨x6, hx, h⟩ := bind_some h
    refine ql (Fn.wk (qcr _ _ _ _ _ hx) (Zw (qbw _) (Zw (qbw _) (Zw (qbw _) (Zw (qz3 (.inl rfl)) qmx))))) ?_
    refine kr [] ?_
    cases h
    exact kf
   ·replace h := qy hb h
    refine kr [] ?_
    cases h
    exact zd env rfl rfl (zt (zr (qc (jb (qa (qi rfl) (qa (q6 rfl) (qa (qv (.inr rfl)) (qa (qv (.inr rfl)) z1))))) (qc (q5 (qi rfl) (by simp)) (qc (q5 (ze rfl) (by simp)) zg)))))
def Z4 (a0 : Node) : Option (Node × Int × Int) :=
 qfl a0 >>= fun x1 =>
 if (decide (x1 = (3 : Int))) = true then
  some ((Node.mk 0 (⟨#[]⟩) ([] : LB) ([] : LN)), (3 : Int), (0 : Int))
 else
  some (a0, (0 : Int), (0 : Int))
@[reducible] def qo2 (a0 : Node) (r : Node × Int × Int) : Prop :=
  Fn Tryz.prog G 27 [(.agg (zf a0))] (.tup [(.agg (zf r.1)), (.int .i64 r.2.1), (.int .i64 r.2.2)])
theorem qcq : PC1 qo2 Z4 := fun a0 r h => by
 rw [Z4.eq_def] at h
 refine zk (T := tt) (N := 10) (rs := [.cell 2 26, .tmp 3, .tmp 4]) (fun vs w => by simp) Tryz.func27 rfl rfl rfl rfl (by kernel_rfl) (jh rfl) (zp _ rfl) ?_
 refine kr [] ?_
 obtain ⟨x1, hx, h⟩ := bind_some h
 refine ql (qsm _ _ hx) ?_
 refine kr [] ?_
 refine qj (fun hb => ?_) (fun hb => ?_)
 ·replace h := qx hb h
  refine kr [] ?_
  cases h
  exact zd env rfl rfl (zt (zr (qc (jb (qa (qi rfl) (qa (q6 rfl) (qa (qv (.inr rfl)) (qa (qv (.inr rfl)) z1))))) (qc (q5 (qi rfl) (by simp)) (qc (q5 (qi rfl) (by simp)) zg)))))
 ·replace h := qy hb h
  refine kr [] ?_
  cases h
  exact kf
end Go.Proofs.YtigmilhpeodhbaaGreatDoorW.Ex.Gr
