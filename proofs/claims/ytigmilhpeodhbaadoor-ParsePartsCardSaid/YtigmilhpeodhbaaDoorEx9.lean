/- A symbolic executor for the machine's code, part 9: the rules as a proof applies them, one by one. General over the program; no conditions beside those in each theorem. -/
import Derived.Test.YtigmilhpeodhbaaDoorEx8
namespace Go.Proofs.YtigmilhpeodhbaaDoorW.Ex
set_option linter.all false
open Go
variable {G : Nat → List AV} {P : Program} {N p : Nat} {fr : Fr} {H H' : Hp} {Q : Exit → Fr → Hp → Prop} {ops : Array Oper} {os : List Oper} {o : Oper} {K : Exit → Fr → Hp → Prop}
theorem uv {next : Fr → Hp → Prop} (h : next fr H) : Q6 next Q .normal fr H := h
theorem qmg {next : Fr → Hp → Prop} (h : Q .ret fr H) : Q6 next Q .ret fr H := h
theorem qbs {next : Fr → Hp → Prop} {i : Nat} (h : Q (.exit i) fr H) : Q6 next Q (.exit i) fr H := h
theorem qbz {id : Nat} (h : Q .normal fr H) : Jh id Q .normal fr H := h
theorem qn0 {id : Nat} (h : Q .ret fr H) : Jh id Q .ret fr H := h
theorem qk5 {id : Nat} (h : Q .normal fr H) : Jh id Q (.exit id) fr H := by simpa [Jh] using h
theorem qc2 {id i : Nat} (hne : Nat.beq i id = false) (h : Q (.exit i) fr H) : Jh id Q (.exit i) fr H := by
 have : i ≠ id := by intro e; subst e; simp at hne
 simpa [Jh, this] using h
theorem qk4 {c : Operand} {x y : Code} (hc : ev G fr c = .bool true) (h : AWp P G N p x Q fr H) : AWp P G N p (.cond c x y) Q fr H := qa3 hc (fun _ => h) (fun h => by cases h)
theorem qkt {c : Operand} {x y : Code} (hc : ev G fr c = .bool false) (h : AWp P G N p y Q fr H) : AWp P G N p (.cond c x y) Q fr H := qa3 hc (fun h => by cases h) (fun _ => h)
theorem qiq {op : Op} {x : AV} (h : evalOp P G fr H op = some (x, H')) : qby P G fr H op x H' := by
 unfold qby
 split
 ·rename_i c
  split
  ·rename_i f xs hc
   exfalso
   unfold y9 at hc
   split at hc
   ·rename_i fo hfo
    simp [evalOp, Zo, hfo] at h
   cases hc
  exact .inl h
 exact .inl h
theorem qyj (hg : o.guard = none) {x : AV} (h : qkd P G fr H o.op x H') (hk : wpL P G ops os (put o.dst x fr) H' K) : wpL P G ops (o :: os) fr H K := by
 unfold wpL
 simp only [hg]
 refine .inl ⟨x, H', ?_, hk⟩
 unfold qkd at h
 split at h
 ·rename_i t len ps hop
  rw [hop]
  exact .inr h
 exact h.elim
theorem quc {c : Call} {x : AV} (h : Q2 P G fr c = some x) : qby P G fr H (.call c) x H := by
 have hc : y9 G fr c = none := by
  unfold Q2 at h
  unfold y9
  split at h
  ·rename_i hb _ _
   rw [hb]
  cases h
 unfold qby
 simp only [hc]
 exact .inr ⟨h, trivial⟩
theorem qvd {c : Call} {x : AV} (hg : o.guard = none) (ho : o.op = .call c) (h : Q2 P G fr c = some x) (hk : wpL P G ops os (put o.dst x fr) H K) : wpL P G ops (o :: os) fr H K := by
 unfold wpL
 simp only [hg]
 exact .inl ⟨x, H, ho ▸ quc h, hk⟩
theorem q0d {x : AV} (hg : o.guard = none) (h : evalOp P G fr H o.op = some (x, H')) (hk : wpL P G ops os (put o.dst x fr) H' K) : wpL P G ops (o :: os) fr H K := by
 unfold wpL
 simp only [hg]
 exact .inl ⟨x, H', qiq h, hk⟩
theorem qk7 {c : Call} {f : FuncId} {xs : List AV} {x : AV} (hg : o.guard = none) (ho : o.op = .call c) (hc : y9 G fr c = some (f, xs)) (h : ACalls P G f xs H x H') (hk : wpL P G ops os (put o.dst x fr) H' K) : wpL P G ops (o :: os) fr H K := by
 unfold wpL
 simp only [hg]
 refine .inl ⟨x, H', ?_, hk⟩
 rw [ho]
 unfold qby
 simp only [hc]
 exact h
theorem qtz {c : Call} {f : FuncId} {xs : List AV} {ch : List PanicEntry} (hg : o.guard = none) (ho : o.op = .call c) (hc : y9 G fr c = some (f, xs)) (h : FCalls P G f xs H ch) (hk : K (.panic ch) fr ⟨H.n, []⟩) : wpL P G ops (o :: os) fr H K := by
 unfold wpL
 simp only [hg]
 refine .inr ⟨ch, ?_, hk⟩
 rw [ho]
 unfold qme
 simp only [hc]
 exact h
theorem qty {x : Operand} {t : TypeId} {k : IntKind} {i : Int} (hg : o.guard = none) (ho : o.op = .panic x) (hx : ev G fr x = .iface t (.int k i)) (hk : K (.panic [{ v := .iface t (.int k i), recovered := false }]) fr ⟨H.n, []⟩) : wpL P G ops (o :: os) fr H K := by
 unfold wpL
 simp only [hg]
 refine .inr ⟨_, ?_, hk⟩
 rw [ho]
 exact ⟨t, k, i, hx, rfl⟩
theorem qve {c : Call} {f : FuncId} {xs : List AV} {x : AV} (hg : o.guard = none) (ho : o.op = .call c) (hc : y9 G fr c = some (f, xs)) (h : Fn P G f xs x) (hk : wpL P G ops os (put o.dst x fr) H K) : wpL P G ops (o :: os) fr H K :=
 qk7 hg ho hc (h.calls H) hk
def Oper.free (o : Oper) : Oper := ⟨o.dst, o.op, o.type, o.pos, o.after, none⟩
theorem W6 {t j : Nat} {b : Bool} (ht : (ops[j]?).bind (·.dst) = some t) (hb : fr t = .bool b) : Qu ops fr j = some (some b) := by
 unfold Qu
 simp only [ht, hb]
theorem qif {t j : Nat} (ht : (ops[j]?).bind (·.dst) = some t) (hb : fr t = .tup []) : Qu ops fr j = some none := by
 unfold Qu
 simp only [ht, hb]
theorem qqf {t j : Nat} {want : Bool} (hg : o.guard = some (j, want)) (ht : (ops[j]?).bind (·.dst) = some t) (hb : fr t = .tup []) (h : wpL P G ops os (put o.dst (.tup []) fr) H K) : wpL P G ops (o :: os) fr H K := by
 unfold wpL
 simp only [hg]
 exact ⟨none, qif ht hb, (fun h => by cases h), fun _ => h⟩
theorem qn4 {t j : Nat} {want : Bool} (hg : o.guard = some (j, want)) (ht : (ops[j]?).bind (·.dst) = some t) (hb : fr t = .bool want) (h : wpL P G ops (Oper.free o :: os) fr H K) : wpL P G ops (o :: os) fr H K := by
 unfold wpL at *
 simp only [hg]
 simp only [Oper.free] at h
 exact ⟨some want, W6 ht hb, fun _ => h, fun h => absurd rfl h⟩
theorem qqe {t j : Nat} (hg : o.guard = some (j, true)) (ht : (ops[j]?).bind (·.dst) = some t) (hb : fr t = .bool false) (h : wpL P G ops os (put o.dst (.tup []) fr) H K) : wpL P G ops (o :: os) fr H K := by
 unfold wpL
 simp only [hg]
 exact ⟨some false, W6 ht hb, (fun h => by cases h), fun _ => h⟩
theorem qqg {t j : Nat} (hg : o.guard = some (j, false)) (ht : (ops[j]?).bind (·.dst) = some t) (hb : fr t = .bool true) (h : wpL P G ops os (put o.dst (.tup []) fr) H K) : wpL P G ops (o :: os) fr H K := by
 unfold wpL
 simp only [hg]
 exact ⟨some true, W6 ht hb, (fun h => by cases h), fun _ => h⟩
theorem qn2 {t j : Nat} {b : Bool} (hg : o.guard = some (j, true)) (ht : (ops[j]?).bind (·.dst) = some t) (hb : fr t = .bool b) (hy : b = true → wpL P G ops (Oper.free o :: os) fr H K) (hn : b = false → wpL P G ops os (put o.dst (.tup []) fr) H K) : wpL P G ops (o :: os) fr H K := by
 cases b
 ·exact qqe hg ht hb (hn rfl)
 exact qn4 hg ht hb (hy rfl)
theorem qn3 {t j : Nat} {b : Bool} (hg : o.guard = some (j, false)) (ht : (ops[j]?).bind (·.dst) = some t) (hb : fr t = .bool b) (hy : b = false → wpL P G ops (Oper.free o :: os) fr H K) (hn : b = true → wpL P G ops os (put o.dst (.tup []) fr) H K) : wpL P G ops (o :: os) fr H K := by
 cases b
 ·exact qn4 hg ht hb (hy rfl)
 exact qqg hg ht hb (hn rfl)
section
variable {d : Option Tmp} {op : Op} {ty : TypeId} {pos : String} {aft : Array Edge}
end
theorem qnh (x : AV) (xs : List AV) : Yh (x :: xs) 0 = x := rfl
theorem qni (x : AV) (xs : List AV) (i : Nat) : Yh (x :: xs) (i + 1) = Yh xs i := rfl
theorem qpp (i : Nat) : Yh [] i = .undef := rfl
theorem qky (fr : Fr) (H : Hp) (t : Tmp) : vp P [.tmp t] fr H = some (fr t) := rfl
theorem qkx (fr : Fr) (H : Hp) (t u : Tmp) : vp P [.tmp t, .tmp u] fr H = some (.tup [fr t, fr u]) := rfl
theorem qho (fr : Fr) (H : Hp) (t u v : Tmp) : vp P [.tmp t, .tmp u, .tmp v] fr H = some (.tup [fr t, fr u, fr v]) := rfl
attribute [go_sem] qky qkx qho List.all_cons List.all_nil AV.one Bool.and_true Bool.true_and Bool.and_self Bool.false_eq_true eq_self
attribute [go_sem] List.length_nil List.length_cons List.nil_append List.cons_append List.getElem?_cons_zero List.getElem?_cons_succ Nat.add_zero Nat.zero_add Option.map_some Option.map_none List.set_cons_zero List.set_cons_succ List.head?_cons List.map_cons List.map_nil List.drop_zero List.drop_succ_cons List.take_succ_cons List.take_zero true_and and_true and_self
attribute [go_sem] qmp Wx evalOp ev ofV uw qwb qnh qni qpp Qv qd1 Jw Zw qfq qe8 qb9 eqAV eqTypeAV unAV qo0 qmx qo1 qed qd2 qdb qe9 qai ww qa6 qhc
 Yi Zm v8 Q1 qdc qao Z0 vt K6 qbg u3 Zo y9 Qu Hp.push
end Go.Proofs.YtigmilhpeodhbaaDoorW.Ex
