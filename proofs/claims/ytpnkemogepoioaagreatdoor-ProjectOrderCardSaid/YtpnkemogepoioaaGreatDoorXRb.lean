/- The functions of the program's layer 9 and of its references, printed as functions on numbers, strings, lists and trees, with the proofs that they are what the code computes. Conditions: those in each theorem. -/
import Derived.Test.YtpnkemogepoioaaGreatDoorXRa
namespace Go.Proofs.YtpnkemogepoioaaGreatDoorW.Ex.Gr
open Go Go.Proofs.YtpnkemogepoioaaGreatDoorW.Ex
set_option linter.all false
set_option maxRecDepth 100000
set_option synthInstance.maxSize 4000
set_option maxHeartbeats 4000000
open Go.Proofs.YtpnkemogepoioaaGreatDoorW.Plain
theorem qsm {w:World} {S F:Nat→Prop} {β:Nat→Nat} (e c6:Int) (hH:HR G w S F β ⟨3, [(0, .var 45 qmv),(1, .var 26 [.int .i64 0]),(2, .var 3 [.int .i64 c6])]⟩):
 CallsD Tryz.prog 79 #[.pointer (some ⟨β 0,0,none⟩), .pointer (some ⟨β 1,0,none⟩), .pointer (some ⟨β 2,0,none⟩)] (.panicking (flt e)) w fun r u' w'=>
  (∃v,r= .returned v)∧settle u'= .returning∧∃S' β',Ext w S F β 3 w' S' β' 3∧HR G w' S' F β' ⟨3,qkq e⟩:=by
 refine callsD_of_wpS Tryz.func79 rfl fun c₀ cs hu=> ?_
 have hA:=qhr (N:=19) (by kernel_rfl) (qxc e c6)
 apply wpS_seq
 apply wpS_region
 simp [wpOpsS,go_sem,recoverD,hu,Tryz.ntmps79,Exit.thenS,flt]
 apply wpS_seq
 apply wpS_region
 simp [wpOpsS,go_sem,Exit.thenS]
 refine wpS_cond (t:=true) (by simp [Act.eval,Array.replicate]) ?_
 simp only [if_true]
 apply wpS_seq
 apply wpS_region
 simp [wpOpsS,go_sem,Exit.thenS,q1j]
 apply wpS_seq
 apply wpS_seq
 apply wpS_region
 simp [wpOpsS,go_sem,Exit.thenS]
 refine wpS_cond (t:=false) (by simp [Act.eval,Array.replicate]) ?_
 simp only [Bool.false_eq_true,if_false]
 refine wpS_of_wp (wp_skip ?_)
 show rec5.wpS Tryz.prog _ _ _ _
 refine wpS_of_wp (wp_mono (hA [] w S F β _ (Nat.le_refl _) hH (FRx.of _ (by simp) rfl ?_)) ?_)
 ·intro q hq
  simp only [List.mem_cons,List.not_mem_nil,or_false] at hq
  rcases hq with rfl | rfl | rfl | rfl
  ·simpa using RV.ptr (w:=w) (S:=S) (β:=β) 0 0 0 (by decide)
  ·simpa using RV.ptr (w:=w) (S:=S) (β:=β) 1 1 0 (by decide)
  ·simpa using RV.ptr (w:=w) (S:=S) (β:=β) 2 2 0 (by decide)
  simpa using RV.int .i64 e
 rintro x a' w' ⟨fr',H',S',β',q,hx,hp,hH',hf'⟩
 cases x with
 | normal=>
   cases (show H'=⟨3,qkq e⟩ from q)
   exact ⟨hf'.defers,_,rfl, .tuple #[],by simp [results,Tryz.results79,go_sem],⟨_,rfl⟩,rfl,S',β',hx,hH'⟩
 | _=>exact q.elim
abbrev rds:List ResultVar:= [.cell 4 45, .cell 5 26, .cell 6 3]
noncomputable def rd0:Code:=cfst (qdb Tryz.f53)
noncomputable def rd1:Code:=cfst (csnd (qdb Tryz.f53))
noncomputable def rd2:Code:=cfst (csnd (csnd (qdb Tryz.f53)))
noncomputable def rd2a:Code:=cfst rd2
noncomputable def rd2b:Code:=csnd rd2
noncomputable def cops:Code→List Oper
 | .region _ l _=>l.toList
 | _=> []
noncomputable def rdL:List Oper:=cops (cfst (cthen rd2b))
theorem q1m:rd2= .seq rd2a (.cond (.tmp 16) (.seq (.region 3 rdL.toArray true) .ret) .skip):=by kernel_rfl
noncomputable def rd3:Code:=cfst (csnd (csnd (csnd (qdb Tryz.f53))))
noncomputable def rd4:Code:=csnd (csnd (csnd (csnd (qdb Tryz.f53))))
theorem qzu:Tryz.f53.body=some (.seq rd0 (.seq rd1 (.seq rd2 (.seq rd3 rd4)))):=by kernel_rfl
def rdX (x:Node × Int × Int):AV:= .tup [.agg (zo x.1), .int .i64 x.2.1, .int .i64 x.2.2]
abbrev rdR (x:Node × Int × Int):Exit→Fr→Hp→Prop:=Ret Tryz.prog rds (fun z H=>Told Tryz.prog G H z (rdX x))
def rdO (e at_:Int):Objs:= [(0, .var 45 qmv),(1, .var 26 [.int .i64 e]),(2, .var 3 [.int .i64 at_])]
theorem qol {n:Nat} {objs:Objs} (a b:Int):Told Tryz.prog G ⟨n,objs⟩ (.tup [.agg qmv, .int .i64 a, .int .i64 b]) (rdX (Node.mk 0 ⟨#[]⟩ [] [],a,b)):=
 Js (Yu (j8 (qkb (vc (zm rfl) (vc (jn rfl) (vc (y5 (.inr rfl)) (vc (y5 (.inr rfl)) qh5))))) (j8 (w9 (zm rfl) (by simp)) (j8 (w9 (zm rfl) (by simp)) Z7))))
theorem qvt (e:Int):rdR (Node.mk 0 ⟨#[]⟩ [] [],1,e) .normal (puts [(4, .ptr 0 0 0),(5, .ptr 1 1 0),(6, .ptr 2 2 0)] (frT .z)) ⟨3,qkq e⟩:=by
 have h:Ok Tryz.prog G tt 32 0 (rdR (Node.mk 0 ⟨#[]⟩ [] [],1,e)) (.go [(4, .ptr 0 0 0),(5, .ptr 1 1 0),(6, .ptr 2 2 0)] [] [] .z 3 (qkq e)):=by
  refine kr [] ?_
  exact qam env rfl (qol 1 e)
 unfold Ok at h
 exact h rfl
theorem qxf (e at_:Int):AWp Tryz.prog G 32 0 (.seq (.region 3 rdL.toArray true) .ret) (fun x fr H=>x= .ret∧rdR (Node.mk 0 ⟨#[]⟩ [] [],e,at_) .ret fr H) (puts [(4, .ptr 0 0 0),(5, .ptr 1 1 0),(6, .ptr 2 2 0)] (frT .z)) ⟨3,rdO e at_⟩:=by
 have h:anyS tt G rdL.toArray (fun fr _ objs=>qgv tt fr objs rds qfl) [(4, .ptr 0 0 0),(5, .ptr 1 1 0),(6, .ptr 2 2 0)] .z 3 (rdO e at_)=some (List.replicate 15 (.tup [.agg qmv, .int .i64 e, .int .i64 at_])):=by kernel_rfl
 refine qpk (q0q env (by kernel_rfl) h (fun z hz fr n objs hl=>J4 (qu5 ⟨rfl,?_⟩)))
 obtain rfl:=List.eq_of_mem_replicate hz
 have h:=yh (P:=Tryz.prog) (G:=G) (N:=32) (p:=0) (n:=n) (k:= []) (K:=fun z H=>Told Tryz.prog G H z (rdX (Node.mk 0 ⟨#[]⟩ [] [],e,at_))) env rfl hl (qol _ _)
 unfold Ok at h
 exact h rfl
def qtu (w:World) (S F:Nat→Prop) (β:Nat→Nat) (x:Node × Int × Int) (e:Ending) (w':World):Prop:=
 ∃v,e= .returned v∧∃S' β',Ext w S F β 0 w' S' β' 0∧HR G w' S' F β' ⟨0, []⟩∧RV w' S' β' 0 (rdX x) v
theorem qxg (x:Node × Int × Int):Pure (rdX x):= .tup _ (by
 intro y hy
 simp only [List.mem_cons,List.not_mem_nil,or_false] at hy
 rcases hy with rfl | rfl | rfl
 ·exact .agg _ (by
   intro z hz
   simp only [List.mem_cons,List.not_mem_nil,or_false] at hz
   rcases hz with rfl | rfl | rfl | rfl <;> constructor)
 ·constructor
 constructor)
theorem qsn {w w':World} {S F S':Nat→Prop} {β β':Nat→Nat} {D:List Deferred} {fr:Fr} {H:Hp} {a:Act} {x:Node × Int × Int} (q:rdR x .normal fr H) (hx:Ext w S F β 0 w' S' β' 0) (hH:HR G w' S' F β' H) (hf:FRx D w' S' β' H.n 32 fr a) (hG:HR G w S F β ⟨0, []⟩):
 Leaves Tryz.prog Tryz.f53 a.tmps (qtu w S F β x) [] .returning w':=by
 obtain ⟨z,hz,ht⟩:=q
 unfold Told at ht
 obtain ⟨v,hrun,hR⟩:=qf1 (P:=Tryz.prog) (fn:=Tryz.f53) hH hf (show v7 _ Tryz.f53.results.toList fr H=some z from hz)
 obtain ⟨S2,hx2,hl,hR2⟩:=ht w' S' F β' v hH hR
 exact ⟨v,hrun,v,rfl,S2,β',hx.trans hx2,⟨hl,fun k hk=>Nat.lt_of_lt_of_le (hG.ltf k hk) (hx.trans hx2).size,fun g=>(hG.glob g).ext (hx.trans hx2),by simp,by simp,by simp⟩,hR2.pure (qxg x)⟩
theorem qom {w:World} {S:Nat→Prop} {β:Nat→Nat} {n i s:Nat} {v:Value} (h:RV w S β n (.ptr i s 0) v):v= .pointer (some ⟨β s,0,none⟩):=by
 cases h;rfl
def Ko (s:BA):Option (Node × Int × Int):=
 Ze s >>=fun t=>
 if (!decide (t.2.1=(0:Int)))=true then some (Node.mk 0 ⟨#[]⟩ [] [],t.2.1,t.2.2)
 else qa6 ⟨t.1,0⟩ >>=fun x=>match x with
  | .error e=>some (Node.mk 0 ⟨#[]⟩ [] [],1,e)
  | .ok x=>Qr x.1 >>=fun c=>if (decide (c=(3:Int)))=true then some (Node.mk 0 ⟨#[]⟩ [] [],3,0) else some (x.1,0,0)
def uo (t:List Token × Int × Int) (fr:Fr) (H:Hp):Prop:=(fr 1= .fn 54 []∧fr 4= .ptr 0 0 0∧fr 5= .ptr 1 1 0∧fr 6= .ptr 2 2 0∧fr 7= .sl 4 false (t.1.map Token.cells))∧H=⟨3,rdO t.2.1 t.2.2⟩
theorem qi0 (s:BA) (t:List Token × Int × Int) (ht:Ze s=some t) (x:Node × Int × Int):
 Ok Tryz.prog G tt 32 0 (Yf (fun fr H=>fr 16= .bool (!decide (t.2.1=(0:Int)))∧uo t fr H) (rdR x)) (.go (qfq 0 [.str s, .fn 54 []]) [.code rd0, .code rd1, .code rd2a] [] .z 0 []):=by
 refine kr [] ?_
 refine qp (qiu _ _ ht) ?_
 refine kr [] ?_
 exact qu2 ⟨rfl,⟨rfl,rfl,rfl,rfl,rfl⟩,rfl⟩
theorem qiz (t:List Token × Int × Int) (x:Node × Int × Int) (hx:(!decide (t.2.1=(0:Int)))=true→x=(Node.mk 0 ⟨#[]⟩ [] [],t.2.1,t.2.2)) (fr:Fr) (H:Hp)
 (h:AWp Tryz.prog G 32 0 rd2a (Yf (fun fr H=>fr 16= .bool (!decide (t.2.1=(0:Int)))∧uo t fr H) (rdR x)) fr H):AWp Tryz.prog G 32 0 rd2 (Yf (fun fr H=>(!decide (t.2.1=(0:Int)))=false∧uo t fr H) (rdR x)) fr H:=by
 rw [q1m]
 refine qpk (h.mono ?_)
 intro e fr H q
 cases e with
 | normal=>
   obtain ⟨hc,hk⟩:=(show _∧_ from q)
   refine J4 (qh0 hc (fun hb=> ?_) (fun hb=>qry (J4 ⟨hb,hk⟩)))
   obtain ⟨⟨g1,g4,g5,g6,g7⟩,rfl⟩:=hk
   cases hx hb
   refine (qer (qv1 [(4, .ptr 0 0 0),(5, .ptr 1 1 0),(6, .ptr 2 2 0)] (by simp [g4,g5,g6])) (qxf t.2.1 t.2.2)).mono ?_
   rintro e fr H ⟨rfl,q⟩
   exact q
 | _=>exact q
theorem qik (l:List Token) (e:Int) (h:qa6 ⟨l,0⟩=some (.error e)):
 Ok Tryz.prog G tt 32 3 (fun e' fr _=>e'= .panic (flt e)∧fr 4= .ptr 0 0 0∧fr 5= .ptr 1 1 0∧fr 6= .ptr 2 2 0) (.go [(1, .fn 54 []),(4, .ptr 0 0 0),(5, .ptr 1 1 0),(6, .ptr 2 2 0),(7, .sl 4 false (l.map Token.cells))] [.code rd4] [] .z 3 []):=by
 refine kr [] ?_
 exact qwg (FC.go (ql7 _ _ h) [0] [3] rfl rfl rfl rfl rfl rfl) ⟨rfl,rfl,rfl,rfl⟩
theorem qit (l:List Token) (e at_:Int) (r:Node × Reader) (h:qa6 ⟨l,0⟩=some (.ok r)) (c:Int) (hc:Qr r.1=some c) (x:Node × Int × Int) (hx:(if (decide (c=(3:Int)))=true then some (Node.mk 0 ⟨#[]⟩ [] [],3,0) else some (r.1,0,0))=some x):
 Ok Tryz.prog G tt 32 0 (rdR x) (.go [(1, .fn 54 []),(4, .ptr 0 0 0),(5, .ptr 1 1 0),(6, .ptr 2 2 0),(7, .sl 4 false (l.map Token.cells))] [.code rd4] [] .z 3 (rdO e at_)):=by
 refine kr [] ?_
 refine qc (AC.g9 (ql7 _ _ h) [3] [3]) ?_
 refine kr [] ?_
 refine qp (qhx _ _ hc) ?_
 refine kr [] ?_
 refine qf (fun hb=> ?_) (fun hb=> ?_)
 ·rw [if_pos hb] at hx
  cases hx
  refine kr [] ?_
  exact yh env rfl rfl (qol _ _)
 rw [if_neg (by rw [hb];decide)] at hx
 cases hx
 refine kr [] ?_
 exact yh env rfl rfl (q9 rfl)
theorem qiy (s:BA) (x:Node × Int × Int) (h:Ko s=some x):ACalls Tryz.prog G 53 [.str s, .fn 54 []] ⟨0, []⟩ (rdX x) ⟨0, []⟩:=by
 obtain ⟨t,ht,h⟩:=bind_some h
 intro w S F β vs hH hv
 rw [show (callFunc 53 vs).run Tryz.prog w= .ok (.enter 53 vs) w by simp]
 show Calls Tryz.prog 53 vs w (qtu w S F β x)
 refine calls_of_wp_defers Tryz.func53 qzu ?_
 have hA:=qhr (N:=32) (by kernel_rfl) (qi0 s t ht x)
 rw [qbj] at hA
 have hf:=qhh (N:=32) hv (Nat.le_of_ble_eq_true rfl)
 have fin:∀(e:Exit) (fr':Fr) (H':Hp) (w':World) (S':Nat→Prop) (β':Nat→Nat) (a':Act),rdR x e fr' H'→Ext w S F β 0 w' S' β' 0→HR G w' S' F β' H'→FRx [] w' S' β' H'.n 32 fr' a'→bodyPostD Tryz.prog Tryz.f53 (qtu w S F β x) e a' w':=by
  intro e fr' H' w' S' β' a' q hx hH' hf'
  have hl:=fun q=>qsn (x:=x) q hx hH' hf' hH
  cases e <;> first
   | exact q.elim
   | (show Leaves _ _ _ _ a'.defers _ _;rw [hf'.defers];exact hl q)
 refine qj5 hA (Nat.zero_le _) hH hf (fun fr1 H1 w1 S1 β1 a1 q1 hx1 _ hH1 hf1=> ?_) (fun e fr' H' w' S' β' a' he q hx _ hH' hf'=>fin e fr' H' w' S' β' a' (qi1 he (q2b he q)) hx hH' hf')
 refine qj5 q1 (Nat.zero_le _) hH1 hf1 (fun fr2 H2 w2 S2 β2 a2 q2 hx2 _ hH2 hf2=> ?_) (fun e fr' H' w' S' β' a' he q hx _ hH' hf'=>fin e fr' H' w' S' β' a' (qi1 he q) (hx1.trans hx) hH' hf')
 refine qj5 (qiz t x (fun hb=>by rw [if_pos hb] at h;cases h;rfl) fr2 H2 q2) (Nat.zero_le _) hH2 hf2 (fun fr3 H3 w3 S3 β3 a3 q3 hx3 _ hH3 hf3=> ?_) (fun e fr' H' w' S' β' a' he q hx _ hH' hf'=>fin e fr' H' w' S' β' a' q ((hx1.trans hx2).trans hx) hH' hf')
 obtain ⟨hb,⟨g1,g4,g5,g6,g7⟩,rfl⟩:=(show _∧_∧_ from q3)
 have hx0:=(hx1.trans hx2).trans hx3
 rw [if_neg (by rw [hb];decide)] at h
 obtain ⟨r,hr,h⟩:=bind_some h
 refine wp_seq ?_
 refine qok (u:=20) (f:=79) (cs:= #[.tmp 4, .tmp 5, .tmp 6]) (by rw [hf3.size];decide) ?_
 have e4:=qom (g4 ▸ hf3.val 4)
 have e5:=qom (g5 ▸ hf3.val 5)
 have e6:=qom (g6 ▸ hf3.val 6)
 have hcs:(#[Operand.tmp 4, .tmp 5, .tmp 6]:Array Operand).map a3.eval= #[.pointer (some ⟨β3 0,0,none⟩), .pointer (some ⟨β3 1,0,none⟩), .pointer (some ⟨β3 2,0,none⟩)]:=by
  simp [Act.eval,e4,e5,e6]
 rw [hcs]
 have hf3':=hf3.put (d:=some 20) rfl (RV.undef (w:=w3) (S:=S3) (β:=β3) (n:=3) (.func (.func 79) #[] #[.pointer (some ⟨β3 0,0,none⟩), .pointer (some ⟨β3 1,0,none⟩), .pointer (some ⟨β3 2,0,none⟩)]))
 have hq:=hf3'.some [(1, .fn 54 []),(4, .ptr 0 0 0),(5, .ptr 1 1 0),(6, .ptr 2 2 0),(7, .sl 4 false (t.1.map Token.cells))] (by simp [wq,g1,g4,g5,g6,g7])
 generalize hd:a3.defers=d3 at*
 have hd3:d3= []:=by rw [←hd];exact hf3.defers
 subst hd3
 have hf4:=FRx.of (a:=⟨a3.tmps.setIfInBounds 20 (.func (.func 79) #[] #[.pointer (some ⟨β3 0,0,none⟩), .pointer (some ⟨β3 1,0,none⟩), .pointer (some ⟨β3 2,0,none⟩)]), [{target:= .fn (.func 79) #[.pointer (some ⟨β3 0,0,none⟩), .pointer (some ⟨β3 1,0,none⟩), .pointer (some ⟨β3 2,0,none⟩)],args:= #[]}]⟩) _ hf3'.size rfl hq
 show rd4.wp _ _ _ _
 cases r with
 | error e=>
   cases h
   have hB:=qhr (N:=32) (by kernel_rfl) (qik t.1 e hr)
   refine wp_mono (hB _ w3 S3 _ β3 _ (Nat.le_refl _) hH3.hide hf4) ?_
   rintro e' a' w' ⟨fr',H',S',β',⟨rfl,k4,k5,k6⟩,hx,hp,hH',hf'⟩
   obtain ⟨hx',hH''⟩:=hH3.unhide hx hH'.lts
   show Leaves _ _ _ _ a'.defers _ _
   rw [hf'.defers]
   refine leaves_cons (f:=79) (args:= #[.pointer (some ⟨β3 0,0,none⟩), .pointer (some ⟨β3 1,0,none⟩), .pointer (some ⟨β3 2,0,none⟩)]) (by simp) (by simp [go_sem]) ?_
   have hc:=qsm e t.2.2 (show HR G w' S' F β' ⟨3,rdO 0 t.2.2⟩ by
    have h0:t.2.1=0:=by simpa using hb
    rw [←h0];exact hH'')
   rw [hx'.beta 0 (show 0 < 3 by decide),hx'.beta 1 (show 1 < 3 by decide),hx'.beta 2 (show 2 < 3 by decide)] at hc
   refine hc.mono ?_
   rintro r u' w'' ⟨⟨v,rfl⟩,hs,S'',β'',hx'',hH3''⟩
   show Leaves _ _ _ _ [] (settle u') w''
   rw [hs]
   refine qsn (D:=a'.defers) (a:=a') (qvt e) (hx0.trans ((hx'.trans hx'').lower (Nat.zero_le _))) hH3'' (FRx.of _ hf'.size rfl ?_) hH
   intro q hm
   simp only [List.mem_cons,List.not_mem_nil,or_false] at hm
   have hv:∀(i s:Nat) (t:Nat),s < 3→fr' t= .ptr i s 0→RV w'' S'' β'' 3 (.ptr i s 0) (a'.tmps.getD t Go.undef):=fun i s t hs3 ht=>by
    have h1:=hf'.val t
    rw [ht] at h1
    rw [qom h1,←hx''.beta s hs3]
    exact .ptr i s 0 hs3
   rcases hm with rfl | rfl | rfl
   ·exact hv _ _ _ (by decide) k4
   ·exact hv _ _ _ (by decide) k5
   exact hv _ _ _ (by decide) k6
 | ok r=>
   obtain ⟨c,hc,h⟩:=bind_some h
   have hB:=qhr (N:=32) (by kernel_rfl) (qit t.1 t.2.1 t.2.2 r hr c hc x h)
   refine wp_mono (hB _ w3 S3 F β3 _ (Nat.zero_le _) hH3 hf4) ?_
   rintro e' a' w' ⟨fr',H',S',β',q,hx,hp,hH',hf'⟩
   have hl:rdR x .normal fr' H'→Leaves Tryz.prog Tryz.f53 a'.tmps (qtu w S F β x) a'.defers .returning w':=fun q=>by
    rw [hf'.defers]
    refine leaves_cons (f:=79) (args:= #[.pointer (some ⟨β3 0,0,none⟩), .pointer (some ⟨β3 1,0,none⟩), .pointer (some ⟨β3 2,0,none⟩)]) (by simp) (by simp [go_sem]) ?_
    refine (qxb _ _ _ w').mono ?_
    rintro r u' w'' ⟨⟨v,rfl⟩,rfl,rfl⟩
    exact qsn q (hx0.trans hx) hH' hf' hH
   cases e' <;> first
    | exact q.elim
    | exact hl q
theorem qiw:PC1 (fun (s:BA) (x:Node × Int × Int)=>AC Tryz.prog G 53 [.str s, .fn 54 []] 0 [] (.tup [.agg (zo x.1), .int .i64 x.2.1, .int .i64 x.2.2]) 0 []) Ko:=fun s x h=>AC.plain (qiy s x h) rfl rfl
def Kp (a0:BA):Option (Node × Int × Int):=
 Ko a0 >>=fun x1=>
 some (x1.1,x1.2.1,x1.2.2)
@[reducible] def ql4 (a0:BA) (r:Node × Int × Int):Prop:=
  Fn Tryz.prog G 29 [(.str a0)] (.tup [(.agg (zo r.1)),(.int .i64 r.2.1),(.int .i64 r.2.2)])
theorem ql6:PC1 ql4 Kp:=fun a0 r h=>by
 rw [Kp.eq_def] at h
 refine zu (T:=tt) (N:=10) (rs:= [.cell 2 45, .tmp 3, .tmp 4]) (fun vs w=>by simp) Tryz.func29 rfl rfl rfl rfl (by kernel_rfl) (ya rfl) (zn _ rfl) ?_
 refine kr [] ?_
 obtain ⟨x1,hx,h⟩:=bind_some h
 refine qc (AC.g9 (qiw _ _ hx) [] []) ?_
 refine kr [] ?_
 cases h
 exact kf
def wm (a0:(List File)) (t5:(List Unit)):Option ((List Unit) × Int):=
 match a0 with
 | []=>
   some (t5,(0:Int))
 | x_0::a0=>
   Kp x_0.Text >>=fun x2=>
   app 112 t5 ([(Unit.mk x_0.Path x_0.Text x2.1 (!decide (x2.2.1=(0:Int))))]) >>=fun x3=>
   wm (qa a0) (qa x3)
 partial_fixpoint
@[reducible] def W7 (a0:(List File)) (t5:(List Unit)) (r:(List Unit) × Int):Prop:=
  ∀(l0:List File) (j0:Nat),l0.drop j0=a0→j0≤l0.length→l0.length≤9223372036854775807→Ok Tryz.prog G tt 42 0 (Ret Tryz.prog [.tmp 2, .tmp 3] (fun y H=>Told Tryz.prog G H y (.tup [(.sl 7 false (r.1.map Unit.cells)),(.int .i64 r.2)]))) (.again (jy [] Tryz.f10 0).1 (jy [] Tryz.f10 0).2 (.n .undef (.n .undef .z (.n (.bs 7 0 0 0 t5.length) (.n .undef (.n (.int .i64 ((l0.map File.cells).length:Int)) .z .z) .z) .z)) (.n .undef (.n .undef (.n .undef (.n (.sl 2 false (l0.map File.cells)) .z .z) .z) .z) (.n .undef (.n .undef (.n (.int .i64 ((j0:Nat):Int)) .z .z) .z) .z))) 1 [(0, .row 48 (t5.map Unit.cells).flatten)])
theorem J9:PC2 W7 wm:=by
 refine wm.partial_correctness W7 (fun wm J9 a0 t5 r h=> ?_)
 unfold qa at h
 intro l0 j0 hl0 hj0 hm0
 refine yc ?_
 cases a0 with
 | nil=>
   have hb:=Ju (C:=File.cells) hl0 hj0
   refine kr [] ?_
   refine qx hb ?_
   refine kr [] ?_
   cases h
   exact jz env rfl rfl (Js (Yu (j8 (w9 (jg Kf rfl) (by simp)) (j8 (w9 (zm rfl) (by simp)) Z7))))
 | cons x_0 a0=>
   obtain ⟨hb,hx0,hd0,hk0,hw0⟩:=Zh (C:=File.cells) hl0 hm0
   refine kr [] ?_
   refine qw hb ?_
   refine kr [] ?_
   refine Ku env rfl rfl rfl rfl (m:=j0) rfl (Wg hx0 rfl) ?_
   refine kr [] ?_
   obtain ⟨x2,hx,h⟩:=bind_some h
   refine qp (ql6 _ _ hx) ?_
   refine kr [] ?_
   obtain ⟨x3,hx,h⟩:=bind_some h
   have hp_x3:=qad hx (by simp)
   refine qdh (C:=Unit.cells) env hx rfl rfl (by simp) (fun _=>rfl) rfl rfl rfl rfl rfl (by decide) rfl rfl rfl ?_
   refine kr [] ?_
   exact zp (by kernel_rfl) (qbg (by simp only [hw0];simp <;> (repeat' apply And.intro) <;> first | rfl | exact fun x a _ h=>(Kf.all a x h).2) (by simp <;> (repeat' apply And.intro) <;> first | rfl | exact fun x a _ h=>(Kf.all a x h).2)) (J9 _ _ _ h l0 (j0+1) hd0 hk0 hm0)
def Zf (a0:(List File)):Option ((List Unit) × Int):=
 Qq a0 >>=fun x1=>
 if (!decide (x1=(0:Int)))=true then
  some (([]:(List Unit)),x1)
 else
  wm a0 ([]:List Unit)
@[reducible] def qiq (a0:(List File)) (r:(List Unit) × Int):Prop:=
  Fn Tryz.prog G 10 [(.sl 2 false (a0.map File.cells))] (.tup [(.sl 7 false (r.1.map Unit.cells)),(.int .i64 r.2)])
theorem qiv:PC1 qiq Zf:=fun a0 r h=>by
 rw [Zf.eq_def] at h
 refine zu (T:=tt) (N:=42) (rs:= [.tmp 2, .tmp 3]) (fun vs w=>by simp) Tryz.func10 rfl rfl rfl rfl (by kernel_rfl) (ya rfl) (zn _ rfl) ?_
 refine kr [] ?_
 obtain ⟨x1,hx,h⟩:=bind_some h
 refine qp (qbl _ _ hx) ?_
 refine kr [] ?_
 refine qf (fun hb=> ?_) (fun hb=> ?_)
 ·replace h:=qu hb h
  refine kr [] ?_
  cases h
  exact jz env rfl rfl (Js (Yu (j8 (w9 (y5 (.inr rfl)) (by simp)) (j8 (w9 (zm rfl) (by simp)) Z7))))
 replace h:=qv hb h
 refine kr [] ?_
 refine qta 5 _ 7 48 rfl rfl ?_
 refine qae 16 rfl (fun hm=> ?_)
 exact jv (by kernel_rfl) lA (J9 _ _ _ h a0 0 rfl (Nat.zero_le _) (Zj hm))
mutual
def w8 (a0:(List Row)) (a1:Node) (a2:Int):Option ((List Row)):=
 uy a1.gaps >>=fun x4=>
 app 80 a0 ([(Row.mk a2 a1.kind a1.text x4 ([]:(List Int)))]) >>=fun x5=>
 if (decide (((a1.kids.map Node.cells).length:Int)=(0:Int)))=true then
  some x5
 else
  mkz 8 ((a1.kids.map Node.cells).length:Int) (0:Int) >>=fun x6=>
  wc a1.kids 0 (qa x5) (a0.length:Int) (qa x6)
 partial_fixpoint
def wc (a0:LN) (j0:Nat) (t0:(List Row)) (t7:Int) (t8:(List Int)):Option ((List Row)):=
 match a0 with
 | []=>
   ix t0 t7 >>=fun x10=>
   some (t0.set t7.toNat (Row.mk x10.Parent x10.Kind x10.Text x10.Gaps t8))
 | x_0::a0=>
   ix t8 ((j0:Nat):Int) >>=fun x11=>
   w8 (qa t0) (qa x_0) (qa t7) >>=fun x12=>
   wc (qa a0) (j0+1) (qa x12) (qa t7) (t8.set ((j0:Nat):Int).toNat (t0.length:Int))
 partial_fixpoint
end
@[reducible] def Wv (a0:(List Row)) (a1:Node) (a2:Int) (r:(List Row)):Prop:=
  AC Tryz.prog G 59 [(.bs 5 0 0 0 a0.length),(.agg (zo a1)),(.int .i64 a2)] 2 [(0, .row 69 (a0.map Row.cells).flatten),(1, .row 69 [])] (.bs 5 1 2 0 r.length) 3 [(0, .row 69 []),(2, .row 69 (r.map Row.cells).flatten)]
@[reducible] def Yo (a0:LN) (j0:Nat) (t0:(List Row)) (t7:Int) (t8:(List Int)) (r:(List Row)):Prop:=
  ∀(l0:LN),l0.drop j0=a0→j0≤l0.length→l0.length≤9223372036854775807→Ok Tryz.prog G tt 58 2 (Ret Tryz.prog [.tmp 6] (fun y H=>Q5 Tryz.prog G 2 H y (.bs 5 1 2 0 r.length) ⟨3, [(0, .row 69 []),(2, .row 69 (r.map Row.cells).flatten)]⟩)) (.again (jy [1000000,2000002] Tryz.f59 0).1 (jy [1000000,2000002] Tryz.f59 0).2 (.n (.bs 5 0 5 0 t0.length) (.n .undef (.n .undef (.n (.int .i64 t7) .z .z) (.n .undef (.n .undef (.n (.sl 4 false (l0.map Node.cells)) .z .z) .z) .z)) (.n .undef .z (.n .undef (.n .undef (.n (.int .i64 ((j0:Nat):Int)) .z .z) .z) .z))) (.n .undef (.n .undef (.n (.bs 1 3 4 0 t8.length) .z .z) (.n .undef (.n .undef (.n (.int .i64 ((l0.map Node.cells).length:Int)) .z .z) .z) .z)) .z)) 6 [(5, .row 69 (t0.map Row.cells).flatten),(1, .dead),(2, .dead),(4, .row 3 (t8.map ic).flatten)])
theorem qbo:PC3 Wv w8∧PC5 Yo wc:=by
 refine w8.mutual_partial_correctness Wv Yo (fun wc Zn a0 a1 a2 r h=> ?_) (fun w8 wc W0 Zn a0 j0 t0 t7 t8 r h=> ?_)
 ·unfold qa at h
  refine ⟨?_,(Jb vo rfl (quf rfl kx)),(wi vo (qj2 zt)),(qtm (Z8 vo ku)),(qj2 (wi vo zt)),rfl,rfl,rfl,rfl⟩
  refine Jp (T:=tt) (N:=58) (rs:= [.tmp 6]) (fun vs w=>by simp) Tryz.func59 rfl rfl rfl (by kernel_rfl) (by kernel_rfl) ?_
  refine kr [1000000,2000002] ?_
  obtain ⟨x4,hx,h⟩:=bind_some h
  refine qp (qel _ _ hx) ?_
  refine kr [1000000,2000002] ?_
  obtain ⟨x5,hx,h⟩:=bind_some h
  have hp_x5:=qad hx (by simp)
  have hr_x5:=hx
  refine qrv (C:=Row.cells) env hx rfl rfl rfl (by simp) (fun _=>rfl) rfl rfl rfl rfl rfl (by decide) rfl rfl rfl ?_
  refine kr [1000000,2000002] ?_
  refine qu0 0 3 69 (cs':=(x5.map Row.cells).flatten) rfl rfl (qpy hr_x5 (Yb (Q7 _) (Yb (Q7 _) (Yb (Q7 _) (Yb (Q7 _) (Yb (qn6 (.inr rfl)) qth)))))) ?_
  refine qan ?_
  refine kr [1000000,2000002] ?_
  refine qf (fun hb=> ?_) (fun hb=> ?_)
  ·replace h:=qu hb h
   refine kr [1000000,2000002] ?_
   cases h
   exact yh env rfl rfl (tS [none,some 0] (qd1 rfl rfl (sR vo zw)) (j6 (qb2 (qqo rfl rfl rfl) (by simp)) (by simp)))
  replace h:=qv hb h
  refine kr [1000000,2000002] ?_
  obtain ⟨x6,hx,h⟩:=bind_some h
  refine qy9 (C:=ic) env hx rfl rfl rfl rfl rfl rfl rfl rfl rfl rfl ?_
  refine kr [1000000,2000002] ?_
  refine qae 35 rfl (fun hm=> ?_)
  exact jv (by kernel_rfl) lQ (Zn _ _ _ _ _ _ h a1.kids rfl (Nat.zero_le _) (Zj hm))
 unfold qa at h
 intro l0 hl0 hj0 hm0
 refine yc ?_
 cases a0 with
 | nil=>
   have hb:=Ju (C:=Node.cells) hl0 hj0
   refine kr [1000000,2000002] ?_
   refine qx hb ?_
   refine kr [1000000,2000002] ?_
   refine qrs [(8,(.sl 1 false (t8.map ic)))] [3] rfl (qmz W3 rfl rfl rfl qp5) rfl rfl ?_
   refine qan ?_
   refine kr [1000000,2000002] ?_
   obtain ⟨x10,hx,h⟩:=bind_some h
   have he_x10:=hx
   refine qin env rfl rfl rfl rfl (qt9 hx) (qq1 hx) ?_
   refine kr [1000000,2000002] ?_
   refine qdd (x':=(Row.mk x10.Parent x10.Kind x10.Text x10.Gaps t8)) (fo:=4) he_x10 vo rfl rfl rfl rfl rfl rfl rfl ?_
   refine kr [1000000,2000002] ?_
   cases h
   exact yh env rfl rfl (tS [none,some 0] (qd1 rfl rfl (sR vo zw)) (j6 (qb2 (qqo rfl (by simp) rfl) (by simp)) (by simp)))
 | cons x_0 a0=>
   obtain ⟨hb,hx0,hd0,hk0,hw0⟩:=Zh (C:=Node.cells) hl0 hm0
   refine kr [1000000,2000002] ?_
   refine qw hb ?_
   refine kr [1000000,2000002] ?_
   refine Ku env rfl rfl rfl rfl (m:=j0) rfl (Wg hx0 (Node.cells_eq x_0)) ?_
   refine kr [1000000,2000002] ?_
   obtain ⟨x11,hx,h⟩:=bind_some h
   have he_x11:=hx
   refine qin env rfl rfl rfl rfl (qt9 hx) (qq1 hx) ?_
   refine kr [1000000,2000002] ?_
   refine qdd (x':=(t0.length:Int)) (fo:=0) he_x11 W3 rfl rfl rfl rfl rfl rfl rfl ?_
   refine kr [1000000,2000002] ?_
   obtain ⟨x12,hx,h⟩:=bind_some h
   refine qc (ACalls.ghost (e:=69) (AC.g9 (W0 _ _ _ _ hx) [0,5] [5,7])) ?_
   refine kr [1000000,2000002] ?_
   exact zp (by kernel_rfl) (qnf [some 5,none,none,some 3] rfl rfl rfl (by simp only [hw0];simp <;> (repeat' apply And.intro) <;> first | rfl | exact fun x a _ h=>(vo.all a x h).2 | exact fun x a _ h=>(W3.all a x h).2) (qcy vo rfl rfl (qh7 rfl (qh7 rfl (qcy W3 rfl rfl qkn))))) (Zn _ _ _ _ _ _ h l0 hd0 hk0 hm0)
theorem W0:PC3 Wv w8:=qbo.1
theorem Zn:PC5 Yo wc:=qbo.2
def wd (a0:LN) (j0:Nat) (t0:(List Row)) (t7:Int) (t8:(List Int)):Option ((List Row)):=
 match a0 with
 | []=>
   ix t0 t7 >>=fun x7=>
   some (t0.set t7.toNat (Row.mk x7.Parent x7.Kind x7.Text x7.Gaps t8))
 | x_0::a0=>
   ix t8 ((j0:Nat):Int) >>=fun x8=>
   w8 (qa t0) (qa x_0) (qa t7) >>=fun x9=>
   wd (qa a0) (j0+1) (qa x9) (qa t7) (t8.set ((j0:Nat):Int).toNat (t0.length:Int))
 partial_fixpoint
@[reducible] def qa2 (a0:LN) (j0:Nat) (t0:(List Row)) (t7:Int) (t8:(List Int)) (r:(List Row)):Prop:=
  ∀(l0:LN),l0.drop j0=a0→j0≤l0.length→l0.length≤9223372036854775807→Ok Tryz.prog G tt 58 1 (Ret Tryz.prog [.tmp 6] (fun y H=>Q5 Tryz.prog G 1 H y (.sl 5 false (r.map Row.cells)) ⟨1, [(0, .row 69 [])]⟩)) (.again (jy [1000000,2000002] Tryz.f59 0).1 (jy [1000000,2000002] Tryz.f59 0).2 (.n (.bs 5 0 4 0 t0.length) (.n .undef (.n .undef (.n (.int .i64 t7) .z .z) (.n .undef (.n .undef (.n (.sl 4 false (l0.map Node.cells)) .z .z) .z) .z)) (.n .undef .z (.n .undef (.n .undef (.n (.int .i64 ((j0:Nat):Int)) .z .z) .z) .z))) (.n .undef (.n .undef (.n (.bs 1 2 3 0 t8.length) .z .z) (.n .undef (.n .undef (.n (.int .i64 ((l0.map Node.cells).length:Int)) .z .z) .z) .z)) .z)) 5 [(4, .row 69 (t0.map Row.cells).flatten),(1, .dead),(3, .row 3 (t8.map ic).flatten)])
theorem Yq:PC5 qa2 wd:=by
 refine wd.partial_correctness qa2 (fun wd Yq a0 j0 t0 t7 t8 r h=> ?_)
 unfold qa at h
 intro l0 hl0 hj0 hm0
 refine yc ?_
 cases a0 with
 | nil=>
   have hb:=Ju (C:=Node.cells) hl0 hj0
   refine kr [1000000,2000002] ?_
   refine qx hb ?_
   refine kr [1000000,2000002] ?_
   refine qrs [(8,(.sl 1 false (t8.map ic)))] [2] rfl (qmz W3 rfl rfl rfl qp5) rfl rfl ?_
   refine qan ?_
   refine kr [1000000,2000002] ?_
   obtain ⟨x7,hx,h⟩:=bind_some h
   have he_x7:=hx
   refine qin env rfl rfl rfl rfl (qt9 hx) (qq1 hx) ?_
   refine kr [1000000,2000002] ?_
   refine qdd (x':=(Row.mk x7.Parent x7.Kind x7.Text x7.Gaps t8)) (fo:=4) he_x7 vo rfl rfl rfl rfl rfl rfl rfl ?_
   refine kr [1000000,2000002] ?_
   cases h
   exact yh env rfl rfl (tS [none] (qd1 rfl rfl zw) (j6 (qb2 (qh (qva vo (by simp only [List.length_set]) rfl) rfl) (by simp)) (by simp)))
 | cons x_0 a0=>
   obtain ⟨hb,hx0,hd0,hk0,hw0⟩:=Zh (C:=Node.cells) hl0 hm0
   refine kr [1000000,2000002] ?_
   refine qw hb ?_
   refine kr [1000000,2000002] ?_
   refine Ku env rfl rfl rfl rfl (m:=j0) rfl (Wg hx0 (Node.cells_eq x_0)) ?_
   refine kr [1000000,2000002] ?_
   obtain ⟨x8,hx,h⟩:=bind_some h
   have he_x8:=hx
   refine qin env rfl rfl rfl rfl (qt9 hx) (qq1 hx) ?_
   refine kr [1000000,2000002] ?_
   refine qdd (x':=(t0.length:Int)) (fo:=0) he_x8 W3 rfl rfl rfl rfl rfl rfl rfl ?_
   refine kr [1000000,2000002] ?_
   obtain ⟨x9,hx,h⟩:=bind_some h
   refine qc (ACalls.ghost (e:=69) (AC.g9 (W0 _ _ _ _ hx) [0,4] [4,6])) ?_
   refine kr [1000000,2000002] ?_
   exact zp (by kernel_rfl) (qnf [some 4,none,some 2] rfl rfl rfl (by simp only [hw0];simp <;> (repeat' apply And.intro) <;> first | rfl | exact fun x a _ h=>(vo.all a x h).2 | exact fun x a _ h=>(W3.all a x h).2) (qcy vo rfl rfl (qh7 rfl (qcy W3 rfl rfl qkn)))) (Yq _ _ _ _ _ _ h l0 hd0 hk0 hm0)
def Wc (a0:(List Row)) (a1:Node) (a2:Int):Option ((List Row)):=
 uy a1.gaps >>=fun x1=>
 app 80 a0 ([(Row.mk a2 a1.kind a1.text x1 ([]:(List Int)))]) >>=fun x2=>
 if (decide (((a1.kids.map Node.cells).length:Int)=(0:Int)))=true then
  some x2
 else
  mkz 8 ((a1.kids.map Node.cells).length:Int) (0:Int) >>=fun x3=>
  wd a1.kids 0 x2 (a0.length:Int) x3
@[reducible] def qjg (a0:(List Row)) (a1:Node) (a2:Int) (r:(List Row)):Prop:=
  AC Tryz.prog G 59 [(.bs 5 0 0 0 a0.length),(.agg (zo a1)),(.int .i64 a2)] 1 [(0, .row 69 (a0.map Row.cells).flatten)] (.sl 5 false (r.map Row.cells)) 1 [(0, .row 69 [])]
theorem qjn:PC3 qjg Wc:=fun a0 a1 a2 r h=>by
 rw [Wc.eq_def] at h
 refine ⟨?_,(Jb vo rfl kx),(wi vo zt),(qtm ku),(qj2 zt),rfl,rfl,rfl,rfl⟩
 refine Jp (T:=tt) (N:=58) (rs:= [.tmp 6]) (fun vs w=>by simp) Tryz.func59 rfl rfl rfl (by kernel_rfl) (by kernel_rfl) ?_
 refine kr [1000000,2000002] ?_
 obtain ⟨x1,hx,h⟩:=bind_some h
 refine qp (qel _ _ hx) ?_
 refine kr [1000000,2000002] ?_
 obtain ⟨x2,hx,h⟩:=bind_some h
 have hp_x2:=qad hx (by simp)
 have hr_x2:=hx
 refine qrv (C:=Row.cells) env hx rfl rfl rfl (by simp) (fun _=>rfl) rfl rfl rfl rfl rfl (by decide) rfl rfl rfl ?_
 refine kr [1000000,2000002] ?_
 refine qu0 0 2 69 (cs':=(x2.map Row.cells).flatten) rfl rfl (qpy hr_x2 (Yb (Q7 _) (Yb (Q7 _) (Yb (Q7 _) (Yb (Q7 _) (Yb (qn6 (.inr rfl)) qth)))))) ?_
 refine qan ?_
 refine kr [1000000,2000002] ?_
 refine qf (fun hb=> ?_) (fun hb=> ?_)
 ·replace h:=qu hb h
  refine kr [1000000,2000002] ?_
  cases h
  exact yh env rfl rfl (tS [none] (qd1 rfl rfl zw) (j6 (qb2 (qh (jg vo rfl) rfl) (by simp)) (by simp)))
 replace h:=qv hb h
 refine kr [1000000,2000002] ?_
 obtain ⟨x3,hx,h⟩:=bind_some h
 refine qy9 (C:=ic) env hx rfl rfl rfl rfl rfl rfl rfl rfl rfl rfl ?_
 refine kr [1000000,2000002] ?_
 refine qae 35 rfl (fun hm=> ?_)
 exact jv (by kernel_rfl) lQ (Yq _ _ _ _ _ _ h a1.kids rfl (Nat.zero_le _) (Zj hm))
def Wo (a0:Node):Option ((List Row)):=
 Wc ([]:List Row) a0 (-1:Int) >>=fun x1=>
 some x1
@[reducible] def qmk (a0:Node) (r:(List Row)):Prop:=
  Fn Tryz.prog G 35 [(.agg (zo a0))] (.sl 5 false (r.map Row.cells))
theorem qmp:PC1 qmk Wo:=fun a0 r h=>by
 rw [Wo.eq_def] at h
 refine zu (T:=tt) (N:=5) (rs:= [.tmp 2]) (fun vs w=>by simp) Tryz.func35 rfl rfl rfl rfl (by kernel_rfl) (ya rfl) (zn _ rfl) ?_
 refine kr [] ?_
 obtain ⟨x1,hx,h⟩:=bind_some h
 refine qc (ACalls.ghost (e:=69) (ACalls.wkg (AC.go (objs:= [(0, .var 45 (zo a0)),(1, .row 69 (([]:List Row).map Row.cells).flatten)]) (xs:= [(.bs 5 1 1 0 ([]:List Row).length),(.agg (zo a0)),(.int .i64 (-1:Int))]) (qjn _ _ _ _ hx) [1] [1] rfl rfl rfl rfl rfl rfl rfl rfl rfl) (qg (za rfl) (qg (qr _) (qg (qr _) z7))) (zi _))) ?_
 refine kr [] ?_
 cases h
 exact kf
def vi (a0:(List Row)) (a1:Int):Option (BA × Bool):=
 ix a0 a1 >>=fun x1=>
 if (decide (x1.Parent < (0:Int)))=true then
  some ((⟨#[]⟩:BA),false)
 else
  ix a0 x1.Parent >>=fun x2=>
  if (!decide (x2.Kind=(7:Int)))=true then
   some ((⟨#[]⟩:BA),false)
  else
   ix a0 x1.Parent >>=fun x3=>
   some (x3.Text,true)
@[reducible] def qhs (a0:(List Row)) (a1:Int) (r:BA × Bool):Prop:=
  Fn Tryz.prog G 36 [(.sl 5 false (a0.map Row.cells)),(.int .i64 a1)] (.tup [(.str r.1),(.bool r.2)])
theorem qbk:PC2 qhs vi:=fun a0 a1 r h=>by
 rw [vi.eq_def] at h
 refine zu (T:=tt) (N:=27) (rs:= [.tmp 4, .tmp 5]) (fun vs w=>by simp) Tryz.func36 rfl rfl rfl rfl (by kernel_rfl) (ya rfl) (zn _ rfl) ?_
 refine kr [] ?_
 obtain ⟨x1,hx,h⟩:=bind_some h
 refine je env hx rfl rfl rfl rfl rfl ?_
 refine kr [] ?_
 refine qq (fun hb=> ?_) (fun hb=> ?_)
 ·replace h:=qv hb h
  refine kr [] ?_
  obtain ⟨x2,hx,h⟩:=bind_some h
  refine je env hx rfl rfl rfl rfl rfl ?_
  refine kr [] ?_
  refine qf (fun hb=> ?_) (fun hb=> ?_)
  ·replace h:=qu hb h
   refine kr [] ?_
   cases h
   exact kf
  replace h:=qv hb h
  refine kr [] ?_
  obtain ⟨x3,hx,h⟩:=bind_some h
  refine je env hx rfl rfl rfl rfl rfl ?_
  refine kr [] ?_
  cases h
  exact kf
 replace h:=qu hb h
 refine kr [] ?_
 cases h
 exact kf
def F_project_function_l0 (t0:(List Row)) (t5:Int):Option BA:=
 if (decide ((0:Int)≤t5))=true then
  ix t0 t5 >>=fun x2=>
  if (!decide (x2.Kind=(2:Int)))=true then
   ix t0 t5 >>=fun x3=>
   F_project_function_l0 (qa t0) x3.Parent
  else
   vi (qa t0) (qa t5) >>=fun x4=>
   if x4.2=true then
    cat x4.1 (⟨#[46]⟩:BA) >>=fun x5=>
    ix t0 t5 >>=fun x6=>
    cat x5 x6.Text >>=fun x7=>
    some x7
   else
    ix t0 t5 >>=fun x8=>
    some x8.Text
 else
  some (⟨#[]⟩:BA)
 partial_fixpoint
@[reducible] def Yx (t0:(List Row)) (t5:Int) (r:BA):Prop:=
  Ok Tryz.prog G tt 46 0 (Ret Tryz.prog [.tmp 4] (fun y H=>Told Tryz.prog G H y (.str r))) (.again (jy [] Tryz.f37 0).1 (jy [] Tryz.f37 0).2 (.n (.sl 5 false (t0.map Row.cells)) (.n .undef .z (.n (.int .i64 t5) .z .z)) .z) 0 [])
theorem Zb:PC2 Yx F_project_function_l0:=by
 refine F_project_function_l0.partial_correctness Yx (fun F_project_function_l0 Zb t0 t5 r h=> ?_)
 unfold qa at h
 refine yc ?_
 refine kr [] ?_
 refine qf (fun hb=> ?_) (fun hb=> ?_)
 ·replace h:=qu hb h
  refine kr [] ?_
  obtain ⟨x2,hx,h⟩:=bind_some h
  refine je env hx rfl rfl rfl rfl rfl ?_
  refine kr [] ?_
  refine qf (fun hb=> ?_) (fun hb=> ?_)
  ·replace h:=qu hb h
   refine kr [] ?_
   obtain ⟨x3,hx,h⟩:=bind_some h
   refine je env hx rfl rfl rfl rfl rfl ?_
   refine kr [] ?_
   exact zp (by kernel_rfl) lA (Zb _ _ _ h)
  replace h:=qv hb h
  refine kr [] ?_
  obtain ⟨x4,hx,h⟩:=bind_some h
  refine qp (qbk _ _ _ hx) ?_
  refine kr [] ?_
  refine qf (fun hb=> ?_) (fun hb=> ?_)
  ·replace h:=qu hb h
   refine kr [] ?_
   obtain ⟨x5,hx,h⟩:=bind_some h
   refine qu3 env hx rfl rfl ?_
   refine kr [] ?_
   obtain ⟨x6,hx,h⟩:=bind_some h
   refine je env hx rfl rfl rfl rfl rfl ?_
   refine kr [] ?_
   obtain ⟨x7,hx,h⟩:=bind_some h
   refine qu3 env hx rfl rfl ?_
   refine kr [] ?_
   cases h
   exact kf
  replace h:=qv hb h
  refine kr [] ?_
  obtain ⟨x8,hx,h⟩:=bind_some h
  refine je env hx rfl rfl rfl rfl rfl ?_
  refine kr [] ?_
  cases h
  exact kf
 replace h:=qv hb h
 refine kr [] ?_
 cases h
 exact kf
def uw (a0:(List Row)) (a1:Int):Option BA:=
 ix a0 a1 >>=fun x1=>
 F_project_function_l0 a0 x1.Parent
@[reducible] def qei (a0:(List Row)) (a1:Int) (r:BA):Prop:=
  Fn Tryz.prog G 37 [(.sl 5 false (a0.map Row.cells)),(.int .i64 a1)] (.str r)
theorem Wn:PC2 qei uw:=fun a0 a1 r h=>by
 rw [uw.eq_def] at h
 refine zu (T:=tt) (N:=46) (rs:= [.tmp 4]) (fun vs w=>by simp) Tryz.func37 rfl rfl rfl rfl (by kernel_rfl) (ya rfl) (zn _ rfl) ?_
 refine kr [] ?_
 obtain ⟨x1,hx,h⟩:=bind_some h
 refine je env hx rfl rfl rfl rfl rfl ?_
 refine kr [] ?_
 exact jv (by kernel_rfl) lA (Zb _ _ _ h)
mutual
def y9 (a0:(List Unit)) (j0:Nat) (t3:(List (Int × Int))) (t4:(List Decl)):Option ((List Decl)):=
 match a0 with
 | []=>
   some t4
 | x_0::a0=>
   if x_0.Broken=true then
    k7 (qa a0) (qa j0) (qa t3) (qa t4)
   else
    Wo x_0.Tree >>=fun x2=>
    zj (qa a0) (qa j0) (qa x2) 0 (qa t3) (qa t4) ((j0:Nat):Int) (qa x2)
 partial_fixpoint
def k7 (a0:(List Unit)) (j0:Nat) (t3:(List (Int × Int))) (t4:(List Decl)):Option ((List Decl)):=
 y9 (qa a0) (j0+1) (qa t3) (qa t4)
 partial_fixpoint
def zj (a0:(List Unit)) (j0:Nat) (a1:(List Row)) (j1:Nat) (t3:(List (Int × Int))) (t4:(List Decl)) (t5:Int) (t7:(List Row)):Option ((List Decl)):=
 match a1 with
 | []=>
   k7 (qa a0) (qa j0) (qa t3) (qa t4)
 | x_1 ::a1=>
   if (!(mhas t3 x_1.Kind))=true then
    ka (qa a0) (qa j0) (qa a1) (qa j1) (qa t3) (qa t4) (qa t5) (qa t7)
   else
    vi (qa t7) ((j1:Nat):Int) >>=fun x3=>
    if x3.2=true then
     if (decide ((mget t3 x_1.Kind)=(1:Int)))=true then
      j7 (qa a0) (qa j0) (qa a1) (qa j1) (qa t3) (qa t4) (qa t5) (qa t7) ((j1:Nat):Int) (mget t3 x_1.Kind) (Decl.mk (4:Int) x3.1 x_1.Text (Ref.mk t5 ((j1:Nat):Int)))
     else
      j7 (qa a0) (qa j0) (qa a1) (qa j1) (qa t3) (qa t4) (qa t5) (qa t7) ((j1:Nat):Int) (mget t3 x_1.Kind) (Decl.mk (mget t3 x_1.Kind) (⟨#[]⟩) x_1.Text (Ref.mk t5 ((j1:Nat):Int)))
    else
     j7 (qa a0) (qa j0) (qa a1) (qa j1) (qa t3) (qa t4) (qa t5) (qa t7) ((j1:Nat):Int) (mget t3 x_1.Kind) (Decl.mk (mget t3 x_1.Kind) (⟨#[]⟩) x_1.Text (Ref.mk t5 ((j1:Nat):Int)))
 partial_fixpoint
def ka (a0:(List Unit)) (j0:Nat) (a1:(List Row)) (j1:Nat) (t3:(List (Int × Int))) (t4:(List Decl)) (t5:Int) (t7:(List Row)):Option ((List Decl)):=
 zj (qa a0) (qa j0) (qa a1) (j1+1) (qa t3) (qa t4) (qa t5) (qa t7)
 partial_fixpoint
def j7 (a0:(List Unit)) (j0:Nat) (a1:(List Row)) (j1:Nat) (t3:(List (Int × Int))) (t4:(List Decl)) (t5:Int) (t7:(List Row)) (t8:Int) (t10:Int) (o2:Decl):Option ((List Decl)):=
 if (decide (t10=(5:Int)))=true then
  uw (qa t7) (qa t8) >>=fun x5=>
  kh (qa a0) (qa j0) (qa a1) (qa j1) (qa t3) (qa t4) (qa t5) (qa t7) (Decl.mk o2.Kind x5 o2.Name o2.At)
 else
  if (decide (t10=(6:Int)))=true then
   uw (qa t7) (qa t8) >>=fun x4=>
   kh (qa a0) (qa j0) (qa a1) (qa j1) (qa t3) (qa t4) (qa t5) (qa t7) (Decl.mk o2.Kind x4 o2.Name o2.At)
  else
   kh (qa a0) (qa j0) (qa a1) (qa j1) (qa t3) (qa t4) (qa t5) (qa t7) (qa o2)
 partial_fixpoint
def kh (a0:(List Unit)) (j0:Nat) (a1:(List Row)) (j1:Nat) (t3:(List (Int × Int))) (t4:(List Decl)) (t5:Int) (t7:(List Row)) (o2:Decl):Option ((List Decl)):=
 app 56 t4 ([o2]) >>=fun x6=>
 ka (qa a0) (qa j0) (qa a1) (qa j1) (qa t3) (qa x6) (qa t5) (qa t7)
 partial_fixpoint
end
@[reducible] def Jf (a0:(List Unit)) (j0:Nat) (t3:(List (Int × Int))) (t4:(List Decl)) (r:(List Decl)):Prop:=
  ∀(l0:List Unit),l0.drop j0=a0→j0≤l0.length→l0.length≤9223372036854775807→Ok Tryz.prog G tt 82 0 (Ret Tryz.prog [.tmp 2] (fun y H=>Told Tryz.prog G H y (.sl 5 false (r.map Decl.cells)))) (.again (jy [1000001,1000003,61,70] Tryz.f19 0).1 (jy [1000001,1000003,61,70] Tryz.f19 0).2 (.n .undef (.n .undef (.n (.mp .i64 .i64 t3) .z .z) (.n .undef (.n .undef (.n (.int .i64 ((l0.map Unit.cells).length:Int)) .z .z) .z) .z)) (.n .undef (.n (.bs 5 0 0 0 t4.length) (.n .undef (.n (.sl 7 false (l0.map Unit.cells)) .z .z) .z) .z) (.n .undef (.n .undef (.n (.int .i64 ((j0:Nat):Int)) .z .z) .z) .z))) 1 [(0, .row 34 (t4.map Decl.cells).flatten)])
@[reducible] def Jh (a0:(List Unit)) (j0:Nat) (t3:(List (Int × Int))) (t4:(List Decl)) (r:(List Decl)):Prop:=
  ∀(l0:List Unit),l0.drop (j0+1)=a0→j0+1≤l0.length→l0.length≤9223372036854775807→Ok Tryz.prog G tt 82 0 (Ret Tryz.prog [.tmp 2] (fun y H=>Told Tryz.prog G H y (.sl 5 false (r.map Decl.cells)))) (.go [] (qhm [1000001,1000003,61,70] Tryz.f19 1) [] (.n .undef (.n .undef (.n (.mp .i64 .i64 t3) .z .z) (.n .undef (.n .undef (.n (.int .i64 ((l0.map Unit.cells).length:Int)) .z .z) .z) .z)) (.n .undef (.n (.bs 5 0 0 0 t4.length) (.n .undef (.n (.sl 7 false (l0.map Unit.cells)) .z .z) .z) .z) (.n .undef (.n .undef (.n (.int .i64 ((j0:Nat):Int)) .z .z) .z) .z))) 2 [(0, .row 34 (t4.map Decl.cells).flatten)])
@[reducible] def Je (a0:(List Unit)) (j0:Nat) (a1:(List Row)) (j1:Nat) (t3:(List (Int × Int))) (t4:(List Decl)) (t5:Int) (t7:(List Row)) (r:(List Decl)):Prop:=
  ∀(l0:List Unit),l0.drop (j0+1)=a0→j0+1≤l0.length→l0.length≤9223372036854775807→∀(l1:List Row),l1.drop j1=a1→j1≤l1.length→l1.length≤9223372036854775807→Ok Tryz.prog G tt 82 0 (Ret Tryz.prog [.tmp 2] (fun y H=>Told Tryz.prog G H y (.sl 5 false (r.map Decl.cells)))) (.again (jy [1000001,1000003,61,70] Tryz.f19 1).1 (jy [1000001,1000003,61,70] Tryz.f19 1).2 (.n .undef (.n .undef (.n (.mp .i64 .i64 t3) (.n (.sl 5 false (t7.map Row.cells)) .z .z) .z) (.n (.int .i64 t5) (.n .undef (.n (.int .i64 ((l0.map Unit.cells).length:Int)) .z .z) .z) (.n .undef .z (.n (.int .i64 ((l1.map Row.cells).length:Int)) .z .z)))) (.n .undef (.n (.bs 5 0 0 0 t4.length) (.n .undef (.n (.sl 7 false (l0.map Unit.cells)) .z .z) .z) (.n .undef .z (.n (.sl 5 false (l1.map Row.cells)) .z .z))) (.n .undef (.n .undef (.n (.int .i64 ((j0:Nat):Int)) .z .z) .z) (.n .undef .z (.n (.int .i64 ((j1:Nat):Int)) .z .z))))) 2 [(0, .row 34 (t4.map Decl.cells).flatten)])
@[reducible] def Jg (a0:(List Unit)) (j0:Nat) (a1:(List Row)) (j1:Nat) (t3:(List (Int × Int))) (t4:(List Decl)) (t5:Int) (t7:(List Row)) (r:(List Decl)):Prop:=
  ∀(l0:List Unit),l0.drop (j0+1)=a0→j0+1≤l0.length→l0.length≤9223372036854775807→∀(l1:List Row),l1.drop (j1+1)=a1→j1+1≤l1.length→l1.length≤9223372036854775807→Ok Tryz.prog G tt 82 0 (Ret Tryz.prog [.tmp 2] (fun y H=>Told Tryz.prog G H y (.sl 5 false (r.map Decl.cells)))) (.go [] (qhm [1000001,1000003,61,70] Tryz.f19 3) [] (.n .undef (.n .undef (.n (.mp .i64 .i64 t3) (.n (.sl 5 false (t7.map Row.cells)) .z .z) .z) (.n (.int .i64 t5) (.n .undef (.n (.int .i64 ((l0.map Unit.cells).length:Int)) .z .z) .z) (.n .undef .z (.n (.int .i64 ((l1.map Row.cells).length:Int)) .z .z)))) (.n .undef (.n (.bs 5 0 0 0 t4.length) (.n .undef (.n (.sl 7 false (l0.map Unit.cells)) .z .z) .z) (.n .undef .z (.n (.sl 5 false (l1.map Row.cells)) .z .z))) (.n .undef (.n .undef (.n (.int .i64 ((j0:Nat):Int)) .z .z) .z) (.n .undef .z (.n (.int .i64 ((j1:Nat):Int)) .z .z))))) 3 [(0, .row 34 (t4.map Decl.cells).flatten)])
@[reducible] def Z0 (a0:(List Unit)) (j0:Nat) (a1:(List Row)) (j1:Nat) (t3:(List (Int × Int))) (t4:(List Decl)) (t5:Int) (t7:(List Row)) (t8:Int) (t10:Int) (o2:Decl) (r:(List Decl)):Prop:=
  ∀(l0:List Unit),l0.drop (j0+1)=a0→j0+1≤l0.length→l0.length≤9223372036854775807→∀(l1:List Row),l1.drop (j1+1)=a1→j1+1≤l1.length→l1.length≤9223372036854775807→Ok Tryz.prog G tt 82 0 (Ret Tryz.prog [.tmp 2] (fun y H=>Told Tryz.prog G H y (.sl 5 false (r.map Decl.cells)))) (.go [] (Zg [1000001,1000003,61,70] Tryz.f19 61) [] (.n .undef (.n .undef (.n (.mp .i64 .i64 t3) (.n (.sl 5 false (t7.map Row.cells)) .z .z) .z) (.n (.int .i64 t5) (.n .undef (.n (.int .i64 ((l0.map Unit.cells).length:Int)) .z .z) .z) (.n .undef .z (.n (.int .i64 ((l1.map Row.cells).length:Int)) .z .z)))) (.n .undef (.n (.bs 5 0 0 0 t4.length) (.n (.int .i64 t8) (.n (.sl 7 false (l0.map Unit.cells)) .z .z) .z) (.n (.ptr 2 3 0) .z (.n (.sl 5 false (l1.map Row.cells)) .z .z))) (.n .undef (.n (.int .i64 t10) (.n (.int .i64 ((j0:Nat):Int)) .z .z) .z) (.n .undef .z (.n (.int .i64 ((j1:Nat):Int)) .z .z))))) 4 [(0, .row 34 (t4.map Decl.cells).flatten),(2, .dead),(3, .var 34 (Decl.cells o2))])
@[reducible] def Zz (a0:(List Unit)) (j0:Nat) (a1:(List Row)) (j1:Nat) (t3:(List (Int × Int))) (t4:(List Decl)) (t5:Int) (t7:(List Row)) (o2:Decl) (r:(List Decl)):Prop:=
  ∀(l0:List Unit),l0.drop (j0+1)=a0→j0+1≤l0.length→l0.length≤9223372036854775807→∀(l1:List Row),l1.drop (j1+1)=a1→j1+1≤l1.length→l1.length≤9223372036854775807→Ok Tryz.prog G tt 82 0 (Ret Tryz.prog [.tmp 2] (fun y H=>Told Tryz.prog G H y (.sl 5 false (r.map Decl.cells)))) (.go [] (Zg [1000001,1000003,61,70] Tryz.f19 70) [] (.n .undef (.n .undef (.n (.mp .i64 .i64 t3) (.n (.sl 5 false (t7.map Row.cells)) .z .z) .z) (.n (.int .i64 t5) (.n .undef (.n (.int .i64 ((l0.map Unit.cells).length:Int)) .z .z) .z) (.n .undef .z (.n (.int .i64 ((l1.map Row.cells).length:Int)) .z .z)))) (.n .undef (.n (.bs 5 0 0 0 t4.length) (.n .undef (.n (.sl 7 false (l0.map Unit.cells)) .z .z) .z) (.n (.ptr 2 3 0) .z (.n (.sl 5 false (l1.map Row.cells)) .z .z))) (.n .undef (.n .undef (.n (.int .i64 ((j0:Nat):Int)) .z .z) .z) (.n .undef .z (.n (.int .i64 ((j1:Nat):Int)) .z .z))))) 4 [(0, .row 34 (t4.map Decl.cells).flatten),(2, .dead),(3, .var 34 (Decl.cells o2))])
theorem wh:PC4 Jf y9∧PC8 Je zj∧PC11 Z0 j7∧PC9 Zz kh∧PC8 Jg ka∧PC4 Jh k7:=by
 refine y9.mutual_partial_correctness Jf Je Z0 Zz Jg Jh (fun zj k7 Qv Qx a0 j0 t3 t4 r h=> ?_) (fun j7 ka k7 Qi Qw Qx a0 j0 a1 j1 t3 t4 t5 t7 r h=> ?_) (fun kh Qh a0 j0 a1 j1 t3 t4 t5 t7 t8 t10 o2 r h=> ?_) (fun ka Qw a0 j0 a1 j1 t3 t4 t5 t7 o2 r h=> ?_) (fun zj Qv a0 j0 a1 j1 t3 t4 t5 t7 r h=> ?_) (fun y9 Jj a0 j0 t3 t4 r h=> ?_)
 ·unfold qa at h
  intro l0 hl0 hj0 hm0
  refine yc ?_
  cases a0 with
  | nil=>
    have hb:=Ju (C:=Unit.cells) hl0 hj0
    refine kr [1000001,1000003,61,70] ?_
    refine qx hb ?_
    refine kr [1000001,1000003,61,70] ?_
    cases h
    exact jz env rfl rfl (Js (qvb (w9 (jg J3 rfl) (by simp)) (by simp)))
  | cons x_0 a0=>
    obtain ⟨hb,hx0,hd0,hk0,hw0⟩:=Zh (C:=Unit.cells) hl0 hm0
    refine kr [1000001,1000003,61,70] ?_
    refine qw hb ?_
    refine kr [1000001,1000003,61,70] ?_
    refine Ku env rfl rfl rfl rfl (m:=j0) rfl (Wg hx0 rfl) ?_
    refine kr [1000001,1000003,61,70] ?_
    refine qf (fun hb=> ?_) (fun hb=> ?_)
    ·replace h:=qu hb h
     refine kr [1000001,1000003,61,70] ?_
     exact zb (by kernel_rfl) rfl lA (Qx _ _ _ _ _ h l0 hd0 hk0 hm0)
    replace h:=qv hb h
    refine kr [1000001,1000003,61,70] ?_
    obtain ⟨x2,hx,h⟩:=bind_some h
    refine qp (qmp _ _ hx) ?_
    refine kr [1000001,1000003,61,70] ?_
    refine qae 28 rfl (fun hm=> ?_)
    exact jv (by kernel_rfl) lA (Qv _ _ _ _ _ _ _ _ _ h l0 hd0 hk0 hm0 x2 rfl (Nat.zero_le _) (Zj hm))
 ·unfold qa at h
  intro l0 hd0 hk0 hm0
  have hw0:=Wa hk0 hm0
  intro l1 hl1 hj1 hm1
  refine yc ?_
  cases a1 with
  | nil=>
    have hb:=Ju (C:=Row.cells) hl1 hj1
    refine kr [1000001,1000003,61,70] ?_
    refine qx hb ?_
    refine kr [1000001,1000003,61,70] ?_
    exact zb (by kernel_rfl) rfl lA (Qx _ _ _ _ _ h l0 hd0 hk0 hm0)
  | cons x_1 a1=>
    obtain ⟨hb,hx1,hd1,hk1,hw1⟩:=Zh (C:=Row.cells) hl1 hm1
    refine kr [1000001,1000003,61,70] ?_
    refine qw hb ?_
    refine kr [1000001,1000003,61,70] ?_
    refine Ku env rfl rfl rfl rfl (m:=j1) rfl (Wg hx1 rfl) ?_
    refine kr [1000001,1000003,61,70] ?_
    refine q2z env rfl rfl (by kernel_rfl) ?_
    refine kr [1000001,1000003,61,70] ?_
    refine qf (fun hb=> ?_) (fun hb=> ?_)
    ·replace h:=qu hb h
     refine kr [1000001,1000003,61,70] ?_
     exact zb (by kernel_rfl) rfl lA (Qw _ _ _ _ _ _ _ _ _ h l0 hd0 hk0 hm0 l1 hd1 hk1 hm1)
    replace h:=qv hb h
    refine kr [1000001,1000003,61,70] ?_
    obtain ⟨x3,hx,h⟩:=bind_some h
    refine qp (qbk _ _ _ hx) ?_
    refine kr [1000001,1000003,61,70] ?_
    refine qk (fun hb=> ?_) (fun hb=> ?_)
    ·replace h:=qu hb h
     refine kr [1000001,1000003,61,70] ?_
     refine qf (fun hb=> ?_) (fun hb=> ?_)
     ·replace h:=qu hb h
      refine kr [1000001,1000003,61,70] ?_
      exact zb (by kernel_rfl) rfl lA (Qi _ _ _ _ _ _ _ _ _ _ _ _ h l0 hd0 hk0 hm0 l1 hd1 hk1 hm1)
     replace h:=qv hb h
     refine kr [1000001,1000003,61,70] ?_
     exact zb (by kernel_rfl) rfl lA (Qi _ _ _ _ _ _ _ _ _ _ _ _ h l0 hd0 hk0 hm0 l1 hd1 hk1 hm1)
    replace h:=qv hb h
    refine kr [1000001,1000003,61,70] ?_
    exact zb (by kernel_rfl) rfl lA (Qi _ _ _ _ _ _ _ _ _ _ _ _ h l0 hd0 hk0 hm0 l1 hd1 hk1 hm1)
 ·unfold qa at h
  intro l0 hd0 hk0 hm0
  have hw0:=Wa hk0 hm0
  intro l1 hd1 hk1 hm1
  have hw1:=Wa hk1 hm1
  refine kr [1000001,1000003,61,70] ?_
  refine qq (fun hb=> ?_) (fun hb=> ?_)
  ·replace h:=qv hb h
   refine kr [1000001,1000003,61,70] ?_
   refine qf (fun hb=> ?_) (fun hb=> ?_)
   ·replace h:=qu hb h
    refine kr [1000001,1000003,61,70] ?_
    obtain ⟨x4,hx,h⟩:=bind_some h
    refine qp (Wn _ _ _ hx) ?_
    refine kr [1000001,1000003,61,70] ?_
    exact zb (by kernel_rfl) rfl lA (Qh _ _ _ _ _ _ _ _ _ _ h l0 hd0 hk0 hm0 l1 hd1 hk1 hm1)
   replace h:=qv hb h
   refine kr [1000001,1000003,61,70] ?_
   exact zb (by kernel_rfl) rfl lA (Qh _ _ _ _ _ _ _ _ _ _ h l0 hd0 hk0 hm0 l1 hd1 hk1 hm1)
  replace h:=qu hb h
  refine kr [1000001,1000003,61,70] ?_
  obtain ⟨x5,hx,h⟩:=bind_some h
  refine qp (Wn _ _ _ hx) ?_
  refine kr [1000001,1000003,61,70] ?_
  exact zb (by kernel_rfl) rfl lA (Qh _ _ _ _ _ _ _ _ _ _ h l0 hd0 hk0 hm0 l1 hd1 hk1 hm1)
 ·unfold qa at h
  intro l0 hd0 hk0 hm0
  have hw0:=Wa hk0 hm0
  intro l1 hd1 hk1 hm1
  have hw1:=Wa hk1 hm1
  refine kr [1000001,1000003,61,70] ?_
  obtain ⟨x6,hx,h⟩:=bind_some h
  have hp_x6:=qad hx (by simp)
  refine qdh (C:=Decl.cells) env hx rfl rfl (by simp) (fun _=>rfl) rfl rfl rfl rfl rfl (by decide) rfl rfl rfl ?_
  refine kr [1000001,1000003,61,70] ?_
  exact zb (by kernel_rfl) rfl lA (Qw _ _ _ _ _ _ _ _ _ h l0 hd0 hk0 hm0 l1 hd1 hk1 hm1)
 ·unfold qa at h
  intro l0 hd0 hk0 hm0
  have hw0:=Wa hk0 hm0
  intro l1 hd1 hk1 hm1
  have hw1:=Wa hk1 hm1
  refine kr [1000001,1000003,61,70] ?_
  exact zp (by kernel_rfl) (qbg (by simp only [hw1];simp <;> (repeat' apply And.intro) <;> first | rfl | exact fun x a _ h=>(J3.all a x h).2) (by simp <;> (repeat' apply And.intro) <;> first | rfl | exact fun x a _ h=>(J3.all a x h).2)) (Qv _ _ _ _ _ _ _ _ _ h l0 hd0 hk0 hm0 l1 hd1 hk1 hm1)
 unfold qa at h
 intro l0 hd0 hk0 hm0
 have hw0:=Wa hk0 hm0
 refine kr [1000001,1000003,61,70] ?_
 exact zp (by kernel_rfl) (qbg (by simp only [hw0];simp <;> (repeat' apply And.intro) <;> first | rfl | exact fun x a _ h=>(J3.all a x h).2) (by simp <;> (repeat' apply And.intro) <;> first | rfl | exact fun x a _ h=>(J3.all a x h).2)) (Jj _ _ _ _ _ h l0 hd0 hk0 hm0)
theorem Jj:PC4 Jf y9:=wh.1
theorem Qv:PC8 Je zj:=wh.2.1
theorem Qi:PC11 Z0 j7:=wh.2.2.1
theorem Qh:PC9 Zz kh:=wh.2.2.2.1
theorem Qw:PC8 Jg ka:=wh.2.2.2.2.1
theorem Qx:PC4 Jh k7:=wh.2.2.2.2.2
def vj (a0:(List Unit)):Option ((List Decl)):=
 W2 >>=fun x1=>
 y9 a0 0 x1 ([]:List Decl)
@[reducible] def qht (a0:(List Unit)) (r:(List Decl)):Prop:=
  Fn Tryz.prog G 19 [(.sl 7 false (a0.map Unit.cells))] (.sl 5 false (r.map Decl.cells))
theorem Kk:PC1 qht vj:=fun a0 r h=>by
 rw [vj.eq_def] at h
 refine zu (T:=tt) (N:=82) (rs:= [.tmp 2]) (fun vs w=>by simp) Tryz.func19 rfl rfl rfl rfl (by kernel_rfl) (ya rfl) (zn _ rfl) ?_
 refine kr [1000001,1000003,61,70] ?_
 obtain ⟨x1,hx,h⟩:=bind_some h
 refine qp (qhw _ hx) ?_
 refine kr [1000001,1000003,61,70] ?_
 refine qta 4 _ 5 34 rfl rfl ?_
 refine qae 16 rfl (fun hm=> ?_)
 exact jv (by kernel_rfl) lA (Jj _ _ _ _ _ h a0 rfl (Nat.zero_le _) (Zj hm))
mutual
def kl (a0:(List Decl)) (t1:Int) (t2:BA) (t3:BA):Option (Decl × Bool):=
 match a0 with
 | []=>
   some ((Decl.mk 0 (⟨#[]⟩) (⟨#[]⟩) (Ref.mk 0 0)),false)
 | x_0 ::a0=>
   if (decide (x_0.Kind=t1))=true then
    if (decide (x_0.Owner=t2))=true then
     if (decide (x_0.Name=t3))=true then
      some (x_0,true)
     else
      kz (qa a0) (qa t1) (qa t2) (qa t3)
    else
     kz (qa a0) (qa t1) (qa t2) (qa t3)
   else
    kz (qa a0) (qa t1) (qa t2) (qa t3)
 partial_fixpoint
def kz (a0:(List Decl)) (t1:Int) (t2:BA) (t3:BA):Option (Decl × Bool):=
 kl (qa a0) (qa t1) (qa t2) (qa t3)
 partial_fixpoint
end
@[reducible] def J7 (a0:(List Decl)) (t1:Int) (t2:BA) (t3:BA) (r:Decl × Bool):Prop:=
  ∀(l0:List Decl) (j0:Nat),l0.drop j0=a0→j0≤l0.length→l0.length≤9223372036854775807→Ok Tryz.prog G tt 38 0 (Ret Tryz.prog [.cell 8 34, .tmp 9] (fun y H=>Told Tryz.prog G H y (.tup [(.agg (Decl.cells r.1)),(.bool r.2)]))) (.again (jy [34] Tryz.f16 0).1 (jy [34] Tryz.f16 0).2 (.n .undef (.n (.int .i64 t1) (.n (.str t3) (.n .undef (.n (.int .i64 ((j0:Nat):Int)) .z .z) .z) .z) (.n .undef .z (.n (.sl 5 false (l0.map Decl.cells)) .z .z))) (.n (.str t2) (.n .undef (.n (.ptr 0 0 0) .z .z) .z) (.n .undef .z (.n (.int .i64 ((l0.map Decl.cells).length:Int)) .z .z)))) 1 [(0, .var 34 [(.int .i64 0),(.str ⟨#[]⟩),(.str ⟨#[]⟩),(.int .i64 0),(.int .i64 0)])])
@[reducible] def Jd (a0:(List Decl)) (t1:Int) (t2:BA) (t3:BA) (r:Decl × Bool):Prop:=
  ∀(l0:List Decl) (j0:Nat),l0.drop (j0+1)=a0→j0+1≤l0.length→l0.length≤9223372036854775807→Ok Tryz.prog G tt 38 0 (Ret Tryz.prog [.cell 8 34, .tmp 9] (fun y H=>Told Tryz.prog G H y (.tup [(.agg (Decl.cells r.1)),(.bool r.2)]))) (.go [] (Zg [34] Tryz.f16 34) [] (.n .undef (.n (.int .i64 t1) (.n (.str t3) (.n .undef (.n (.int .i64 ((j0:Nat):Int)) .z .z) .z) .z) (.n .undef .z (.n (.sl 5 false (l0.map Decl.cells)) .z .z))) (.n (.str t2) (.n .undef (.n (.ptr 0 0 0) .z .z) .z) (.n .undef .z (.n (.int .i64 ((l0.map Decl.cells).length:Int)) .z .z)))) 2 [(0, .var 34 [(.int .i64 0),(.str ⟨#[]⟩),(.str ⟨#[]⟩),(.int .i64 0),(.int .i64 0)])])
theorem Kw:PC4 J7 kl∧PC4 Jd kz:=by
 refine kl.mutual_partial_correctness J7 Jd (fun kz Qu a0 t1 t2 t3 r h=> ?_) (fun kl Ya a0 t1 t2 t3 r h=> ?_)
 ·unfold qa at h
  intro l0 j0 hl0 hj0 hm0
  refine yc ?_
  cases a0 with
  | nil=>
    have hb:=Ju (C:=Decl.cells) hl0 hj0
    refine kr [34] ?_
    refine qx hb ?_
    refine kr [34] ?_
    cases h
    exact kf
  | cons x_0 a0=>
    obtain ⟨hb,hx0,hd0,hk0,hw0⟩:=Zh (C:=Decl.cells) hl0 hm0
    refine kr [34] ?_
    refine qw hb ?_
    refine kr [34] ?_
    refine Ku env rfl rfl rfl rfl (m:=j0) rfl (Wg hx0 rfl) ?_
    refine kr [34] ?_
    refine qk (fun hb=> ?_) (fun hb=> ?_)
    ·replace h:=qu hb h
     refine kr [34] ?_
     refine qk (fun hb=> ?_) (fun hb=> ?_)
     ·replace h:=qu hb h
      refine kr [34] ?_
      refine qf (fun hb=> ?_) (fun hb=> ?_)
      ·replace h:=qu hb h
       refine kr [34] ?_
       cases h
       exact kf
      replace h:=qv hb h
      refine kr [34] ?_
      exact zb (by kernel_rfl) rfl lA (Qu _ _ _ _ _ h l0 j0 hd0 hk0 hm0)
     replace h:=qv hb h
     refine kr [34] ?_
     exact zb (by kernel_rfl) rfl lA (Qu _ _ _ _ _ h l0 j0 hd0 hk0 hm0)
    replace h:=qv hb h
    refine kr [34] ?_
    exact zb (by kernel_rfl) rfl lA (Qu _ _ _ _ _ h l0 j0 hd0 hk0 hm0)
 unfold qa at h
 intro l0 j0 hd0 hk0 hm0
 have hw0:=Wa hk0 hm0
 refine kr [34] ?_
 exact zp (by kernel_rfl) (qbg (by simp only [hw0];simp <;> (repeat' apply And.intro) <;> first | rfl) (by simp <;> (repeat' apply And.intro) <;> first | rfl)) (Ya _ _ _ _ _ h l0 (j0+1) hd0 hk0 hm0)
theorem Ya:PC4 J7 kl:=Kw.1
theorem Qu:PC4 Jd kz:=Kw.2
def uh (a0:(List Unit)) (a1:Int) (a2:BA) (a3:BA):Option (Decl × Bool):=
 vj a0 >>=fun x1=>
 kl x1 a1 a2 a3
@[reducible] def qir (a0:(List Unit)) (a1:Int) (a2:BA) (a3:BA) (r:Decl × Bool):Prop:=
  Fn Tryz.prog G 16 [(.sl 7 false (a0.map Unit.cells)),(.int .i64 a1),(.str a2),(.str a3)] (.tup [(.agg (Decl.cells r.1)),(.bool r.2)])
theorem Zc:PC4 qir uh:=fun a0 a1 a2 a3 r h=>by
 rw [uh.eq_def] at h
 refine zu (T:=tt) (N:=38) (rs:= [.cell 8 34, .tmp 9]) (fun vs w=>by simp) Tryz.func16 rfl rfl rfl rfl (by kernel_rfl) (ya rfl) (zn _ rfl) ?_
 refine kr [34] ?_
 obtain ⟨x1,hx,h⟩:=bind_some h
 refine qp (Kk _ _ hx) ?_
 refine kr [34] ?_
 refine qae 13 rfl (fun hm=> ?_)
 exact jv (by kernel_rfl) lA (Ya _ _ _ _ _ h x1 0 rfl (Nat.zero_le _) (Zj hm))
def Y3  : Option Bool:=
 Zf ([(File.mk (⟨#[97]⟩:BA) (⟨#[99,108,97,115,115,32,67,32,123,32,102,110,32,109,40,97,32,105,110,116,41,32,105,110,116,32,123,32,108,101,116,32,98,32,61,32,97,59,32,114,101,116,117,114,110,32,98,59,32,125,32,125,10]⟩:BA)),(File.mk (⟨#[98]⟩:BA) (⟨#[102,110]⟩:BA))]) >>=fun x1=>
 vj x1.1 >>=fun x2=>
 uh x1.1 (6:Int) (⟨#[67,46,109]⟩:BA) (⟨#[98]⟩:BA) >>=fun x3=>
 uh x1.1 (1:Int) (⟨#[]⟩:BA) (⟨#[109]⟩:BA) >>=fun x4=>
 if (decide (x1.2=(0:Int)))=true then
  if (decide (((x1.1.map Unit.cells).length:Int)=(2:Int)))=true then
   ix x1.1 (0:Int) >>=fun x5=>
   if (!x5.Broken)=true then
    ix x1.1 (1:Int) >>=fun x6=>
    if x6.Broken=true then
     if (decide (((x2.map Decl.cells).length:Int)=(4:Int)))=true then
      ix x2 (1:Int) >>=fun x7=>
      if (decide (x7.Kind=(4:Int)))=true then
       ix x2 (1:Int) >>=fun x8=>
       if (decide (x8.Owner=(⟨#[67]⟩:BA)))=true then
        ix x2 (2:Int) >>=fun x9=>
        if (decide (x9.Owner=(⟨#[67,46,109]⟩:BA)))=true then
         if x3.2=true then
          ix x2 (3:Int) >>=fun x10=>
          if (decide (x3.1.Kind=x10.Kind) && (decide (x3.1.Owner=x10.Owner) && (decide (x3.1.Name=x10.Name) && (decide (x3.1.At.Unit=x10.At.Unit) && (decide (x3.1.At.Node=x10.At.Node) && true)))))=true then
           if (!x4.2)=true then
            Qq ([(File.mk (⟨#[98]⟩:BA) (⟨#[]⟩)),(File.mk (⟨#[97]⟩:BA) (⟨#[]⟩))]) >>=fun x11=>
            some (decide (x11=(14:Int)))
           else
            some false
          else
           some false
         else
          some false
        else
         some false
       else
        some false
      else
       some false
     else
      some false
    else
     some false
   else
    some false
  else
   some false
 else
  some false
@[reducible] def qmo  (r:Bool):Prop:=
  Fn Tryz.prog G 9 [] (.bool r)
theorem qfs :PC0 qmo Y3:=fun  r h=>by
 rw [Y3.eq_def] at h
 refine zu (T:=tt) (N:=94) (rs:= [.tmp 0]) (fun vs w=>by simp) Tryz.func9 rfl rfl rfl rfl (by kernel_rfl) (ya rfl) (zn _ rfl) ?_
 refine kr [] ?_
 obtain ⟨x1,hx,h⟩:=bind_some h
 refine qp (Fn.wk (qiv _ _ hx) (qmx (q0r (.inl rfl)) qpw)) ?_
 refine kr [] ?_
 obtain ⟨x2,hx,h⟩:=bind_some h
 refine qp (Kk _ _ hx) ?_
 refine kr [] ?_
 obtain ⟨x3,hx,h⟩:=bind_some h
 refine qp (Zc _ _ _ _ _ hx) ?_
 refine kr [] ?_
 obtain ⟨x4,hx,h⟩:=bind_some h
 refine qp (Zc _ _ _ _ _ hx) ?_
 refine kr [] ?_
 refine qk (fun hb=> ?_) (fun hb=> ?_)
 ·replace h :=qu hb h
  refine kr [] ?_
  refine qk (fun hb=> ?_) (fun hb=> ?_)
  ·replace h :=qu hb h
   refine kr [] ?_
   obtain ⟨x5,hx,h⟩:=bind_some h
   refine je env hx rfl rfl rfl rfl rfl ?_
   refine kr [] ?_
   refine qk (fun hb=> ?_) (fun hb=> ?_)
   ·replace h:=qu hb h
    refine kr [] ?_
    obtain ⟨x6,hx,h⟩:=bind_some h
    refine je env hx rfl rfl rfl rfl rfl ?_
    refine kr [] ?_
    refine qk (fun hb=> ?_) (fun hb=> ?_)
    ·replace h:=qu hb h
     refine kr [] ?_
     refine qk (fun hb=> ?_) (fun hb=> ?_)
     ·replace h:=qu hb h
      refine kr [] ?_
      obtain ⟨x7,hx,h⟩:=bind_some h
      refine je env hx rfl rfl rfl rfl rfl ?_
      refine kr [] ?_
      refine qk (fun hb=> ?_) (fun hb=> ?_)
      ·replace h:=qu hb h
       refine kr [] ?_
       obtain ⟨x8,hx,h⟩:=bind_some h
       refine je env hx rfl rfl rfl rfl rfl ?_
       refine kr [] ?_
       refine qk (fun hb=> ?_) (fun hb=> ?_)
       ·replace h:=qu hb h
        refine kr [] ?_
        obtain ⟨x9,hx,h⟩:=bind_some h
        refine je env hx rfl rfl rfl rfl rfl ?_
        refine kr [] ?_
        refine qk (fun hb=> ?_) (fun hb=> ?_)
        ·replace h:=qu hb h
         refine kr [] ?_
         refine qk (fun hb=> ?_) (fun hb=> ?_)
         ·replace h:=qu hb h
          refine kr [] ?_
          obtain ⟨x10,hx,h⟩:=bind_some h
          refine je env hx rfl rfl rfl rfl rfl ?_
          refine kr [] ?_
          refine qk (fun hb=> ?_) (fun hb=> ?_)
          ·replace h:=qu hb h
           refine kr [] ?_
           refine qk (fun hb=> ?_) (fun hb=> ?_)
           ·replace h:=qu hb h
            refine kr [] ?_
            obtain ⟨x11,hx,h⟩:=bind_some h
            refine qp (Fn.wk (qbl _ _ hx) (qmx (q0r (.inl rfl)) qpw)) ?_
            refine kr [] ?_
            cases h
            exact kf
           replace h:=qv hb h
           refine kr [] ?_
           cases h
           exact kf
          replace h:=qv hb h
          refine kr [] ?_
          cases h
          exact kf
         replace h:=qv hb h
         refine kr [] ?_
         cases h
         exact kf
        replace h:=qv hb h
        refine kr [] ?_
        cases h
        exact kf
       replace h:=qv hb h
       refine kr [] ?_
       cases h
       exact kf
      replace h:=qv hb h
      refine kr [] ?_
      cases h
      exact kf
     replace h:=qv hb h
     refine kr [] ?_
     cases h
     exact kf
    replace h:=qv hb h
    refine kr [] ?_
    cases h
    exact kf
   replace h:=qv hb h
   refine kr [] ?_
   cases h
   exact kf
  replace h:=qv hb h
  refine kr [] ?_
  cases h
  exact kf
 replace h:=qv hb h
 refine kr [] ?_
 cases h
 exact kf
mutual
def Y2 (a0:Node) (a1:Int) (a2:Int):Option Int:=
 if (decide (a1 < (1:Int)))=true then
  some (-1:Int)
 else
  if (decide (a2 < (1:Int)))=true then
   some (-1:Int)
  else
   if (decide (a1 < ((a0.kids.map Node.cells).length:Int)))=true then
    some (-1:Int)
   else
    vy (qa a2) (IntKind.i64.wrap (a1 - (1:Int))) (0:Int) (qa a0)
 partial_fixpoint
def vy (t2:Int) (t7:Int) (t8:Int) (o0:Node):Option Int:=
 if (decide (t8 < ((o0.kids.map Node.cells).length:Int)))=true then
  ix o0.kids t8 >>=fun x1=>
  Y2 (qa x1) (qa t7) (IntKind.i64.wrap (t2 - (1:Int))) >>=fun x2=>
  if (decide (x2 < (0:Int)))=true then
   some (-1:Int)
  else
   vy (qa t2) (qa x2) (IntKind.i64.wrap (t8+(1:Int))) (qa o0)
 else
  some t7
 partial_fixpoint
end
@[reducible] def qej (a0:Node) (a1:Int) (a2:Int) (r:Int):Prop:=
  Fn Tryz.prog G 63 [(.agg (zo a0)),(.int .i64 a1),(.int .i64 a2)] (.int .i64 r)
@[reducible] def qa4 (t2:Int) (t7:Int) (t8:Int) (o0:Node) (r:Int):Prop:=
  Ok Tryz.prog G tt 43 0 (Ret Tryz.prog [.tmp 6] (fun y H=>Told Tryz.prog G H y (.int .i64 r))) (.again (jy [] Tryz.f63 0).1 (jy [] Tryz.f63 0).2 (.n .undef (.n .undef (.n (.ptr 0 0 0) (.n (.int .i64 t7) .z .z) .z) .z) (.n (.int .i64 t2) (.n .undef (.n (.int .i64 t8) .z .z) .z) .z)) 1 [(0, .var 45 (zo o0))])
theorem qfu:PC3 qej Y2∧PC4 qa4 vy:=by
 refine Y2.mutual_partial_correctness qej qa4 (fun vy Km a0 a1 a2 r h=> ?_) (fun Y2 vy qen Km t2 t7 t8 o0 r h=> ?_)
 ·unfold qa at h
  refine zu (T:=tt) (N:=43) (rs:= [.tmp 6]) (fun vs w=>by simp) Tryz.func63 rfl rfl rfl rfl (by kernel_rfl) (ya rfl) (zn _ rfl) ?_
  refine kr [] ?_
  refine qq (fun hb=> ?_) (fun hb=> ?_)
  ·replace h:=qv hb h
   refine kr [] ?_
   refine qq (fun hb=> ?_) (fun hb=> ?_)
   ·replace h:=qv hb h
    refine kr [] ?_
    refine qf (fun hb=> ?_) (fun hb=> ?_)
    ·replace h:=qu hb h
     refine kr [] ?_
     cases h
     exact kf
    replace h:=qv hb h
    refine kr [] ?_
    exact jv (by kernel_rfl) lA (Km _ _ _ _ _ h)
   replace h:=qu hb h
   refine kr [] ?_
   cases h
   exact kf
  replace h:=qu hb h
  refine kr [] ?_
  cases h
  exact kf
 unfold qa at h
 refine yc ?_
 refine kr [] ?_
 refine qf (fun hb=> ?_) (fun hb=> ?_)
 ·replace h:=qu hb h
  refine kr [] ?_
  obtain ⟨x1,hx,h⟩:=bind_some h
  refine je env hx rfl rfl rfl rfl (Node.cells_eq x1) ?_
  refine kr [] ?_
  obtain ⟨x2,hx,h⟩:=bind_some h
  refine qp (qen _ _ _ _ hx) ?_
  refine kr [] ?_
  refine qf (fun hb=> ?_) (fun hb=> ?_)
  ·replace h:=qu hb h
   refine kr [] ?_
   cases h
   exact kf
  replace h:=qv hb h
  refine kr [] ?_
  exact zp (by kernel_rfl) lA (Km _ _ _ _ _ h)
 replace h:=qv hb h
 refine kr [] ?_
 cases h
 exact kf
theorem qen:PC3 qej Y2:=qfu.1
theorem Km:PC4 qa4 vy:=qfu.2
def qfd (a0:Node) (a1:Int) (a2:Int):Option Bool:=
 Y2 a0 a1 a2 >>=fun x1=>
 some (decide ((0:Int)≤x1))
@[reducible] def qrw (a0:Node) (a1:Int) (a2:Int) (r:Bool):Prop:=
  Fn Tryz.prog G 40 [(.agg (zo a0)),(.int .i64 a1),(.int .i64 a2)] (.bool r)
theorem qrx:PC3 qrw qfd:=fun a0 a1 a2 r h=>by
 rw [qfd.eq_def] at h
 refine zu (T:=tt) (N:=12) (rs:= [.tmp 6]) (fun vs w=>by simp) Tryz.func40 rfl rfl rfl rfl (by kernel_rfl) (ya rfl) (zn _ rfl) ?_
 refine kr [] ?_
 obtain ⟨x1,hx,h⟩:=bind_some h
 refine qp (qen _ _ _ _ hx) ?_
 refine kr [] ?_
 cases h
 exact kf
mutual
def Q4 (a0:Node) (a1:Int):Option Int:=
 if (decide (a1 < (a0.text.size:Int)))=true then
  some (-1:Int)
 else
  if (decide (a1 < ((a0.gaps.map sc).length:Int)))=true then
   some (-1:Int)
  else
   u0 (IntKind.i64.wrap (a1 - (a0.text.size:Int))) (0:Int) (qa a0)
 partial_fixpoint
def u0 (t5:Int) (t6:Int) (o0:Node):Option Int:=
 if (decide (t6 < ((o0.gaps.map sc).length:Int)))=true then
  ix o0.gaps t6 >>=fun x1=>
  if (decide (t5≤(x1.size:Int)))=true then
   some (-1:Int)
  else
   ix o0.gaps t6 >>=fun x2=>
   u0 (IntKind.i64.wrap ((IntKind.i64.wrap (t5 - (x2.size:Int))) - (1:Int))) (IntKind.i64.wrap (t6+(1:Int))) (qa o0)
 else
  uz (qa t5) (0:Int) (qa o0)
 partial_fixpoint
def uz (t5:Int) (t7:Int) (o0:Node):Option Int:=
 if (decide (t7 < ((o0.kids.map Node.cells).length:Int)))=true then
  ix o0.kids t7 >>=fun x3=>
  Q4 (qa x3) (qa t5) >>=fun x4=>
  if (decide (x4 < (0:Int)))=true then
   some (-1:Int)
  else
   uz (qa x4) (IntKind.i64.wrap (t7+(1:Int))) (qa o0)
 else
  some t5
 partial_fixpoint
end
@[reducible] def qdi (a0:Node) (a1:Int) (r:Int):Prop:=
  Fn Tryz.prog G 41 [(.agg (zo a0)),(.int .i64 a1)] (.int .i64 r)
@[reducible] def Wz (t5:Int) (t6:Int) (o0:Node) (r:Int):Prop:=
  Ok Tryz.prog G tt 66 0 (Ret Tryz.prog [.tmp 4] (fun y H=>Told Tryz.prog G H y (.int .i64 r))) (.again (jy [] Tryz.f41 0).1 (jy [] Tryz.f41 0).2 (.n .undef (.n .undef .z (.n (.int .i64 t5) .z .z)) (.n (.ptr 0 0 0) .z (.n (.int .i64 t6) .z .z))) 1 [(0, .var 45 (zo o0))])
@[reducible] def Wy (t5:Int) (t7:Int) (o0:Node) (r:Int):Prop:=
  Ok Tryz.prog G tt 66 0 (Ret Tryz.prog [.tmp 4] (fun y H=>Told Tryz.prog G H y (.int .i64 r))) (.again (jy [] Tryz.f41 1).1 (jy [] Tryz.f41 1).2 (.n .undef (.n .undef (.n .undef (.n (.int .i64 t7) .z .z) .z) (.n (.int .i64 t5) .z .z)) (.n (.ptr 0 0 0) .z .z)) 1 [(0, .var 45 (zo o0))])
theorem qa8:PC2 qdi Q4∧PC3 Wz u0∧PC3 Wy uz:=by
 refine Q4.mutual_partial_correctness qdi Wz Wy (fun u0 Yl a0 a1 r h=> ?_) (fun u0 uz Yl Yk t5 t6 o0 r h=> ?_) (fun Q4 uz qdj Yk t5 t7 o0 r h=> ?_)
 ·unfold qa at h
  refine zu (T:=tt) (N:=66) (rs:= [.tmp 4]) (fun vs w=>by simp) Tryz.func41 rfl rfl rfl rfl (by kernel_rfl) (ya rfl) (zn _ rfl) ?_
  refine kr [] ?_
  refine qq (fun hb=> ?_) (fun hb=> ?_)
  ·replace h:=qv hb h
   refine kr [] ?_
   refine qf (fun hb=> ?_) (fun hb=> ?_)
   ·replace h:=qu hb h
    refine kr [] ?_
    cases h
    exact kf
   replace h:=qv hb h
   refine kr [] ?_
   exact jv (by kernel_rfl) lA (Yl _ _ _ _ h)
  replace h:=qu hb h
  refine kr [] ?_
  cases h
  exact kf
 ·unfold qa at h
  refine yc ?_
  refine kr [] ?_
  refine qf (fun hb=> ?_) (fun hb=> ?_)
  ·replace h:=qu hb h
   refine kr [] ?_
   obtain ⟨x1,hx,h⟩:=bind_some h
   refine je env hx rfl rfl rfl rfl rfl ?_
   refine kr [] ?_
   refine qf (fun hb=> ?_) (fun hb=> ?_)
   ·replace h:=qu hb h
    refine kr [] ?_
    cases h
    exact kf
   replace h:=qv hb h
   refine kr [] ?_
   obtain ⟨x2,hx,h⟩:=bind_some h
   refine je env hx rfl rfl rfl rfl rfl ?_
   refine kr [] ?_
   exact zp (by kernel_rfl) lA (Yl _ _ _ _ h)
  replace h:=qv hb h
  refine kr [] ?_
  exact jv (by kernel_rfl) lA (Yk _ _ _ _ h)
 unfold qa at h
 refine yc ?_
 refine kr [] ?_
 refine qf (fun hb=> ?_) (fun hb=> ?_)
 ·replace h:=qu hb h
  refine kr [] ?_
  obtain ⟨x3,hx,h⟩:=bind_some h
  refine je env hx rfl rfl rfl rfl (Node.cells_eq x3) ?_
  refine kr [] ?_
  obtain ⟨x4,hx,h⟩:=bind_some h
  refine qp (qdj _ _ _ hx) ?_
  refine kr [] ?_
  refine qf (fun hb=> ?_) (fun hb=> ?_)
  ·replace h:=qu hb h
   refine kr [] ?_
   cases h
   exact kf
  replace h:=qv hb h
  refine kr [] ?_
  exact zp (by kernel_rfl) lA (Yk _ _ _ _ h)
 replace h:=qv hb h
 refine kr [] ?_
 cases h
 exact kf
theorem qdj:PC2 qdi Q4:=qa8.1
theorem Yl:PC3 Wz u0:=qa8.2.1
theorem Yk:PC3 Wy uz:=qa8.2.2
def qa7 (a0:Node) (a1:Int) (a2:Int) (a3:Int):Option Bool:=
 qfd a0 a1 a2 >>=fun x1=>
 if x1=true then
  Q4 a0 a3 >>=fun x2=>
  some (decide ((0:Int)≤x2))
 else
  some false
@[reducible] def qpg (a0:Node) (a1:Int) (a2:Int) (a3:Int) (r:Bool):Prop:=
  Fn Tryz.prog G 22 [(.agg (zo a0)),(.int .i64 a1),(.int .i64 a2),(.int .i64 a3)] (.bool r)
theorem qph:PC4 qpg qa7:=fun a0 a1 a2 a3 r h=>by
 rw [qa7.eq_def] at h
 refine zu (T:=tt) (N:=19) (rs:= [.tmp 8]) (fun vs w=>by simp) Tryz.func22 rfl rfl rfl rfl (by kernel_rfl) (ya rfl) (zn _ rfl) ?_
 refine kr [] ?_
 obtain ⟨x1,hx,h⟩:=bind_some h
 refine qp (qrx _ _ _ _ hx) ?_
 refine kr [] ?_
 refine qk (fun hb=> ?_) (fun hb=> ?_)
 ·replace h:=qu hb h
  refine kr [] ?_
  obtain ⟨x2,hx,h⟩:=bind_some h
  refine qp (qdj _ _ _ hx) ?_
  refine kr [] ?_
  cases h
  exact kf
 replace h:=qv hb h
 refine kr [] ?_
 cases h
 exact kf
def u5 (t0:(List Unit)) (t3:Int):Option Bool:=
 if (decide (t3 < ((t0.map Unit.cells).length:Int)))=true then
  ix t0 t3 >>=fun x1=>
  qa7 x1.Tree (300:Int) (60:Int) (4000:Int) >>=fun x2=>
  if (!x2)=true then
   some false
  else
   u5 (qa t0) (IntKind.i64.wrap (t3+(1:Int)))
 else
  some true
 partial_fixpoint
@[reducible] def qcr (t0:(List Unit)) (t3:Int) (r:Bool):Prop:=
  Ok Tryz.prog G tt 20 0 (Ret Tryz.prog [.tmp 2] (fun y H=>Told Tryz.prog G H y (.bool r))) (.again (jy [] Tryz.f15 0).1 (jy [] Tryz.f15 0).2 (.n (.sl 7 false (t0.map Unit.cells)) (.n .undef (.n (.int .i64 t3) .z .z) .z) .z) 0 [])
theorem K8:PC2 qcr u5:=by
 refine u5.partial_correctness qcr (fun u5 K8 t0 t3 r h=> ?_)
 unfold qa at h
 refine yc ?_
 refine kr [] ?_
 refine qf (fun hb=> ?_) (fun hb=> ?_)
 ·replace h:=qu hb h
  refine kr [] ?_
  obtain ⟨x1,hx,h⟩:=bind_some h
  refine je env hx rfl rfl rfl rfl rfl ?_
  refine kr [] ?_
  obtain ⟨x2,hx,h⟩:=bind_some h
  refine qp (qph _ _ _ _ _ hx) ?_
  refine kr [] ?_
  refine qf (fun hb=> ?_) (fun hb=> ?_)
  ·replace h:=qu hb h
   refine kr [] ?_
   cases h
   exact kf
  replace h:=qv hb h
  refine kr [] ?_
  exact zp (by kernel_rfl) lA (K8 _ _ _ h)
 replace h:=qv hb h
 refine kr [] ?_
 cases h
 exact kf
def Wq (a0:(List Unit)):Option Bool:=
 if (decide ((4:Int) < ((a0.map Unit.cells).length:Int)))=true then
  some false
 else
  u5 a0 (0:Int)
@[reducible] def qmn (a0:(List Unit)) (r:Bool):Prop:=
  Fn Tryz.prog G 15 [(.sl 7 false (a0.map Unit.cells))] (.bool r)
theorem qms:PC1 qmn Wq:=fun a0 r h=>by
 rw [Wq.eq_def] at h
 refine zu (T:=tt) (N:=20) (rs:= [.tmp 2]) (fun vs w=>by simp) Tryz.func15 rfl rfl rfl rfl (by kernel_rfl) (ya rfl) (zn _ rfl) ?_
 refine kr [] ?_
 refine qf (fun hb=> ?_) (fun hb=> ?_)
 ·replace h:=qu hb h
  refine kr [] ?_
  cases h
  exact kf
 replace h:=qv hb h
 refine kr [] ?_
 exact jv (by kernel_rfl) lA (K8 _ _ _ h)
mutual
def J2 (a0:Node) (a1:Int):Option (Node × Int × Bool):=
 if (decide (a1=(0:Int)))=true then
  some (a0,(0:Int),true)
 else
  u1 (IntKind.i64.wrap (a1 - (1:Int))) (0:Int) (qa a0)
 partial_fixpoint
def u1 (t7:Int) (t8:Int) (o0:Node):Option (Node × Int × Bool):=
 if (decide (t8 < ((o0.kids.map Node.cells).length:Int)))=true then
  ix o0.kids t8 >>=fun x1=>
  J2 (qa x1) (qa t7) >>=fun x2=>
  if x2.2.2=true then
   some (x2.1,(0:Int),true)
  else
   u1 x2.2.1 (IntKind.i64.wrap (t8+(1:Int))) (qa o0)
 else
  some ((Node.mk 0 (⟨#[]⟩) ([]:LB) ([]:LN)),t7,false)
 partial_fixpoint
end
@[reducible] def qek (a0:Node) (a1:Int) (r:Node × Int × Bool):Prop:=
  Fn Tryz.prog G 62 [(.agg (zo a0)),(.int .i64 a1)] (.tup [(.agg (zo r.1)),(.int .i64 r.2.1),(.bool r.2.2)])
@[reducible] def qa5 (t7:Int) (t8:Int) (o0:Node) (r:Node × Int × Bool):Prop:=
  Ok Tryz.prog G tt 40 0 (Ret Tryz.prog [.cell 4 45, .tmp 5, .tmp 6] (fun y H=>Told Tryz.prog G H y (.tup [(.agg (zo r.1)),(.int .i64 r.2.1),(.bool r.2.2)]))) (.again (jy [] Tryz.f62 0).1 (jy [] Tryz.f62 0).2 (.n .undef (.n .undef (.n .undef (.n (.int .i64 t7) .z .z) .z) .z) (.n (.ptr 0 0 0) (.n (.ptr 1 1 0) (.n (.int .i64 t8) .z .z) .z) .z)) 2 [(0, .var 45 (zo o0)),(1, .var 45 [(.int .i64 0),(.str ⟨#[]⟩),(.sl 0 true []),(.sl 0 true [])])])
theorem qfv:PC2 qek J2∧PC3 qa5 u1:=by
 refine J2.mutual_partial_correctness qek qa5 (fun u1 Kn a0 a1 r h=> ?_) (fun J2 u1 qeo Kn t7 t8 o0 r h=> ?_)
 ·unfold qa at h
  refine zu (T:=tt) (N:=40) (rs:= [.cell 4 45, .tmp 5, .tmp 6]) (fun vs w=>by simp) Tryz.func62 rfl rfl rfl rfl (by kernel_rfl) (ya rfl) (zn _ rfl) ?_
  refine kr [] ?_
  refine qf (fun hb=> ?_) (fun hb=> ?_)
  ·replace h:=qu hb h
   refine kr [] ?_
   cases h
   exact kf
  replace h:=qv hb h
  refine kr [] ?_
  exact jv (by kernel_rfl) lA (Kn _ _ _ _ h)
 unfold qa at h
 refine yc ?_
 refine kr [] ?_
 refine qf (fun hb=> ?_) (fun hb=> ?_)
 ·replace h:=qu hb h
  refine kr [] ?_
  obtain ⟨x1,hx,h⟩:=bind_some h
  refine je env hx rfl rfl rfl rfl (Node.cells_eq x1) ?_
  refine kr [] ?_
  obtain ⟨x2,hx,h⟩:=bind_some h
  refine qp (qeo _ _ _ hx) ?_
  refine kr [] ?_
  refine qf (fun hb=> ?_) (fun hb=> ?_)
  ·replace h:=qu hb h
   refine kr [] ?_
   cases h
   exact kf
  replace h:=qv hb h
  refine kr [] ?_
  exact zp (by kernel_rfl) lA (Kn _ _ _ _ h)
 replace h:=qv hb h
 refine kr [] ?_
 cases h
 exact jz env rfl rfl (Js (Yu (j8 (qkb (vc (zm rfl) (vc (jn rfl) (vc (y5 (.inr rfl)) (vc (y5 (.inr rfl)) qh5))))) (j8 (w9 (zm rfl) (by simp)) (j8 (w9 (qcv rfl) (by simp)) Z7)))))
theorem qeo:PC2 qek J2:=qfv.1
theorem Kn:PC3 qa5 u1:=qfv.2
def qfe (a0:Node) (a1:Int):Option (Node × Bool):=
 if (decide (a1 < (0:Int)))=true then
  some ((Node.mk 0 (⟨#[]⟩) ([]:LB) ([]:LN)),false)
 else
  J2 a0 a1 >>=fun x1=>
  some (x1.1,x1.2.2)
@[reducible] def qwi (a0:Node) (a1:Int) (r:Node × Bool):Prop:=
  Fn Tryz.prog G 39 [(.agg (zo a0)),(.int .i64 a1)] (.tup [(.agg (zo r.1)),(.bool r.2)])
theorem qwj:PC2 qwi qfe:=fun a0 a1 r h=>by
 rw [qfe.eq_def] at h
 refine zu (T:=tt) (N:=21) (rs:= [.cell 4 45, .tmp 5]) (fun vs w=>by simp) Tryz.func39 rfl rfl rfl rfl (by kernel_rfl) (ya rfl) (zn _ rfl) ?_
 refine kr [] ?_
 refine qf (fun hb=> ?_) (fun hb=> ?_)
 ·replace h:=qu hb h
  refine kr [] ?_
  cases h
  exact jz env rfl rfl (Js (Yu (j8 (qkb (vc (zm rfl) (vc (jn rfl) (vc (y5 (.inr rfl)) (vc (y5 (.inr rfl)) qh5))))) (j8 (w9 (qcv rfl) (by simp)) Z7))))
 replace h:=qv hb h
 refine kr [] ?_
 obtain ⟨x1,hx,h⟩:=bind_some h
 refine qp (qeo _ _ _ hx) ?_
 refine kr [] ?_
 cases h
 exact kf
def Jo (a0 :(List Unit)) (a1:Decl):Option Bool:=
 if (decide (a1.At.Unit < (0:Int)))=true then
  some false
 else
  if (decide (((a0.map Unit.cells).length:Int)≤a1.At.Unit))=true then
   some false
  else
   ix a0 a1.At.Unit >>=fun x1=>
   if x1.Broken=true then
    some false
   else
    ix a0 a1.At.Unit >>=fun x2=>
    qfe x2.Tree a1.At.Node >>=fun x3=>
    if (!x3.2)=true then
     some false
    else
     if (!decide (x3.1.text=a1.Name))=true then
      some false
     else
      if (decide (x3.1.kind=(2:Int)))=true then
       if (decide (a1.Kind=(1:Int)))=true then
        if (decide (a1.Owner=(⟨#[]⟩:BA)))=true then
         some true
        else
         some (decide (a1.Kind=(4:Int)))
       else
        some (decide (a1.Kind=(4:Int)))
      else
       if (decide (x3.1.kind=(7:Int)))=true then
        if (decide (a1.Kind=(2:Int)))=true then
         some (decide (a1.Owner=(⟨#[]⟩:BA)))
        else
         some false
       else
        if (decide (x3.1.kind=(9:Int)))=true then
         if (decide (a1.Kind=(3:Int)))=true then
          some (decide (a1.Owner=(⟨#[]⟩:BA)))
         else
          some false
        else
         if (decide (x3.1.kind=(4:Int)))=true then
          some (decide (a1.Kind=(5:Int)))
         else
          if (decide (x3.1.kind=(10:Int)))=true then
           some (decide (a1.Kind=(6:Int)))
          else
           some false
@[reducible] def qis (a0:(List Unit)) (a1:Decl) (r:Bool):Prop:=
  Fn Tryz.prog G 21 [(.sl 7 false (a0.map Unit.cells)),(.agg (Decl.cells a1))] (.bool r)
theorem qix:PC2 qis Jo:=fun a0 a1 r h=>by
 rw [Jo.eq_def] at h
 refine zu (T:=tt) (N:=98) (rs:= [.tmp 4]) (fun vs w=>by simp) Tryz.func21 rfl rfl rfl rfl (by kernel_rfl) (ya rfl) (zn _ rfl) ?_
 refine kr [] ?_
 refine qq (fun hb=> ?_) (fun hb=> ?_)
 ·replace h:=qv hb h
  refine kr [] ?_
  refine qq (fun hb=> ?_) (fun hb=> ?_)
  ·replace h:=qv hb h
   refine kr [] ?_
   obtain ⟨x1,hx,h⟩:=bind_some h
   refine je env hx rfl rfl rfl rfl rfl ?_
   refine kr [] ?_
   refine qf (fun hb=> ?_) (fun hb=> ?_)
   ·replace h:=qu hb h
    refine kr [] ?_
    cases h
    exact kf
   replace h:=qv hb h
   refine kr [] ?_
   obtain ⟨x2,hx,h⟩:=bind_some h
   refine je env hx rfl rfl rfl rfl rfl ?_
   refine kr [] ?_
   obtain ⟨x3,hx,h⟩:=bind_some h
   refine qp (qwj _ _ _ hx) ?_
   refine kr [] ?_
   refine qq (fun hb=> ?_) (fun hb=> ?_)
   ·replace h:=qv hb h
    refine kr [] ?_
    refine qf (fun hb=> ?_) (fun hb=> ?_)
    ·replace h:=qu hb h
     refine kr [] ?_
     cases h
     exact kf
    replace h:=qv hb h
    refine kr [] ?_
    refine qf (fun hb=> ?_) (fun hb=> ?_)
    ·replace h:=qu hb h
     refine kr [] ?_
     refine qk (fun hb=> ?_) (fun hb=> ?_)
     ·replace h:=qu hb h
      refine kr [] ?_
      refine qq (fun hb=> ?_) (fun hb=> ?_)
      ·replace h:=qv hb h
       refine kr [] ?_
       cases h
       exact kf
      replace h:=qu hb h
      refine kr [] ?_
      cases h
      exact kf
     replace h:=qv hb h
     refine kr [] ?_
     cases h
     exact kf
    replace h:=qv hb h
    refine kr [] ?_
    refine qf (fun hb=> ?_) (fun hb=> ?_)
    ·replace h:=qu hb h
     refine kr [] ?_
     refine qk (fun hb=> ?_) (fun hb=> ?_)
     ·replace h:=qu hb h
      refine kr [] ?_
      cases h
      exact kf
     replace h:=qv hb h
     refine kr [] ?_
     cases h
     exact kf
    replace h:=qv hb h
    refine kr [] ?_
    refine qf (fun hb=> ?_) (fun hb=> ?_)
    ·replace h:=qu hb h
     refine kr [] ?_
     refine qk (fun hb=> ?_) (fun hb=> ?_)
     ·replace h:=qu hb h
      refine kr [] ?_
      cases h
      exact kf
     replace h:=qv hb h
     refine kr [] ?_
     cases h
     exact kf
    replace h:=qv hb h
    refine kr [] ?_
    refine qf (fun hb=> ?_) (fun hb=> ?_)
    ·replace h:=qu hb h
     refine kr [] ?_
     cases h
     exact kf
    replace h:=qv hb h
    refine kr [] ?_
    refine qf (fun hb=> ?_) (fun hb=> ?_)
    ·replace h:=qu hb h
     refine kr [] ?_
     cases h
     exact kf
    replace h:=qv hb h
    refine kr [] ?_
    cases h
    exact kf
   replace h:=qu hb h
   refine kr [] ?_
   cases h
   exact kf
  replace h:=qu hb h
  refine kr [] ?_
  cases h
  exact kf
 replace h:=qu hb h
 refine kr [] ?_
 cases h
 exact kf
def zl (t0 : (List Unit)) (t3:(List Decl)) (t4:Int):Option Bool:=
 if (decide (t4 < ((t3.map Decl.cells).length:Int)))=true then
  ix t3 t4 >>=fun x4=>
  Jo (qa t0) (qa x4) >>=fun x5=>
  if (!x5)=true then
   some false
  else
   if (decide ((0:Int) < t4))=true then
    ix t3 (IntKind.i64.wrap (t4 - (1:Int))) >>=fun x6=>
    ix t3 t4 >>=fun x7=>
    if (decide (x7.At.Unit < x6.At.Unit))=true then
     some false
    else
     ix t3 (IntKind.i64.wrap (t4 - (1:Int))) >>=fun x8=>
     ix t3 t4 >>=fun x9=>
     if (decide (x8.At.Unit=x9.At.Unit))=true then
      ix t3 (IntKind.i64.wrap (t4 - (1:Int))) >>=fun x10=>
      ix t3 t4 >>=fun x11=>
      if (decide (x11.At.Node≤x10.At.Node))=true then
       some false
      else
       ix t3 t4 >>=fun x12=>
       ix t3 t4 >>=fun x13=>
       ix t3 t4 >>=fun x14=>
       uh (qa t0) x12.Kind x13.Owner x14.Name >>=fun x15=>
       if (!x15.2)=true then
        some false
       else
        ix t3 t4 >>=fun x16=>
        if (!decide (x15.1.Kind=x16.Kind))=true then
         some false
        else
         ix t3 t4 >>=fun x17=>
         if (!decide (x15.1.Owner=x17.Owner))=true then
          some false
         else
          ix t3 t4 >>=fun x18=>
          if (!decide (x15.1.Name=x18.Name))=true then
           some false
          else
           ix t3 t4 >>=fun x19=>
           if (decide (x19.At.Unit < x15.1.At.Unit))=true then
            some false
           else
            ix t3 t4 >>=fun x20=>
            if (decide (x15.1.At.Unit=x20.At.Unit))=true then
             ix t3 t4 >>=fun x21=>
             if (decide (x21.At.Node < x15.1.At.Node))=true then
              some false
             else
              zl (qa t0) (qa t3) (IntKind.i64.wrap (t4+(1:Int)))
            else
             zl (qa t0) (qa t3) (IntKind.i64.wrap (t4+(1:Int)))
     else
      ix t3 t4 >>=fun x22=>
      ix t3 t4 >>=fun x23=>
      ix t3 t4 >>=fun x24=>
      uh (qa t0) x22.Kind x23.Owner x24.Name >>=fun x25=>
      if (!x25.2)=true then
       some false
      else
       ix t3 t4 >>=fun x26=>
       if (!decide (x25.1.Kind=x26.Kind))=true then
        some false
       else
        ix t3 t4 >>=fun x27=>
        if (!decide (x25.1.Owner=x27.Owner))=true then
         some false
        else
         ix t3 t4 >>=fun x28=>
         if (!decide (x25.1.Name=x28.Name))=true then
          some false
         else
          ix t3 t4 >>=fun x29=>
          if (decide (x29.At.Unit < x25.1.At.Unit))=true then
           some false
          else
           ix t3 t4 >>=fun x30=>
           if (decide (x25.1.At.Unit=x30.At.Unit))=true then
            ix t3 t4 >>=fun x31=>
            if (decide (x31.At.Node < x25.1.At.Node))=true then
             some false
            else
             zl (qa t0) (qa t3) (IntKind.i64.wrap (t4+(1:Int)))
           else
            zl (qa t0) (qa t3) (IntKind.i64.wrap (t4+(1:Int)))
   else
    ix t3 t4 >>=fun x32=>
    ix t3 t4 >>=fun x33=>
    ix t3 t4 >>=fun x34=>
    uh (qa t0) x32.Kind x33.Owner x34.Name >>=fun x35=>
    if (!x35.2)=true then
     some false
    else
     ix t3 t4 >>=fun x36=>
     if (!decide (x35.1.Kind=x36.Kind))=true then
      some false
     else
      ix t3 t4 >>=fun x37=>
      if (!decide (x35.1.Owner=x37.Owner))=true then
       some false
      else
       ix t3 t4 >>=fun x38=>
       if (!decide (x35.1.Name=x38.Name))=true then
        some false
       else
        ix t3 t4 >>=fun x39=>
        if (decide (x39.At.Unit < x35.1.At.Unit))=true then
         some false
        else
         ix t3 t4 >>=fun x40=>
         if (decide (x35.1.At.Unit=x40.At.Unit))=true then
          ix t3 t4 >>=fun x41=>
          if (decide (x41.At.Node < x35.1.At.Node))=true then
           some false
          else
           zl (qa t0) (qa t3) (IntKind.i64.wrap (t4+(1:Int)))
         else
          zl (qa t0) (qa t3) (IntKind.i64.wrap (t4+(1:Int)))
 else
  Y3 >>=fun x42=>
  some x42
 partial_fixpoint
@[reducible] def Yy (t0:(List Unit)) (t3:(List Decl)) (t4:Int) (r:Bool):Prop:=
  Ok Tryz.prog G tt 167 0 (Ret Tryz.prog [.tmp 2] (fun y H=>Told Tryz.prog G H y (.bool r))) (.again (jy [] Tryz.f5 0).1 (jy [] Tryz.f5 0).2 (.n (.sl 7 false (t0.map Unit.cells)) (.n .undef (.n (.sl 5 false (t3.map Decl.cells)) .z .z) .z) (.n .undef (.n (.int .i64 t4) .z .z) .z)) 0 [])
theorem ye : PC3 Yy zl:=by
 refine zl.partial_correctness Yy (fun zl ye t0 t3 t4 r h=> ?_)
 unfold qa at h
 refine yc ?_
 refine kr [] ?_
 refine qf (fun hb=> ?_) (fun hb=> ?_)
 ·replace h :=qu hb h
  refine kr [] ?_
  obtain ⟨x4,hx,h⟩:=bind_some h
  refine je env hx rfl rfl rfl rfl rfl ?_
  refine kr [] ?_
  obtain ⟨x5,hx,h⟩:=bind_some h
  refine qp (qix _ _ _ hx) ?_
  refine kr [] ?_
  refine qq (fun hb=> ?_) (fun hb=> ?_)
  ·replace h :=qv hb h
   refine kr [] ?_
   refine qk (fun hb=> ?_) (fun hb=> ?_)
   ·replace h :=qu hb h
    refine kr [] ?_
    obtain ⟨x6,hx,h⟩:=bind_some h
    refine je env hx rfl rfl rfl rfl rfl ?_
    refine kr [] ?_
    obtain ⟨x7,hx,h⟩:=bind_some h
    refine je env hx rfl rfl rfl rfl rfl ?_
    refine kr [] ?_
    refine qq (fun hb=> ?_) (fun hb=> ?_)
    ·replace h:=qv hb h
     refine kr [] ?_
     obtain ⟨x8,hx,h⟩:=bind_some h
     refine je env hx rfl rfl rfl rfl rfl ?_
     refine kr [] ?_
     obtain ⟨x9,hx,h⟩:=bind_some h
     refine je env hx rfl rfl rfl rfl rfl ?_
     refine kr [] ?_
     refine qk (fun hb=> ?_) (fun hb=> ?_)
     ·replace h:=qu hb h
      refine kr [] ?_
      obtain ⟨x10,hx,h⟩:=bind_some h
      refine je env hx rfl rfl rfl rfl rfl ?_
      refine kr [] ?_
      obtain ⟨x11,hx,h⟩:=bind_some h
      refine je env hx rfl rfl rfl rfl rfl ?_
      refine kr [] ?_
      refine qf (fun hb=> ?_) (fun hb=> ?_)
      ·replace h:=qu hb h
       refine kr [] ?_
       cases h
       exact kf
      replace h:=qv hb h
      refine kr [] ?_
      obtain ⟨x12,hx,h⟩:=bind_some h
      refine je env hx rfl rfl rfl rfl rfl ?_
      refine kr [] ?_
      obtain ⟨x13,hx,h⟩:=bind_some h
      refine je env hx rfl rfl rfl rfl rfl ?_
      refine kr [] ?_
      obtain ⟨x14,hx,h⟩:=bind_some h
      refine je env hx rfl rfl rfl rfl rfl ?_
      refine kr [] ?_
      obtain ⟨x15,hx,h⟩:=bind_some h
      refine qp (Zc _ _ _ _ _ hx) ?_
      refine kr [] ?_
      refine qq (fun hb=> ?_) (fun hb=> ?_)
      ·replace h:=qv hb h
       refine kr [] ?_
       obtain ⟨x16,hx,h⟩:=bind_some h
       refine je env hx rfl rfl rfl rfl rfl ?_
       refine kr [] ?_
       refine qq (fun hb=> ?_) (fun hb=> ?_)
       ·replace h:=qv hb h
        refine kr [] ?_
        obtain ⟨x17,hx,h⟩:=bind_some h
        refine je env hx rfl rfl rfl rfl rfl ?_
        refine kr [] ?_
        refine qq (fun hb=> ?_) (fun hb=> ?_)
        ·replace h:=qv hb h
         refine kr [] ?_
         obtain ⟨x18,hx,h⟩:=bind_some h
         refine je env hx rfl rfl rfl rfl rfl ?_
         refine kr [] ?_
         refine qq (fun hb=> ?_) (fun hb=> ?_)
         ·replace h:=qv hb h
          refine kr [] ?_
          obtain ⟨x19,hx,h⟩:=bind_some h
          refine je env hx rfl rfl rfl rfl rfl ?_
          refine kr [] ?_
          refine qq (fun hb=> ?_) (fun hb=> ?_)
          ·replace h:=qv hb h
           refine kr [] ?_
           obtain ⟨x20,hx,h⟩:=bind_some h
           refine je env hx rfl rfl rfl rfl rfl ?_
           refine kr [] ?_
           refine qk (fun hb=> ?_) (fun hb=> ?_)
           ·replace h:=qu hb h
            refine kr [] ?_
            obtain ⟨x21,hx,h⟩:=bind_some h
            refine je env hx rfl rfl rfl rfl rfl ?_
            refine kr [] ?_
            refine qf (fun hb=> ?_) (fun hb=> ?_)
            ·replace h:=qu hb h
             refine kr [] ?_
             cases h
             exact kf
            replace h:=qv hb h
            refine kr [] ?_
            exact zp (by kernel_rfl) lA (ye _ _ _ _ h)
           replace h:=qv hb h
           refine kr [] ?_
           exact zp (by kernel_rfl) lA (ye _ _ _ _ h)
          replace h:=qu hb h
          refine kr [] ?_
          cases h
          exact kf
         replace h:=qu hb h
         refine kr [] ?_
         cases h
         exact kf
        replace h:=qu hb h
        refine kr [] ?_
        cases h
        exact kf
       replace h:=qu hb h
       refine kr [] ?_
       cases h
       exact kf
      replace h:=qu hb h
      refine kr [] ?_
      cases h
      exact kf
     replace h:=qv hb h
     refine kr [] ?_
     obtain ⟨x22,hx,h⟩:=bind_some h
     refine je env hx rfl rfl rfl rfl rfl ?_
     refine kr [] ?_
     obtain ⟨x23,hx,h⟩:=bind_some h
     refine je env hx rfl rfl rfl rfl rfl ?_
     refine kr [] ?_
     obtain ⟨x24,hx,h⟩:=bind_some h
     refine je env hx rfl rfl rfl rfl rfl ?_
     refine kr [] ?_
     obtain ⟨x25,hx,h⟩:=bind_some h
     refine qp (Zc _ _ _ _ _ hx) ?_
     refine kr [] ?_
     refine qq (fun hb=> ?_) (fun hb=> ?_)
     ·replace h:=qv hb h
      refine kr [] ?_
      obtain ⟨x26,hx,h⟩:=bind_some h
      refine je env hx rfl rfl rfl rfl rfl ?_
      refine kr [] ?_
      refine qq (fun hb=> ?_) (fun hb=> ?_)
      ·replace h:=qv hb h
       refine kr [] ?_
       obtain ⟨x27,hx,h⟩:=bind_some h
       refine je env hx rfl rfl rfl rfl rfl ?_
       refine kr [] ?_
       refine qq (fun hb=> ?_) (fun hb=> ?_)
       ·replace h:=qv hb h
        refine kr [] ?_
        obtain ⟨x28,hx,h⟩:=bind_some h
        refine je env hx rfl rfl rfl rfl rfl ?_
        refine kr [] ?_
        refine qq (fun hb=> ?_) (fun hb=> ?_)
        ·replace h:=qv hb h
         refine kr [] ?_
         obtain ⟨x29,hx,h⟩:=bind_some h
         refine je env hx rfl rfl rfl rfl rfl ?_
         refine kr [] ?_
         refine qq (fun hb=> ?_) (fun hb=> ?_)
         ·replace h:=qv hb h
          refine kr [] ?_
          obtain ⟨x30,hx,h⟩:=bind_some h
          refine je env hx rfl rfl rfl rfl rfl ?_
          refine kr [] ?_
          refine qk (fun hb=> ?_) (fun hb=> ?_)
          ·replace h:=qu hb h
           refine kr [] ?_
           obtain ⟨x31,hx,h⟩:=bind_some h
           refine je env hx rfl rfl rfl rfl rfl ?_
           refine kr [] ?_
           refine qf (fun hb=> ?_) (fun hb=> ?_)
           ·replace h:=qu hb h
            refine kr [] ?_
            cases h
            exact kf
           replace h:=qv hb h
           refine kr [] ?_
           exact zp (by kernel_rfl) lA (ye _ _ _ _ h)
          replace h:=qv hb h
          refine kr [] ?_
          exact zp (by kernel_rfl) lA (ye _ _ _ _ h)
         replace h:=qu hb h
         refine kr [] ?_
         cases h
         exact kf
        replace h:=qu hb h
        refine kr [] ?_
        cases h
        exact kf
       replace h:=qu hb h
       refine kr [] ?_
       cases h
       exact kf
      replace h:=qu hb h
      refine kr [] ?_
      cases h
      exact kf
     replace h:=qu hb h
     refine kr [] ?_
     cases h
     exact kf
    replace h:=qu hb h
    refine kr [] ?_
    cases h
    exact kf
   replace h:=qv hb h
   refine kr [] ?_
   obtain ⟨x32,hx,h⟩:=bind_some h
   refine je env hx rfl rfl rfl rfl rfl ?_
   refine kr [] ?_
   obtain ⟨x33,hx,h⟩:=bind_some h
   refine je env hx rfl rfl rfl rfl rfl ?_
   refine kr [] ?_
   obtain ⟨x34,hx,h⟩:=bind_some h
   refine je env hx rfl rfl rfl rfl rfl ?_
   refine kr [] ?_
   obtain ⟨x35,hx,h⟩:=bind_some h
   refine qp (Zc _ _ _ _ _ hx) ?_
   refine kr [] ?_
   refine qq (fun hb=> ?_) (fun hb=> ?_)
   ·replace h:=qv hb h
    refine kr [] ?_
    obtain ⟨x36,hx,h⟩:=bind_some h
    refine je env hx rfl rfl rfl rfl rfl ?_
    refine kr [] ?_
    refine qq (fun hb=> ?_) (fun hb=> ?_)
    ·replace h:=qv hb h
     refine kr [] ?_
     obtain ⟨x37,hx,h⟩:=bind_some h
     refine je env hx rfl rfl rfl rfl rfl ?_
     refine kr [] ?_
     refine qq (fun hb=> ?_) (fun hb=> ?_)
     ·replace h:=qv hb h
      refine kr [] ?_
      obtain ⟨x38,hx,h⟩:=bind_some h
      refine je env hx rfl rfl rfl rfl rfl ?_
      refine kr [] ?_
      refine qq (fun hb=> ?_) (fun hb=> ?_)
      ·replace h:=qv hb h
       refine kr [] ?_
       obtain ⟨x39,hx,h⟩:=bind_some h
       refine je env hx rfl rfl rfl rfl rfl ?_
       refine kr [] ?_
       refine qq (fun hb=> ?_) (fun hb=> ?_)
       ·replace h:=qv hb h
        refine kr [] ?_
        obtain ⟨x40,hx,h⟩:=bind_some h
        refine je env hx rfl rfl rfl rfl rfl ?_
        refine kr [] ?_
        refine qk (fun hb=> ?_) (fun hb=> ?_)
        ·replace h:=qu hb h
         refine kr [] ?_
         obtain ⟨x41,hx,h⟩:=bind_some h
         refine je env hx rfl rfl rfl rfl rfl ?_
         refine kr [] ?_
         refine qf (fun hb=> ?_) (fun hb=> ?_)
         ·replace h:=qu hb h
          refine kr [] ?_
          cases h
          exact kf
         replace h:=qv hb h
         refine kr [] ?_
         exact zp (by kernel_rfl) lA (ye _ _ _ _ h)
        replace h:=qv hb h
        refine kr [] ?_
        exact zp (by kernel_rfl) lA (ye _ _ _ _ h)
       replace h:=qu hb h
       refine kr [] ?_
       cases h
       exact kf
      replace h:=qu hb h
      refine kr [] ?_
      cases h
      exact kf
     replace h:=qu hb h
     refine kr [] ?_
     cases h
     exact kf
    replace h:=qu hb h
    refine kr [] ?_
    cases h
    exact kf
   replace h:=qu hb h
   refine kr [] ?_
   cases h
   exact kf
  replace h:=qu hb h
  refine kr [] ?_
  cases h
  exact kf
 replace h:=qv hb h
 refine kr [] ?_
 obtain ⟨x42,hx,h⟩:=bind_some h
 refine qp (qfs _ hx) ?_
 refine kr [] ?_
 cases h
 exact kf
def Zo (a0:(List Unit)):Option Bool:=
 Wq a0 >>=fun x1=>
 if (!x1)=true then
  Y3 >>=fun x2=>
  some x2
 else
  vj a0 >>=fun x3=>
  zl a0 x3 (0:Int)
@[reducible] def Wm (a0:(List Unit)) (r:Bool):Prop:=
  Fn Tryz.prog G 5 [(.sl 7 false (a0.map Unit.cells))] (.bool r)
theorem qep:PC1 Wm Zo:=fun a0 r h=>by
 rw [Zo.eq_def] at h
 refine zu (T:=tt) (N:=167) (rs:= [.tmp 2]) (fun vs w=>by simp) Tryz.func5 rfl rfl rfl rfl (by kernel_rfl) (ya rfl) (zn _ rfl) ?_
 refine kr [] ?_
 obtain ⟨x1,hx,h⟩:=bind_some h
 refine qp (qms _ _ hx) ?_
 refine kr [] ?_
 refine qf (fun hb=> ?_) (fun hb=> ?_)
 ·replace h:=qu hb h
  refine kr [] ?_
  obtain ⟨x2,hx,h⟩:=bind_some h
  refine qp (qfs _ hx) ?_
  refine kr [] ?_
  cases h
  exact kf
 replace h:=qv hb h
 refine kr [] ?_
 obtain ⟨x3,hx,h⟩:=bind_some h
 refine qp (Kk _ _ hx) ?_
 refine kr [] ?_
 exact jv (by kernel_rfl) lA (ye _ _ _ _ h)
end Go.Proofs.YtpnkemogepoioaaGreatDoorW.Ex.Gr
