/- The functions of the program's layer 9 and of its references, printed as functions on numbers, strings, lists and trees, with the proofs that they are what the code computes. Conditions: those in each theorem. -/
import Derived.Test.YtpnkemogepoioaaGreatDoorXEa
namespace Go.Proofs.YtpnkemogepoioaaGreatDoorW.Ex.Gr
open Go Go.Proofs.YtpnkemogepoioaaGreatDoorW.Ex
set_option linter.all false
set_option maxRecDepth 100000
set_option synthInstance.maxSize 4000
set_option maxHeartbeats 4000000
open Go.Proofs.YtpnkemogepoioaaGreatDoorW.Plain
theorem qt1 {w:World} {S F:Nat→Prop} {β:Nat→Nat} (e c6:Int) (hH:HR G w S F β ⟨3, [(0, .var 45 qn8),(1, .var 26 [.int .i64 0]),(2, .var 3 [.int .i64 c6])]⟩):
 CallsD Tryz.prog 79 #[.pointer (some ⟨β 0,0,none⟩), .pointer (some ⟨β 1,0,none⟩), .pointer (some ⟨β 2,0,none⟩)] (.panicking (flt e)) w fun r u' w'=>
  (∃v,r= .returned v)∧settle u'= .returning∧∃S' β',Ext w S F β 3 w' S' β' 3∧HR G w' S' F β' ⟨3,ql4 e⟩:=by
 refine callsD_of_wpS Tryz.func79 rfl fun c₀ cs hu=> ?_
 have hA:=qi4 (N:=19) (by kernel_rfl) (qym e c6)
 apply wpS_seq
 apply wpS_region
 simp [wpOpsS,go_sem,recoverD,hu,Tryz.ntmps79,Exit.thenS,flt]
 apply wpS_seq
 apply wpS_region
 simp [wpOpsS,go_sem,Exit.thenS]
 refine wpS_cond (t:=true) (by simp [Act.eval,Array.replicate]) ?_
 simp only [if_true]
 apply wpS_seq
 apply wpS_region
 simp [wpOpsS,go_sem,Exit.thenS,q2q]
 apply wpS_seq
 apply wpS_seq
 apply wpS_region
 simp [wpOpsS,go_sem,Exit.thenS]
 refine wpS_cond (t:=false) (by simp [Act.eval,Array.replicate]) ?_
 simp only [Bool.false_eq_true,if_false]
 refine wpS_of_wp (wp_skip ?_)
 show rec5.wpS Tryz.prog _ _ _ _
 refine wpS_of_wp (wp_mono (hA [] w S F β _ (Nat.le_refl _) hH (FRx.of _ (by simp) rfl ?_)) ?_)
 ·intro q hq
  simp only [List.mem_cons,List.not_mem_nil,or_false] at hq
  rcases hq with rfl | rfl | rfl | rfl
  ·simpa using RV.ptr (w:=w) (S:=S) (β:=β) 0 0 0 (by decide)
  ·simpa using RV.ptr (w:=w) (S:=S) (β:=β) 1 1 0 (by decide)
  ·simpa using RV.ptr (w:=w) (S:=S) (β:=β) 2 2 0 (by decide)
  simpa using RV.int .i64 e
 rintro x a' w' ⟨fr',H',S',β',q,hx,hp,hH',hf'⟩
 cases x with
 | normal=>
   cases (show H'=⟨3,ql4 e⟩ from q)
   exact ⟨hf'.defers,_,rfl, .tuple #[],by simp [results,Tryz.results79,go_sem],⟨_,rfl⟩,rfl,S',β',hx,hH'⟩
 | _=>exact q.elim
abbrev rds:List ResultVar:= [.cell 4 45, .cell 5 26, .cell 6 3]
noncomputable def rd0:Code:=cfst (qeq Tryz.f53)
noncomputable def rd1:Code:=cfst (csnd (qeq Tryz.f53))
noncomputable def rd2:Code:=cfst (csnd (csnd (qeq Tryz.f53)))
noncomputable def rd2a:Code:=cfst rd2
noncomputable def rd2b:Code:=csnd rd2
noncomputable def cops:Code→List Oper
 | .region _ l _=>l.toList
 | _=> []
noncomputable def rdL:List Oper:=cops (cfst (cthen rd2b))
theorem q2t:rd2= .seq rd2a (.cond (.tmp 16) (.seq (.region 3 rdL.toArray true) .ret) .skip):=by kernel_rfl
noncomputable def rd3:Code:=cfst (csnd (csnd (csnd (qeq Tryz.f53))))
noncomputable def rd4:Code:=csnd (csnd (csnd (csnd (qeq Tryz.f53))))
theorem q01:Tryz.f53.body=some (.seq rd0 (.seq rd1 (.seq rd2 (.seq rd3 rd4)))):=by kernel_rfl
def rdX (x:Node × Int × Int):AV:= .tup [.agg (zq x.1), .int .i64 x.2.1, .int .i64 x.2.2]
abbrev rdR (x:Node × Int × Int):Exit→Fr→Hp→Prop:=Ret Tryz.prog rds (fun z H=>Told Tryz.prog G H z (rdX x))
def rdO (e at_:Int):Objs:= [(0, .var 45 qn8),(1, .var 26 [.int .i64 e]),(2, .var 3 [.int .i64 at_])]
theorem qpz {n:Nat} {objs:Objs} (a b:Int):Told Tryz.prog G ⟨n,objs⟩ (.tup [.agg qn8, .int .i64 a, .int .i64 b]) (rdX (Node.mk 0 ⟨#[]⟩ [] [],a,b)):=
 Y9 (qbe (y6 (qx3 (qea (zm rfl) (qea (jw rfl) (qea (wg (.inr rfl)) (qea (wg (.inr rfl)) qwm))))) (y6 (vc (zm rfl) (by simp)) (y6 (vc (zm rfl) (by simp)) Wi))))
theorem qw4 (e:Int):rdR (Node.mk 0 ⟨#[]⟩ [] [],1,e) .normal (puts [(4, .ptr 0 0 0),(5, .ptr 1 1 0),(6, .ptr 2 2 0)] (frT .z)) ⟨3,ql4 e⟩:=by
 have h:Ok Tryz.prog G tt 32 0 (rdR (Node.mk 0 ⟨#[]⟩ [] [],1,e)) (.go [(4, .ptr 0 0 0),(5, .ptr 1 1 0),(6, .ptr 2 2 0)] [] [] .z 3 (ql4 e)):=by
  refine kr [] ?_
  exact qbm env rfl (qpz 1 e)
 unfold Ok at h
 exact h rfl
theorem qyp (e at_:Int):AWp Tryz.prog G 32 0 (.seq (.region 3 rdL.toArray true) .ret) (fun x fr H=>x= .ret∧rdR (Node.mk 0 ⟨#[]⟩ [] [],e,at_) .ret fr H) (puts [(4, .ptr 0 0 0),(5, .ptr 1 1 0),(6, .ptr 2 2 0)] (frT .z)) ⟨3,rdO e at_⟩:=by
 have h:anyS tt G rdL.toArray (fun fr _ objs=>qh7 tt fr objs rds qgx) [(4, .ptr 0 0 0),(5, .ptr 1 1 0),(6, .ptr 2 2 0)] .z 3 (rdO e at_)=some (List.replicate 15 (.tup [.agg qn8, .int .i64 e, .int .i64 at_])):=by kernel_rfl
 refine qq2 (q1x env (by kernel_rfl) h (fun z hz fr n objs hl=>Ye (qwg ⟨rfl,?_⟩)))
 obtain rfl:=List.eq_of_mem_replicate hz
 have h:=ya (P:=Tryz.prog) (G:=G) (N:=32) (p:=0) (n:=n) (k:= []) (K:=fun z H=>Told Tryz.prog G H z (rdX (Node.mk 0 ⟨#[]⟩ [] [],e,at_))) env rfl hl (qpz _ _)
 unfold Ok at h
 exact h rfl
def qu9 (w:World) (S F:Nat→Prop) (β:Nat→Nat) (x:Node × Int × Int) (e:Ending) (w':World):Prop:=
 ∃v,e= .returned v∧∃S' β',Ext w S F β 0 w' S' β' 0∧HR G w' S' F β' ⟨0, []⟩∧RV w' S' β' 0 (rdX x) v
theorem qyq (x:Node × Int × Int):Pure (rdX x):= .tup _ (by
 intro y hy
 simp only [List.mem_cons,List.not_mem_nil,or_false] at hy
 rcases hy with rfl | rfl | rfl
 ·exact .agg _ (by
   intro z hz
   simp only [List.mem_cons,List.not_mem_nil,or_false] at hz
   rcases hz with rfl | rfl | rfl | rfl <;> constructor)
 ·constructor
 constructor)
theorem qt2 {w w':World} {S F S':Nat→Prop} {β β':Nat→Nat} {D:List Deferred} {fr:Fr} {H:Hp} {a:Act} {x:Node × Int × Int} (q:rdR x .normal fr H) (hx:Ext w S F β 0 w' S' β' 0) (hH:HR G w' S' F β' H) (hf:FRx D w' S' β' H.n 32 fr a) (hG:HR G w S F β ⟨0, []⟩):
 Leaves Tryz.prog Tryz.f53 a.tmps (qu9 w S F β x) [] .returning w':=by
 obtain ⟨z,hz,ht⟩:=q
 unfold Told at ht
 obtain ⟨v,hrun,hR⟩:=qhd (P:=Tryz.prog) (fn:=Tryz.f53) hH hf (show Qi _ Tryz.f53.results.toList fr H=some z from hz)
 obtain ⟨S2,hx2,hl,hR2⟩:=ht w' S' F β' v hH hR
 exact ⟨v,hrun,v,rfl,S2,β',hx.trans hx2,⟨hl,fun k hk=>Nat.lt_of_lt_of_le (hG.ltf k hk) (hx.trans hx2).size,fun g=>(hG.glob g).ext (hx.trans hx2),by simp,by simp,by simp⟩,hR2.pure (qyq x)⟩
theorem qp0 {w:World} {S:Nat→Prop} {β:Nat→Nat} {n i s:Nat} {v:Value} (h:RV w S β n (.ptr i s 0) v):v= .pointer (some ⟨β s,0,none⟩):=by
 cases h;rfl
def K8 (s:BA):Option (Node × Int × Int):=
 Zr s >>=fun t=>
 if (!decide (t.2.1=(0:Int)))=true then some (Node.mk 0 ⟨#[]⟩ [] [],t.2.1,t.2.2)
 else qb8 ⟨t.1,0⟩ >>=fun x=>match x with
  | .error e=>some (Node.mk 0 ⟨#[]⟩ [] [],1,e)
  | .ok x=>Q3 x.1 >>=fun c=>if (decide (c=(3:Int)))=true then some (Node.mk 0 ⟨#[]⟩ [] [],3,0) else some (x.1,0,0)
def uo (t:List Token × Int × Int) (fr:Fr) (H:Hp):Prop:=(fr 1= .fn 54 []∧fr 4= .ptr 0 0 0∧fr 5= .ptr 1 1 0∧fr 6= .ptr 2 2 0∧fr 7= .sl 4 false (t.1.map Token.cells))∧H=⟨3,rdO t.2.1 t.2.2⟩
theorem qkb (s:BA) (t:List Token × Int × Int) (ht:Zr s=some t) (x:Node × Int × Int):
 Ok Tryz.prog G tt 32 0 (Yr (fun fr H=>fr 16= .bool (!decide (t.2.1=(0:Int)))∧uo t fr H) (rdR x)) (.go (qg2 0 [.str s, .fn 54 []]) [.code rd0, .code rd1, .code rd2a] [] .z 0 []):=by
 refine kr [] ?_
 refine qp (qj6 _ _ ht) ?_
 refine kr [] ?_
 exact qwe ⟨rfl,⟨rfl,rfl,rfl,rfl,rfl⟩,rfl⟩
theorem qka (t:List Token × Int × Int) (x:Node × Int × Int) (hx:(!decide (t.2.1=(0:Int)))=true→x=(Node.mk 0 ⟨#[]⟩ [] [],t.2.1,t.2.2)) (fr:Fr) (H:Hp)
 (h:AWp Tryz.prog G 32 0 rd2a (Yr (fun fr H=>fr 16= .bool (!decide (t.2.1=(0:Int)))∧uo t fr H) (rdR x)) fr H):AWp Tryz.prog G 32 0 rd2 (Yr (fun fr H=>(!decide (t.2.1=(0:Int)))=false∧uo t fr H) (rdR x)) fr H:=by
 rw [q2t]
 refine qq2 (h.mono ?_)
 intro e fr H q
 cases e with
 | normal=>
   obtain ⟨hc,hk⟩:=(show _∧_ from q)
   refine Ye (qjf hc (fun hb=> ?_) (fun hb=>qtd (Ye ⟨hb,hk⟩)))
   obtain ⟨⟨g1,g4,g5,g6,g7⟩,rfl⟩:=hk
   cases hx hb
   refine (qf2 (qxc [(4, .ptr 0 0 0),(5, .ptr 1 1 0),(6, .ptr 2 2 0)] (by simp [g4,g5,g6])) (qyp t.2.1 t.2.2)).mono ?_
   rintro e fr H ⟨rfl,q⟩
   exact q
 | _=>exact q
theorem qjx (l:List Token) (e:Int) (h:qb8 ⟨l,0⟩=some (.error e)):
 Ok Tryz.prog G tt 32 3 (fun e' fr _=>e'= .panic (flt e)∧fr 4= .ptr 0 0 0∧fr 5= .ptr 1 1 0∧fr 6= .ptr 2 2 0) (.go [(1, .fn 54 []),(4, .ptr 0 0 0),(5, .ptr 1 1 0),(6, .ptr 2 2 0),(7, .sl 4 false (l.map Token.cells))] [.code rd4] [] .z 3 []):=by
 refine kr [] ?_
 exact qxr (FC.go (qnh _ _ h) [0] [3] rfl rfl rfl rfl rfl rfl) ⟨rfl,rfl,rfl,rfl⟩
theorem qj5 (l:List Token) (e at_:Int) (r:Node × Reader) (h:qb8 ⟨l,0⟩=some (.ok r)) (c:Int) (hc:Q3 r.1=some c) (x:Node × Int × Int) (hx:(if (decide (c=(3:Int)))=true then some (Node.mk 0 ⟨#[]⟩ [] [],3,0) else some (r.1,0,0))=some x):
 Ok Tryz.prog G tt 32 0 (rdR x) (.go [(1, .fn 54 []),(4, .ptr 0 0 0),(5, .ptr 1 1 0),(6, .ptr 2 2 0),(7, .sl 4 false (l.map Token.cells))] [.code rd4] [] .z 3 (rdO e at_)):=by
 refine kr [] ?_
 refine qc (AC.g9 (qnh _ _ h) [3] [3]) ?_
 refine kr [] ?_
 refine qp (qjc _ _ hc) ?_
 refine kr [] ?_
 refine qf (fun hb=> ?_) (fun hb=> ?_)
 ·rw [if_pos hb] at hx
  cases hx
  refine kr [] ?_
  exact ya env rfl rfl (qpz _ _)
 rw [if_neg (by rw [hb];decide)] at hx
 cases hx
 refine kr [] ?_
 exact ya env rfl rfl (q9 rfl)
theorem qj9 (s:BA) (x:Node × Int × Int) (h:K8 s=some x):ACalls Tryz.prog G 53 [.str s, .fn 54 []] ⟨0, []⟩ (rdX x) ⟨0, []⟩:=by
 obtain ⟨t,ht,h⟩:=bind_some h
 intro w S F β vs hH hv
 rw [show (callFunc 53 vs).run Tryz.prog w= .ok (.enter 53 vs) w by simp]
 show Calls Tryz.prog 53 vs w (qu9 w S F β x)
 refine calls_of_wp_defers Tryz.func53 q01 ?_
 have hA:=qi4 (N:=32) (by kernel_rfl) (qkb s t ht x)
 rw [qcq] at hA
 have hf:=qiu (N:=32) hv (Nat.le_of_ble_eq_true rfl)
 have fin:∀(e:Exit) (fr':Fr) (H':Hp) (w':World) (S':Nat→Prop) (β':Nat→Nat) (a':Act),rdR x e fr' H'→Ext w S F β 0 w' S' β' 0→HR G w' S' F β' H'→FRx [] w' S' β' H'.n 32 fr' a'→bodyPostD Tryz.prog Tryz.f53 (qu9 w S F β x) e a' w':=by
  intro e fr' H' w' S' β' a' q hx hH' hf'
  have hl:=fun q=>qt2 (x:=x) q hx hH' hf' hH
  cases e <;> first
   | exact q.elim
   | (show Leaves _ _ _ _ a'.defers _ _;rw [hf'.defers];exact hl q)
 refine qlh hA (Nat.zero_le _) hH hf (fun fr1 H1 w1 S1 β1 a1 q1 hx1 _ hH1 hf1=> ?_) (fun e fr' H' w' S' β' a' he q hx _ hH' hf'=>fin e fr' H' w' S' β' a' (qkc he (q3j he q)) hx hH' hf')
 refine qlh q1 (Nat.zero_le _) hH1 hf1 (fun fr2 H2 w2 S2 β2 a2 q2 hx2 _ hH2 hf2=> ?_) (fun e fr' H' w' S' β' a' he q hx _ hH' hf'=>fin e fr' H' w' S' β' a' (qkc he q) (hx1.trans hx) hH' hf')
 refine qlh (qka t x (fun hb=>by rw [if_pos hb] at h;cases h;rfl) fr2 H2 q2) (Nat.zero_le _) hH2 hf2 (fun fr3 H3 w3 S3 β3 a3 q3 hx3 _ hH3 hf3=> ?_) (fun e fr' H' w' S' β' a' he q hx _ hH' hf'=>fin e fr' H' w' S' β' a' q ((hx1.trans hx2).trans hx) hH' hf')
 obtain ⟨hb,⟨g1,g4,g5,g6,g7⟩,rfl⟩:=(show _∧_∧_ from q3)
 have hx0:=(hx1.trans hx2).trans hx3
 rw [if_neg (by rw [hb];decide)] at h
 obtain ⟨r,hr,h⟩:=bind_some h
 refine wp_seq ?_
 refine qpy (u:=20) (f:=79) (cs:= #[.tmp 4, .tmp 5, .tmp 6]) (by rw [hf3.size];decide) ?_
 have e4:=qp0 (g4 ▸ hf3.val 4)
 have e5:=qp0 (g5 ▸ hf3.val 5)
 have e6:=qp0 (g6 ▸ hf3.val 6)
 have hcs:(#[Operand.tmp 4, .tmp 5, .tmp 6]:Array Operand).map a3.eval= #[.pointer (some ⟨β3 0,0,none⟩), .pointer (some ⟨β3 1,0,none⟩), .pointer (some ⟨β3 2,0,none⟩)]:=by
  simp [Act.eval,e4,e5,e6]
 rw [hcs]
 have hf3':=hf3.put (d:=some 20) rfl (RV.undef (w:=w3) (S:=S3) (β:=β3) (n:=3) (.func (.func 79) #[] #[.pointer (some ⟨β3 0,0,none⟩), .pointer (some ⟨β3 1,0,none⟩), .pointer (some ⟨β3 2,0,none⟩)]))
 have hq:=hf3'.some [(1, .fn 54 []),(4, .ptr 0 0 0),(5, .ptr 1 1 0),(6, .ptr 2 2 0),(7, .sl 4 false (t.1.map Token.cells))] (by simp [wn,g1,g4,g5,g6,g7])
 generalize hd:a3.defers=d3 at*
 have hd3:d3= []:=by rw [←hd];exact hf3.defers
 subst hd3
 have hf4:=FRx.of (a:=⟨a3.tmps.setIfInBounds 20 (.func (.func 79) #[] #[.pointer (some ⟨β3 0,0,none⟩), .pointer (some ⟨β3 1,0,none⟩), .pointer (some ⟨β3 2,0,none⟩)]), [{target:= .fn (.func 79) #[.pointer (some ⟨β3 0,0,none⟩), .pointer (some ⟨β3 1,0,none⟩), .pointer (some ⟨β3 2,0,none⟩)],args:= #[]}]⟩) _ hf3'.size rfl hq
 show rd4.wp _ _ _ _
 cases r with
 | error e=>
   cases h
   have hB:=qi4 (N:=32) (by kernel_rfl) (qjx t.1 e hr)
   refine wp_mono (hB _ w3 S3 _ β3 _ (Nat.le_refl _) hH3.hide hf4) ?_
   rintro e' a' w' ⟨fr',H',S',β',⟨rfl,k4,k5,k6⟩,hx,hp,hH',hf'⟩
   obtain ⟨hx',hH''⟩:=hH3.unhide hx hH'.lts
   show Leaves _ _ _ _ a'.defers _ _
   rw [hf'.defers]
   refine leaves_cons (f:=79) (args:= #[.pointer (some ⟨β3 0,0,none⟩), .pointer (some ⟨β3 1,0,none⟩), .pointer (some ⟨β3 2,0,none⟩)]) (by simp) (by simp [go_sem]) ?_
   have hc:=qt1 e t.2.2 (show HR G w' S' F β' ⟨3,rdO 0 t.2.2⟩ by
    have h0:t.2.1=0:=by simpa using hb
    rw [←h0];exact hH'')
   rw [hx'.beta 0 (show 0 < 3 by decide),hx'.beta 1 (show 1 < 3 by decide),hx'.beta 2 (show 2 < 3 by decide)] at hc
   refine hc.mono ?_
   rintro r u' w'' ⟨⟨v,rfl⟩,hs,S'',β'',hx'',hH3''⟩
   show Leaves _ _ _ _ [] (settle u') w''
   rw [hs]
   refine qt2 (D:=a'.defers) (a:=a') (qw4 e) (hx0.trans ((hx'.trans hx'').lower (Nat.zero_le _))) hH3'' (FRx.of _ hf'.size rfl ?_) hH
   intro q hm
   simp only [List.mem_cons,List.not_mem_nil,or_false] at hm
   have hv:∀(i s:Nat) (t:Nat),s < 3→fr' t= .ptr i s 0→RV w'' S'' β'' 3 (.ptr i s 0) (a'.tmps.getD t Go.undef):=fun i s t hs3 ht=>by
    have h1:=hf'.val t
    rw [ht] at h1
    rw [qp0 h1,←hx''.beta s hs3]
    exact .ptr i s 0 hs3
   rcases hm with rfl | rfl | rfl
   ·exact hv _ _ _ (by decide) k4
   ·exact hv _ _ _ (by decide) k5
   exact hv _ _ _ (by decide) k6
 | ok r=>
   obtain ⟨c,hc,h⟩:=bind_some h
   have hB:=qi4 (N:=32) (by kernel_rfl) (qj5 t.1 t.2.1 t.2.2 r hr c hc x h)
   refine wp_mono (hB _ w3 S3 F β3 _ (Nat.zero_le _) hH3 hf4) ?_
   rintro e' a' w' ⟨fr',H',S',β',q,hx,hp,hH',hf'⟩
   have hl:rdR x .normal fr' H'→Leaves Tryz.prog Tryz.f53 a'.tmps (qu9 w S F β x) a'.defers .returning w':=fun q=>by
    rw [hf'.defers]
    refine leaves_cons (f:=79) (args:= #[.pointer (some ⟨β3 0,0,none⟩), .pointer (some ⟨β3 1,0,none⟩), .pointer (some ⟨β3 2,0,none⟩)]) (by simp) (by simp [go_sem]) ?_
    refine (qyl _ _ _ w').mono ?_
    rintro r u' w'' ⟨⟨v,rfl⟩,rfl,rfl⟩
    exact qt2 q (hx0.trans hx) hH' hf' hH
   cases e' <;> first
    | exact q.elim
    | exact hl q
theorem qj8:PC1 (fun (s:BA) (x:Node × Int × Int)=>AC Tryz.prog G 53 [.str s, .fn 54 []] 0 [] (.tup [.agg (zq x.1), .int .i64 x.2.1, .int .i64 x.2.2]) 0 []) K8:=fun s x h=>AC.plain (qj9 s x h) rfl rfl
def K9 (a0:BA):Option (Node × Int × Int):=
 K8 a0 >>=fun x1=>
 some (x1.1,x1.2.1,x1.2.2)
@[reducible] def qne (a0:BA) (r:Node × Int × Int):Prop:=
  Fn Tryz.prog G 29 [(.str a0)] (.tup [(.agg (zq r.1)),(.int .i64 r.2.1),(.int .i64 r.2.2)])
theorem qng:PC1 qne K9:=fun a0 r h=>by
 rw [K9.eq_def] at h
 refine zo (T:=tt) (N:=10) (rs:= [.cell 2 45, .tmp 3, .tmp 4]) (fun vs w=>by simp) Tryz.func29 rfl rfl rfl rfl (by kernel_rfl) (jx rfl) (zh _ rfl) ?_
 refine kr [] ?_
 obtain ⟨x1,hx,h⟩:=bind_some h
 refine qc (AC.g9 (qj8 _ _ hx) [] []) ?_
 refine kr [] ?_
 cases h
 exact kf
def wj (a0:(List File)) (t5:(List Unit)):Option ((List Unit) × Int):=
 match a0 with
 | []=>
   some (t5,(0:Int))
 | x_0::a0=>
   K9 x_0.Text >>=fun x2=>
   app 112 t5 ([(Unit.mk x_0.Path x_0.Text x2.1 (!decide (x2.2.1=(0:Int))))]) >>=fun x3=>
   wj (qa a0) (qa x3)
 partial_fixpoint
@[reducible] def qa5 (a0:(List File)) (t5:(List Unit)) (r:(List Unit) × Int):Prop:=
  ∀(l0:List File) (j0:Nat),l0.drop j0=a0→j0≤l0.length→l0.length≤9223372036854775807→Ok Tryz.prog G tt 42 0 (Ret Tryz.prog [.tmp 2, .tmp 3] (fun y H=>Told Tryz.prog G H y (.tup [(.sl 7 false (r.1.map Unit.cells)),(.int .i64 r.2)]))) (.again (jj [] Tryz.f10 0).1 (jj [] Tryz.f10 0).2 (.n .undef (.n .undef .z (.n (.bs 7 0 0 0 t5.length) (.n .undef (.n (.int .i64 ((l0.map File.cells).length:Int)) .z .z) .z) .z)) (.n .undef (.n .undef (.n .undef (.n (.sl 2 false (l0.map File.cells)) .z .z) .z) .z) (.n .undef (.n .undef (.n (.int .i64 ((j0:Nat):Int)) .z .z) .z) .z))) 1 [(0, .row 48 (t5.map Unit.cells).flatten)])
theorem Yl:PC2 qa5 wj:=by
 refine wj.partial_correctness qa5 (fun wj Yl a0 t5 r h=> ?_)
 unfold qa at h
 intro l0 j0 hl0 hj0 hm0
 refine j7 ?_
 cases a0 with
 | nil=>
   have hb:=J5 (C:=File.cells) hl0 hj0
   refine kr [] ?_
   refine qv hb ?_
   refine kr [] ?_
   cases h
   exact j5 env rfl rfl (Y9 (qbe (y6 (vc (jd Kw rfl) (by simp)) (y6 (vc (zm rfl) (by simp)) Wi))))
 | cons x_0 a0=>
   obtain ⟨hb,hx0,hd0,hk0,hw0⟩:=Zt (C:=File.cells) hl0 hm0
   refine kr [] ?_
   refine qu hb ?_
   refine kr [] ?_
   refine We env rfl rfl rfl rfl (m:=j0) rfl (qaa hx0 rfl) ?_
   refine kr [] ?_
   obtain ⟨x2,hx,h⟩:=bind_some h
   refine qp (qng _ _ hx) ?_
   refine kr [] ?_
   obtain ⟨x3,hx,h⟩:=bind_some h
   have hp_x3:=W5 hx (by simp)
   refine qcr (C:=Unit.cells) env hx rfl rfl (by simp) (fun _=>rfl) rfl rfl rfl rfl rfl (by decide) rfl rfl rfl ?_
   refine kr [] ?_
   exact zy (by kernel_rfl) (qcl (by simp only [hw0];simp <;> (repeat' apply And.intro) <;> first | rfl | exact fun x a _ h=>(Kw.all a x h).2) (by simp <;> (repeat' apply And.intro) <;> first | rfl | exact fun x a _ h=>(Kw.all a x h).2)) (Yl _ _ _ h l0 (j0+1) hd0 hk0 hm0)
def Zs (a0:(List File)):Option ((List Unit) × Int):=
 Q2 a0 >>=fun x1=>
 if (!decide (x1=(0:Int)))=true then
  some (([]:(List Unit)),x1)
 else
  wj a0 ([]:List Unit)
@[reducible] def qj3 (a0:(List File)) (r:(List Unit) × Int):Prop:=
  Fn Tryz.prog G 10 [(.sl 2 false (a0.map File.cells))] (.tup [(.sl 7 false (r.1.map Unit.cells)),(.int .i64 r.2)])
theorem qj7:PC1 qj3 Zs:=fun a0 r h=>by
 rw [Zs.eq_def] at h
 refine zo (T:=tt) (N:=42) (rs:= [.tmp 2, .tmp 3]) (fun vs w=>by simp) Tryz.func10 rfl rfl rfl rfl (by kernel_rfl) (jx rfl) (zh _ rfl) ?_
 refine kr [] ?_
 obtain ⟨x1,hx,h⟩:=bind_some h
 refine qp (qct _ _ hx) ?_
 refine kr [] ?_
 refine qf (fun hb=> ?_) (fun hb=> ?_)
 ·replace h:=qx hb h
  refine kr [] ?_
  cases h
  exact j5 env rfl rfl (Y9 (qbe (y6 (vc (wg (.inr rfl)) (by simp)) (y6 (vc (zm rfl) (by simp)) Wi))))
 replace h:=qy hb h
 refine kr [] ?_
 refine qqt 5 _ 7 48 rfl rfl ?_
 refine qbb 16 rfl (fun hm=> ?_)
 exact jh (by kernel_rfl) lA (Yl _ _ _ h a0 0 rfl (Nat.zero_le _) (Zv hm))
mutual
def w8 (a0:(List Row)) (a1:Node) (a2:Int):Option ((List Row)):=
 u5 a1.gaps >>=fun x4=>
 app 80 a0 ([(Row.mk a2 a1.kind a1.text x4 ([]:(List Int)))]) >>=fun x5=>
 if (decide (((a1.kids.map Node.cells).length:Int)=(0:Int)))=true then
  some x5
 else
  mkz 8 ((a1.kids.map Node.cells).length:Int) (0:Int) >>=fun x6=>
  wa a1.kids 0 (qa x5) (a0.length:Int) (qa x6)
 partial_fixpoint
def wa (a0:LN) (j0:Nat) (t0:(List Row)) (t7:Int) (t8:(List Int)):Option ((List Row)):=
 match a0 with
 | []=>
   ix t0 t7 >>=fun x10=>
   some (t0.set t7.toNat (Row.mk x10.Parent x10.Kind x10.Text x10.Gaps t8))
 | x_0::a0=>
   ix t8 ((j0:Nat):Int) >>=fun x11=>
   w8 (qa t0) (qa x_0) (qa t7) >>=fun x12=>
   wa (qa a0) (j0+1) (qa x12) (qa t7) (t8.set ((j0:Nat):Int).toNat (t0.length:Int))
 partial_fixpoint
end
@[reducible] def qap (a0:(List Row)) (a1:Node) (a2:Int) (r:(List Row)):Prop:=
  AC Tryz.prog G 59 [(.bs 5 0 0 0 a0.length),(.agg (zq a1)),(.int .i64 a2)] 2 [(0, .row 69 (a0.map Row.cells).flatten),(1, .row 69 [])] (.bs 5 1 2 0 r.length) 3 [(0, .row 69 []),(2, .row 69 (r.map Row.cells).flatten)]
@[reducible] def Y0 (a0:LN) (j0:Nat) (t0:(List Row)) (t7:Int) (t8:(List Int)) (r:(List Row)):Prop:=
  ∀(l0:LN),l0.drop j0=a0→j0≤l0.length→l0.length≤9223372036854775807→Ok Tryz.prog G tt 58 2 (Ret Tryz.prog [.tmp 6] (fun y H=>Qw Tryz.prog G 2 H y (.bs 5 1 2 0 r.length) ⟨3, [(0, .row 69 []),(2, .row 69 (r.map Row.cells).flatten)]⟩)) (.again (jj [1000000,2000002] Tryz.f59 0).1 (jj [1000000,2000002] Tryz.f59 0).2 (.n (.bs 5 0 5 0 t0.length) (.n .undef (.n .undef (.n (.int .i64 t7) .z .z) (.n .undef (.n .undef (.n (.sl 4 false (l0.map Node.cells)) .z .z) .z) .z)) (.n .undef .z (.n .undef (.n .undef (.n (.int .i64 ((j0:Nat):Int)) .z .z) .z) .z))) (.n .undef (.n .undef (.n (.bs 1 3 4 0 t8.length) .z .z) (.n .undef (.n .undef (.n (.int .i64 ((l0.map Node.cells).length:Int)) .z .z) .z) .z)) .z)) 6 [(5, .row 69 (t0.map Row.cells).flatten),(1, .dead),(2, .dead),(4, .row 3 (t8.map ic).flatten)])
theorem qcy:PC3 qap w8∧PC5 Y0 wa:=by
 refine w8.mutual_partial_correctness qap Y0 (fun wa Z0 a0 a1 a2 r h=> ?_) (fun w8 wa qav Z0 a0 j0 t0 t7 t8 r h=> ?_)
 ·unfold qa at h
  refine ⟨?_,(Z5 vy rfl (qqi rfl kh)),(kj vy (qgh zn)),(qpm (Z3 vy kg)),(qgh (kj vy zn)),rfl,rfl,rfl,rfl⟩
  refine Z2 (T:=tt) (N:=58) (rs:= [.tmp 6]) (fun vs w=>by simp) Tryz.func59 rfl rfl rfl (by kernel_rfl) (by kernel_rfl) ?_
  refine kr [1000000,2000002] ?_
  obtain ⟨x4,hx,h⟩:=bind_some h
  refine qp (qfx _ _ hx) ?_
  refine kr [1000000,2000002] ?_
  obtain ⟨x5,hx,h⟩:=bind_some h
  have hp_x5:=W5 hx (by simp)
  have hr_x5:=hx
  refine qta (C:=Row.cells) env hx rfl rfl rfl (by simp) (fun _=>rfl) rfl rfl rfl rfl rfl (by decide) rfl rfl rfl ?_
  refine kr [1000000,2000002] ?_
  refine qwc 0 3 69 (cs':=(x5.map Row.cells).flatten) rfl rfl (qrg hr_x5 (Yn (Zk _) (Yn (Zk _) (Yn (Zk _) (Yn (Zk _) (Yn (qpj (.inr rfl)) quw)))))) ?_
  refine qbn ?_
  refine kr [1000000,2000002] ?_
  refine qf (fun hb=> ?_) (fun hb=> ?_)
  ·replace h:=qx hb h
   refine kr [1000000,2000002] ?_
   cases h
   exact ya env rfl rfl (tS [none,some 0] (qdb rfl rfl (sR vy zt)) (j4 (qbt (ql3 rfl rfl rfl) (by simp)) (by simp)))
  replace h:=qy hb h
  refine kr [1000000,2000002] ?_
  obtain ⟨x6,hx,h⟩:=bind_some h
  refine q0g (C:=ic) env hx rfl rfl rfl rfl rfl rfl rfl rfl rfl rfl ?_
  refine kr [1000000,2000002] ?_
  refine qbb 35 rfl (fun hm=> ?_)
  exact jh (by kernel_rfl) lQ (Z0 _ _ _ _ _ _ h a1.kids rfl (Nat.zero_le _) (Zv hm))
 unfold qa at h
 intro l0 hl0 hj0 hm0
 refine j7 ?_
 cases a0 with
 | nil=>
   have hb:=J5 (C:=Node.cells) hl0 hj0
   refine kr [1000000,2000002] ?_
   refine qv hb ?_
   refine kr [1000000,2000002] ?_
   refine qs7 [(8,(.sl 1 false (t8.map ic)))] [3] rfl (qoc qa1 rfl rfl rfl qrn) rfl rfl ?_
   refine qbn ?_
   refine kr [1000000,2000002] ?_
   obtain ⟨x10,hx,h⟩:=bind_some h
   have he_x10:=hx
   refine qj0 env rfl rfl rfl rfl (qvo hx) (qsh hx) ?_
   refine kr [1000000,2000002] ?_
   refine qer (x':=(Row.mk x10.Parent x10.Kind x10.Text x10.Gaps t8)) (fo:=4) he_x10 vy rfl rfl rfl rfl rfl rfl rfl ?_
   refine kr [1000000,2000002] ?_
   cases h
   exact ya env rfl rfl (tS [none,some 0] (qdb rfl rfl (sR vy zt)) (j4 (qbt (ql3 rfl (by simp) rfl) (by simp)) (by simp)))
 | cons x_0 a0=>
   obtain ⟨hb,hx0,hd0,hk0,hw0⟩:=Zt (C:=Node.cells) hl0 hm0
   refine kr [1000000,2000002] ?_
   refine qu hb ?_
   refine kr [1000000,2000002] ?_
   refine We env rfl rfl rfl rfl (m:=j0) rfl (qaa hx0 (Node.cells_eq x_0)) ?_
   refine kr [1000000,2000002] ?_
   obtain ⟨x11,hx,h⟩:=bind_some h
   have he_x11:=hx
   refine qj0 env rfl rfl rfl rfl (qvo hx) (qsh hx) ?_
   refine kr [1000000,2000002] ?_
   refine qer (x':=(t0.length:Int)) (fo:=0) he_x11 qa1 rfl rfl rfl rfl rfl rfl rfl ?_
   refine kr [1000000,2000002] ?_
   obtain ⟨x12,hx,h⟩:=bind_some h
   refine qc (ACalls.ghost (e:=69) (AC.g9 (qav _ _ _ _ hx) [0,5] [5,7])) ?_
   refine kr [1000000,2000002] ?_
   exact zy (by kernel_rfl) (qdf [some 5,none,none,some 3] rfl rfl rfl (by simp only [hw0];simp <;> (repeat' apply And.intro) <;> first | rfl | exact fun x a _ h=>(vy.all a x h).2 | exact fun x a _ h=>(qa1.all a x h).2) (Yz vy rfl rfl (Wj rfl (Wj rfl (Yz qa1 rfl rfl qbr))))) (Z0 _ _ _ _ _ _ h l0 hd0 hk0 hm0)
theorem qav:PC3 qap w8:=qcy.1
theorem Z0:PC5 Y0 wa:=qcy.2
def wb (a0:LN) (j0:Nat) (t0:(List Row)) (t7:Int) (t8:(List Int)):Option ((List Row)):=
 match a0 with
 | []=>
   ix t0 t7 >>=fun x7=>
   some (t0.set t7.toNat (Row.mk x7.Parent x7.Kind x7.Text x7.Gaps t8))
 | x_0::a0=>
   ix t8 ((j0:Nat):Int) >>=fun x8=>
   w8 (qa t0) (qa x_0) (qa t7) >>=fun x9=>
   wb (qa a0) (j0+1) (qa x9) (qa t7) (t8.set ((j0:Nat):Int).toNat (t0.length:Int))
 partial_fixpoint
@[reducible] def qb3 (a0:LN) (j0:Nat) (t0:(List Row)) (t7:Int) (t8:(List Int)) (r:(List Row)):Prop:=
  ∀(l0:LN),l0.drop j0=a0→j0≤l0.length→l0.length≤9223372036854775807→Ok Tryz.prog G tt 58 1 (Ret Tryz.prog [.tmp 6] (fun y H=>Qw Tryz.prog G 1 H y (.sl 5 false (r.map Row.cells)) ⟨1, [(0, .row 69 [])]⟩)) (.again (jj [1000000,2000002] Tryz.f59 0).1 (jj [1000000,2000002] Tryz.f59 0).2 (.n (.bs 5 0 4 0 t0.length) (.n .undef (.n .undef (.n (.int .i64 t7) .z .z) (.n .undef (.n .undef (.n (.sl 4 false (l0.map Node.cells)) .z .z) .z) .z)) (.n .undef .z (.n .undef (.n .undef (.n (.int .i64 ((j0:Nat):Int)) .z .z) .z) .z))) (.n .undef (.n .undef (.n (.bs 1 2 3 0 t8.length) .z .z) (.n .undef (.n .undef (.n (.int .i64 ((l0.map Node.cells).length:Int)) .z .z) .z) .z)) .z)) 5 [(4, .row 69 (t0.map Row.cells).flatten),(1, .dead),(3, .row 3 (t8.map ic).flatten)])
theorem Y3:PC5 qb3 wb:=by
 refine wb.partial_correctness qb3 (fun wb Y3 a0 j0 t0 t7 t8 r h=> ?_)
 unfold qa at h
 intro l0 hl0 hj0 hm0
 refine j7 ?_
 cases a0 with
 | nil=>
   have hb:=J5 (C:=Node.cells) hl0 hj0
   refine kr [1000000,2000002] ?_
   refine qv hb ?_
   refine kr [1000000,2000002] ?_
   refine qs7 [(8,(.sl 1 false (t8.map ic)))] [2] rfl (qoc qa1 rfl rfl rfl qrn) rfl rfl ?_
   refine qbn ?_
   refine kr [1000000,2000002] ?_
   obtain ⟨x7,hx,h⟩:=bind_some h
   have he_x7:=hx
   refine qj0 env rfl rfl rfl rfl (qvo hx) (qsh hx) ?_
   refine kr [1000000,2000002] ?_
   refine qer (x':=(Row.mk x7.Parent x7.Kind x7.Text x7.Gaps t8)) (fo:=4) he_x7 vy rfl rfl rfl rfl rfl rfl rfl ?_
   refine kr [1000000,2000002] ?_
   cases h
   exact ya env rfl rfl (tS [none] (qdb rfl rfl zt) (j4 (qbt (qh (qwl vy (by simp only [List.length_set]) rfl) rfl) (by simp)) (by simp)))
 | cons x_0 a0=>
   obtain ⟨hb,hx0,hd0,hk0,hw0⟩:=Zt (C:=Node.cells) hl0 hm0
   refine kr [1000000,2000002] ?_
   refine qu hb ?_
   refine kr [1000000,2000002] ?_
   refine We env rfl rfl rfl rfl (m:=j0) rfl (qaa hx0 (Node.cells_eq x_0)) ?_
   refine kr [1000000,2000002] ?_
   obtain ⟨x8,hx,h⟩:=bind_some h
   have he_x8:=hx
   refine qj0 env rfl rfl rfl rfl (qvo hx) (qsh hx) ?_
   refine kr [1000000,2000002] ?_
   refine qer (x':=(t0.length:Int)) (fo:=0) he_x8 qa1 rfl rfl rfl rfl rfl rfl rfl ?_
   refine kr [1000000,2000002] ?_
   obtain ⟨x9,hx,h⟩:=bind_some h
   refine qc (ACalls.ghost (e:=69) (AC.g9 (qav _ _ _ _ hx) [0,4] [4,6])) ?_
   refine kr [1000000,2000002] ?_
   exact zy (by kernel_rfl) (qdf [some 4,none,some 2] rfl rfl rfl (by simp only [hw0];simp <;> (repeat' apply And.intro) <;> first | rfl | exact fun x a _ h=>(vy.all a x h).2 | exact fun x a _ h=>(qa1.all a x h).2) (Yz vy rfl rfl (Wj rfl (Yz qa1 rfl rfl qbr)))) (Y3 _ _ _ _ _ _ h l0 hd0 hk0 hm0)
def W7 (a0:(List Row)) (a1:Node) (a2:Int):Option ((List Row)):=
 u5 a1.gaps >>=fun x1=>
 app 80 a0 ([(Row.mk a2 a1.kind a1.text x1 ([]:(List Int)))]) >>=fun x2=>
 if (decide (((a1.kids.map Node.cells).length:Int)=(0:Int)))=true then
  some x2
 else
  mkz 8 ((a1.kids.map Node.cells).length:Int) (0:Int) >>=fun x3=>
  wb a1.kids 0 x2 (a0.length:Int) x3
@[reducible] def qks (a0:(List Row)) (a1:Node) (a2:Int) (r:(List Row)):Prop:=
  AC Tryz.prog G 59 [(.bs 5 0 0 0 a0.length),(.agg (zq a1)),(.int .i64 a2)] 1 [(0, .row 69 (a0.map Row.cells).flatten)] (.sl 5 false (r.map Row.cells)) 1 [(0, .row 69 [])]
theorem qkz:PC3 qks W7:=fun a0 a1 a2 r h=>by
 rw [W7.eq_def] at h
 refine ⟨?_,(Z5 vy rfl kh),(kj vy zn),(qpm kg),(qgh zn),rfl,rfl,rfl,rfl⟩
 refine Z2 (T:=tt) (N:=58) (rs:= [.tmp 6]) (fun vs w=>by simp) Tryz.func59 rfl rfl rfl (by kernel_rfl) (by kernel_rfl) ?_
 refine kr [1000000,2000002] ?_
 obtain ⟨x1,hx,h⟩:=bind_some h
 refine qp (qfx _ _ hx) ?_
 refine kr [1000000,2000002] ?_
 obtain ⟨x2,hx,h⟩:=bind_some h
 have hp_x2:=W5 hx (by simp)
 have hr_x2:=hx
 refine qta (C:=Row.cells) env hx rfl rfl rfl (by simp) (fun _=>rfl) rfl rfl rfl rfl rfl (by decide) rfl rfl rfl ?_
 refine kr [1000000,2000002] ?_
 refine qwc 0 2 69 (cs':=(x2.map Row.cells).flatten) rfl rfl (qrg hr_x2 (Yn (Zk _) (Yn (Zk _) (Yn (Zk _) (Yn (Zk _) (Yn (qpj (.inr rfl)) quw)))))) ?_
 refine qbn ?_
 refine kr [1000000,2000002] ?_
 refine qf (fun hb=> ?_) (fun hb=> ?_)
 ·replace h:=qx hb h
  refine kr [1000000,2000002] ?_
  cases h
  exact ya env rfl rfl (tS [none] (qdb rfl rfl zt) (j4 (qbt (qh (jd vy rfl) rfl) (by simp)) (by simp)))
 replace h:=qy hb h
 refine kr [1000000,2000002] ?_
 obtain ⟨x3,hx,h⟩:=bind_some h
 refine q0g (C:=ic) env hx rfl rfl rfl rfl rfl rfl rfl rfl rfl rfl ?_
 refine kr [1000000,2000002] ?_
 refine qbb 35 rfl (fun hm=> ?_)
 exact jh (by kernel_rfl) lQ (Y3 _ _ _ _ _ _ h a1.kids rfl (Nat.zero_le _) (Zv hm))
def qai (a0:Node):Option ((List Row)):=
 W7 ([]:List Row) a0 (-1:Int) >>=fun x1=>
 some x1
@[reducible] def qnu (a0:Node) (r:(List Row)):Prop:=
  Fn Tryz.prog G 35 [(.agg (zq a0))] (.sl 5 false (r.map Row.cells))
theorem qn1:PC1 qnu qai:=fun a0 r h=>by
 rw [qai.eq_def] at h
 refine zo (T:=tt) (N:=5) (rs:= [.tmp 2]) (fun vs w=>by simp) Tryz.func35 rfl rfl rfl rfl (by kernel_rfl) (jx rfl) (zh _ rfl) ?_
 refine kr [] ?_
 obtain ⟨x1,hx,h⟩:=bind_some h
 refine qc (ACalls.ghost (e:=69) (ACalls.wkg (AC.go (objs:= [(0, .var 45 (zq a0)),(1, .row 69 (([]:List Row).map Row.cells).flatten)]) (xs:= [(.bs 5 1 1 0 ([]:List Row).length),(.agg (zq a0)),(.int .i64 (-1:Int))]) (qkz _ _ _ _ hx) [1] [1] rfl rfl rfl rfl rfl rfl rfl rfl rfl) (qg (zb rfl) (qg (qq _) (qg (qq _) z6))) (zj _))) ?_
 refine kr [] ?_
 cases h
 exact kf
def vr (a0:(List Row)) (a1:Int):Option (BA × Bool):=
 ix a0 a1 >>=fun x1=>
 if (decide (x1.Parent < (0:Int)))=true then
  some ((⟨#[]⟩:BA),false)
 else
  ix a0 x1.Parent >>=fun x2=>
  if (!decide (x2.Kind=(7:Int)))=true then
   some ((⟨#[]⟩:BA),false)
  else
   ix a0 x1.Parent >>=fun x3=>
   some (x3.Text,true)
@[reducible] def qi5 (a0:(List Row)) (a1:Int) (r:BA × Bool):Prop:=
  Fn Tryz.prog G 36 [(.sl 5 false (a0.map Row.cells)),(.int .i64 a1)] (.tup [(.str r.1),(.bool r.2)])
theorem qcs:PC2 qi5 vr:=fun a0 a1 r h=>by
 rw [vr.eq_def] at h
 refine zo (T:=tt) (N:=27) (rs:= [.tmp 4, .tmp 5]) (fun vs w=>by simp) Tryz.func36 rfl rfl rfl rfl (by kernel_rfl) (jx rfl) (zh _ rfl) ?_
 refine kr [] ?_
 obtain ⟨x1,hx,h⟩:=bind_some h
 refine wo env hx rfl rfl rfl rfl rfl ?_
 refine kr [] ?_
 refine za (fun hb=> ?_) (fun hb=> ?_)
 ·replace h:=qy hb h
  refine kr [] ?_
  obtain ⟨x2,hx,h⟩:=bind_some h
  refine wo env hx rfl rfl rfl rfl rfl ?_
  refine kr [] ?_
  refine qf (fun hb=> ?_) (fun hb=> ?_)
  ·replace h:=qx hb h
   refine kr [] ?_
   cases h
   exact kf
  replace h:=qy hb h
  refine kr [] ?_
  obtain ⟨x3,hx,h⟩:=bind_some h
  refine wo env hx rfl rfl rfl rfl rfl ?_
  refine kr [] ?_
  cases h
  exact kf
 replace h:=qx hb h
 refine kr [] ?_
 cases h
 exact kf
def F_project_function_l0 (t0:(List Row)) (t5:Int):Option BA:=
 if (decide ((0:Int)≤t5))=true then
  ix t0 t5 >>=fun x2=>
  if (!decide (x2.Kind=(2:Int)))=true then
   ix t0 t5 >>=fun x3=>
   F_project_function_l0 (qa t0) x3.Parent
  else
   vr (qa t0) (qa t5) >>=fun x4=>
   if x4.2=true then
    cat x4.1 (⟨#[46]⟩:BA) >>=fun x5=>
    ix t0 t5 >>=fun x6=>
    cat x5 x6.Text >>=fun x7=>
    some x7
   else
    ix t0 t5 >>=fun x8=>
    some x8.Text
 else
  some (⟨#[]⟩:BA)
 partial_fixpoint
@[reducible] def Kb (t0:(List Row)) (t5:Int) (r:BA):Prop:=
  Ok Tryz.prog G tt 46 0 (Ret Tryz.prog [.tmp 4] (fun y H=>Told Tryz.prog G H y (.str r))) (.again (jj [] Tryz.f37 0).1 (jj [] Tryz.f37 0).2 (.n (.sl 5 false (t0.map Row.cells)) (.n .undef .z (.n (.int .i64 t5) .z .z)) .z) 0 [])
theorem Zp:PC2 Kb F_project_function_l0:=by
 refine F_project_function_l0.partial_correctness Kb (fun F_project_function_l0 Zp t0 t5 r h=> ?_)
 unfold qa at h
 refine j7 ?_
 refine kr [] ?_
 refine qf (fun hb=> ?_) (fun hb=> ?_)
 ·replace h:=qx hb h
  refine kr [] ?_
  obtain ⟨x2,hx,h⟩:=bind_some h
  refine wo env hx rfl rfl rfl rfl rfl ?_
  refine kr [] ?_
  refine qf (fun hb=> ?_) (fun hb=> ?_)
  ·replace h:=qx hb h
   refine kr [] ?_
   obtain ⟨x3,hx,h⟩:=bind_some h
   refine wo env hx rfl rfl rfl rfl rfl ?_
   refine kr [] ?_
   exact zy (by kernel_rfl) lA (Zp _ _ _ h)
  replace h:=qy hb h
  refine kr [] ?_
  obtain ⟨x4,hx,h⟩:=bind_some h
  refine qp (qcs _ _ _ hx) ?_
  refine kr [] ?_
  refine qf (fun hb=> ?_) (fun hb=> ?_)
  ·replace h:=qx hb h
   refine kr [] ?_
   obtain ⟨x5,hx,h⟩:=bind_some h
   refine qlf env hx rfl rfl ?_
   refine kr [] ?_
   obtain ⟨x6,hx,h⟩:=bind_some h
   refine wo env hx rfl rfl rfl rfl rfl ?_
   refine kr [] ?_
   obtain ⟨x7,hx,h⟩:=bind_some h
   refine qlf env hx rfl rfl ?_
   refine kr [] ?_
   cases h
   exact kf
  replace h:=qy hb h
  refine kr [] ?_
  obtain ⟨x8,hx,h⟩:=bind_some h
  refine wo env hx rfl rfl rfl rfl rfl ?_
  refine kr [] ?_
  cases h
  exact kf
 replace h:=qy hb h
 refine kr [] ?_
 cases h
 exact kf
def u1 (a0:(List Row)) (a1:Int):Option BA:=
 ix a0 a1 >>=fun x1=>
 F_project_function_l0 a0 x1.Parent
@[reducible] def qfv (a0:(List Row)) (a1:Int) (r:BA):Prop:=
  Fn Tryz.prog G 37 [(.sl 5 false (a0.map Row.cells)),(.int .i64 a1)] (.str r)
theorem qah:PC2 qfv u1:=fun a0 a1 r h=>by
 rw [u1.eq_def] at h
 refine zo (T:=tt) (N:=46) (rs:= [.tmp 4]) (fun vs w=>by simp) Tryz.func37 rfl rfl rfl rfl (by kernel_rfl) (jx rfl) (zh _ rfl) ?_
 refine kr [] ?_
 obtain ⟨x1,hx,h⟩:=bind_some h
 refine wo env hx rfl rfl rfl rfl rfl ?_
 refine kr [] ?_
 exact jh (by kernel_rfl) lA (Zp _ _ _ h)
mutual
def y3 (a0:(List Unit)) (j0:Nat) (t3:(List (Int × Int))) (t4:(List Decl)):Option ((List Decl)):=
 match a0 with
 | []=>
   some t4
 | x_0::a0=>
   if x_0.Broken=true then
    ky (qa a0) (qa j0) (qa t3) (qa t4)
   else
    qai x_0.Tree >>=fun x2=>
    zk (qa a0) (qa j0) (qa x2) 0 (qa t3) (qa t4) ((j0:Nat):Int) (qa x2)
 partial_fixpoint
def ky (a0:(List Unit)) (j0:Nat) (t3:(List (Int × Int))) (t4:(List Decl)):Option ((List Decl)):=
 y3 (qa a0) (j0+1) (qa t3) (qa t4)
 partial_fixpoint
def zk (a0:(List Unit)) (j0:Nat) (a1:(List Row)) (j1:Nat) (t3:(List (Int × Int))) (t4:(List Decl)) (t5:Int) (t7:(List Row)):Option ((List Decl)):=
 match a1 with
 | []=>
   ky (qa a0) (qa j0) (qa t3) (qa t4)
 | x_1 ::a1=>
   if (!(mhas t3 x_1.Kind))=true then
    y4 (qa a0) (qa j0) (qa a1) (qa j1) (qa t3) (qa t4) (qa t5) (qa t7)
   else
    vr (qa t7) ((j1:Nat):Int) >>=fun x3=>
    if x3.2=true then
     if (decide ((mget t3 x_1.Kind)=(1:Int)))=true then
      j6 (qa a0) (qa j0) (qa a1) (qa j1) (qa t3) (qa t4) (qa t5) (qa t7) ((j1:Nat):Int) (mget t3 x_1.Kind) (Decl.mk (4:Int) x3.1 x_1.Text (Ref.mk t5 ((j1:Nat):Int)))
     else
      j6 (qa a0) (qa j0) (qa a1) (qa j1) (qa t3) (qa t4) (qa t5) (qa t7) ((j1:Nat):Int) (mget t3 x_1.Kind) (Decl.mk (mget t3 x_1.Kind) (⟨#[]⟩) x_1.Text (Ref.mk t5 ((j1:Nat):Int)))
    else
     j6 (qa a0) (qa j0) (qa a1) (qa j1) (qa t3) (qa t4) (qa t5) (qa t7) ((j1:Nat):Int) (mget t3 x_1.Kind) (Decl.mk (mget t3 x_1.Kind) (⟨#[]⟩) x_1.Text (Ref.mk t5 ((j1:Nat):Int)))
 partial_fixpoint
def y4 (a0:(List Unit)) (j0:Nat) (a1:(List Row)) (j1:Nat) (t3:(List (Int × Int))) (t4:(List Decl)) (t5:Int) (t7:(List Row)):Option ((List Decl)):=
 zk (qa a0) (qa j0) (qa a1) (j1+1) (qa t3) (qa t4) (qa t5) (qa t7)
 partial_fixpoint
def j6 (a0:(List Unit)) (j0:Nat) (a1:(List Row)) (j1:Nat) (t3:(List (Int × Int))) (t4:(List Decl)) (t5:Int) (t7:(List Row)) (t8:Int) (t10:Int) (o2:Decl):Option ((List Decl)):=
 if (decide (t10=(5:Int)))=true then
  u1 (qa t7) (qa t8) >>=fun x5=>
  ka (qa a0) (qa j0) (qa a1) (qa j1) (qa t3) (qa t4) (qa t5) (qa t7) (Decl.mk o2.Kind x5 o2.Name o2.At)
 else
  if (decide (t10=(6:Int)))=true then
   u1 (qa t7) (qa t8) >>=fun x4=>
   ka (qa a0) (qa j0) (qa a1) (qa j1) (qa t3) (qa t4) (qa t5) (qa t7) (Decl.mk o2.Kind x4 o2.Name o2.At)
  else
   ka (qa a0) (qa j0) (qa a1) (qa j1) (qa t3) (qa t4) (qa t5) (qa t7) (qa o2)
 partial_fixpoint
def ka (a0:(List Unit)) (j0:Nat) (a1:(List Row)) (j1:Nat) (t3:(List (Int × Int))) (t4:(List Decl)) (t5:Int) (t7:(List Row)) (o2:Decl):Option ((List Decl)):=
 app 56 t4 ([o2]) >>=fun x6=>
 y4 (qa a0) (qa j0) (qa a1) (qa j1) (qa t3) (qa x6) (qa t5) (qa t7)
 partial_fixpoint
end
@[reducible] def Jt (a0:(List Unit)) (j0:Nat) (t3:(List (Int × Int))) (t4:(List Decl)) (r:(List Decl)):Prop:=
  ∀(l0:List Unit),l0.drop j0=a0→j0≤l0.length→l0.length≤9223372036854775807→Ok Tryz.prog G tt 82 0 (Ret Tryz.prog [.tmp 2] (fun y H=>Told Tryz.prog G H y (.sl 5 false (r.map Decl.cells)))) (.again (jj [1000001,1000003,61,70] Tryz.f19 0).1 (jj [1000001,1000003,61,70] Tryz.f19 0).2 (.n .undef (.n .undef (.n (.mp .i64 .i64 t3) .z .z) (.n .undef (.n .undef (.n (.int .i64 ((l0.map Unit.cells).length:Int)) .z .z) .z) .z)) (.n .undef (.n (.bs 5 0 0 0 t4.length) (.n .undef (.n (.sl 7 false (l0.map Unit.cells)) .z .z) .z) .z) (.n .undef (.n .undef (.n (.int .i64 ((j0:Nat):Int)) .z .z) .z) .z))) 1 [(0, .row 34 (t4.map Decl.cells).flatten)])
@[reducible] def Jv (a0:(List Unit)) (j0:Nat) (t3:(List (Int × Int))) (t4:(List Decl)) (r:(List Decl)):Prop:=
  ∀(l0:List Unit),l0.drop (j0+1)=a0→j0+1≤l0.length→l0.length≤9223372036854775807→Ok Tryz.prog G tt 82 0 (Ret Tryz.prog [.tmp 2] (fun y H=>Told Tryz.prog G H y (.sl 5 false (r.map Decl.cells)))) (.go [] (qiz [1000001,1000003,61,70] Tryz.f19 1) [] (.n .undef (.n .undef (.n (.mp .i64 .i64 t3) .z .z) (.n .undef (.n .undef (.n (.int .i64 ((l0.map Unit.cells).length:Int)) .z .z) .z) .z)) (.n .undef (.n (.bs 5 0 0 0 t4.length) (.n .undef (.n (.sl 7 false (l0.map Unit.cells)) .z .z) .z) .z) (.n .undef (.n .undef (.n (.int .i64 ((j0:Nat):Int)) .z .z) .z) .z))) 2 [(0, .row 34 (t4.map Decl.cells).flatten)])
@[reducible] def Js (a0:(List Unit)) (j0:Nat) (a1:(List Row)) (j1:Nat) (t3:(List (Int × Int))) (t4:(List Decl)) (t5:Int) (t7:(List Row)) (r:(List Decl)):Prop:=
  ∀(l0:List Unit),l0.drop (j0+1)=a0→j0+1≤l0.length→l0.length≤9223372036854775807→∀(l1:List Row),l1.drop j1=a1→j1≤l1.length→l1.length≤9223372036854775807→Ok Tryz.prog G tt 82 0 (Ret Tryz.prog [.tmp 2] (fun y H=>Told Tryz.prog G H y (.sl 5 false (r.map Decl.cells)))) (.again (jj [1000001,1000003,61,70] Tryz.f19 1).1 (jj [1000001,1000003,61,70] Tryz.f19 1).2 (.n .undef (.n .undef (.n (.mp .i64 .i64 t3) (.n (.sl 5 false (t7.map Row.cells)) .z .z) .z) (.n (.int .i64 t5) (.n .undef (.n (.int .i64 ((l0.map Unit.cells).length:Int)) .z .z) .z) (.n .undef .z (.n (.int .i64 ((l1.map Row.cells).length:Int)) .z .z)))) (.n .undef (.n (.bs 5 0 0 0 t4.length) (.n .undef (.n (.sl 7 false (l0.map Unit.cells)) .z .z) .z) (.n .undef .z (.n (.sl 5 false (l1.map Row.cells)) .z .z))) (.n .undef (.n .undef (.n (.int .i64 ((j0:Nat):Int)) .z .z) .z) (.n .undef .z (.n (.int .i64 ((j1:Nat):Int)) .z .z))))) 2 [(0, .row 34 (t4.map Decl.cells).flatten)])
@[reducible] def Ju (a0:(List Unit)) (j0:Nat) (a1:(List Row)) (j1:Nat) (t3:(List (Int × Int))) (t4:(List Decl)) (t5:Int) (t7:(List Row)) (r:(List Decl)):Prop:=
  ∀(l0:List Unit),l0.drop (j0+1)=a0→j0+1≤l0.length→l0.length≤9223372036854775807→∀(l1:List Row),l1.drop (j1+1)=a1→j1+1≤l1.length→l1.length≤9223372036854775807→Ok Tryz.prog G tt 82 0 (Ret Tryz.prog [.tmp 2] (fun y H=>Told Tryz.prog G H y (.sl 5 false (r.map Decl.cells)))) (.go [] (qiz [1000001,1000003,61,70] Tryz.f19 3) [] (.n .undef (.n .undef (.n (.mp .i64 .i64 t3) (.n (.sl 5 false (t7.map Row.cells)) .z .z) .z) (.n (.int .i64 t5) (.n .undef (.n (.int .i64 ((l0.map Unit.cells).length:Int)) .z .z) .z) (.n .undef .z (.n (.int .i64 ((l1.map Row.cells).length:Int)) .z .z)))) (.n .undef (.n (.bs 5 0 0 0 t4.length) (.n .undef (.n (.sl 7 false (l0.map Unit.cells)) .z .z) .z) (.n .undef .z (.n (.sl 5 false (l1.map Row.cells)) .z .z))) (.n .undef (.n .undef (.n (.int .i64 ((j0:Nat):Int)) .z .z) .z) (.n .undef .z (.n (.int .i64 ((j1:Nat):Int)) .z .z))))) 3 [(0, .row 34 (t4.map Decl.cells).flatten)])
@[reducible] def Jh (a0:(List Unit)) (j0:Nat) (a1:(List Row)) (j1:Nat) (t3:(List (Int × Int))) (t4:(List Decl)) (t5:Int) (t7:(List Row)) (t8:Int) (t10:Int) (o2:Decl) (r:(List Decl)):Prop:=
  ∀(l0:List Unit),l0.drop (j0+1)=a0→j0+1≤l0.length→l0.length≤9223372036854775807→∀(l1:List Row),l1.drop (j1+1)=a1→j1+1≤l1.length→l1.length≤9223372036854775807→Ok Tryz.prog G tt 82 0 (Ret Tryz.prog [.tmp 2] (fun y H=>Told Tryz.prog G H y (.sl 5 false (r.map Decl.cells)))) (.go [] (w9 [1000001,1000003,61,70] Tryz.f19 61) [] (.n .undef (.n .undef (.n (.mp .i64 .i64 t3) (.n (.sl 5 false (t7.map Row.cells)) .z .z) .z) (.n (.int .i64 t5) (.n .undef (.n (.int .i64 ((l0.map Unit.cells).length:Int)) .z .z) .z) (.n .undef .z (.n (.int .i64 ((l1.map Row.cells).length:Int)) .z .z)))) (.n .undef (.n (.bs 5 0 0 0 t4.length) (.n (.int .i64 t8) (.n (.sl 7 false (l0.map Unit.cells)) .z .z) .z) (.n (.ptr 2 3 0) .z (.n (.sl 5 false (l1.map Row.cells)) .z .z))) (.n .undef (.n (.int .i64 t10) (.n (.int .i64 ((j0:Nat):Int)) .z .z) .z) (.n .undef .z (.n (.int .i64 ((j1:Nat):Int)) .z .z))))) 4 [(0, .row 34 (t4.map Decl.cells).flatten),(2, .dead),(3, .var 34 (Decl.cells o2))])
@[reducible] def Jg (a0:(List Unit)) (j0:Nat) (a1:(List Row)) (j1:Nat) (t3:(List (Int × Int))) (t4:(List Decl)) (t5:Int) (t7:(List Row)) (o2:Decl) (r:(List Decl)):Prop:=
  ∀(l0:List Unit),l0.drop (j0+1)=a0→j0+1≤l0.length→l0.length≤9223372036854775807→∀(l1:List Row),l1.drop (j1+1)=a1→j1+1≤l1.length→l1.length≤9223372036854775807→Ok Tryz.prog G tt 82 0 (Ret Tryz.prog [.tmp 2] (fun y H=>Told Tryz.prog G H y (.sl 5 false (r.map Decl.cells)))) (.go [] (w9 [1000001,1000003,61,70] Tryz.f19 70) [] (.n .undef (.n .undef (.n (.mp .i64 .i64 t3) (.n (.sl 5 false (t7.map Row.cells)) .z .z) .z) (.n (.int .i64 t5) (.n .undef (.n (.int .i64 ((l0.map Unit.cells).length:Int)) .z .z) .z) (.n .undef .z (.n (.int .i64 ((l1.map Row.cells).length:Int)) .z .z)))) (.n .undef (.n (.bs 5 0 0 0 t4.length) (.n .undef (.n (.sl 7 false (l0.map Unit.cells)) .z .z) .z) (.n (.ptr 2 3 0) .z (.n (.sl 5 false (l1.map Row.cells)) .z .z))) (.n .undef (.n .undef (.n (.int .i64 ((j0:Nat):Int)) .z .z) .z) (.n .undef .z (.n (.int .i64 ((j1:Nat):Int)) .z .z))))) 4 [(0, .row 34 (t4.map Decl.cells).flatten),(2, .dead),(3, .var 34 (Decl.cells o2))])
theorem we:PC4 Jt y3∧PC8 Js zk∧PC11 Jh j6∧PC9 Jg ka∧PC8 Ju y4∧PC4 Jv ky:=by
 refine y3.mutual_partial_correctness Jt Js Jh Jg Ju Jv (fun zk ky Q7 Q9 a0 j0 t3 t4 r h=> ?_) (fun j6 y4 ky Qt Q8 Q9 a0 j0 a1 j1 t3 t4 t5 t7 r h=> ?_) (fun ka Qs a0 j0 a1 j1 t3 t4 t5 t7 t8 t10 o2 r h=> ?_) (fun y4 Q8 a0 j0 a1 j1 t3 t4 t5 t7 o2 r h=> ?_) (fun zk Q7 a0 j0 a1 j1 t3 t4 t5 t7 r h=> ?_) (fun y3 Jx a0 j0 t3 t4 r h=> ?_)
 ·unfold qa at h
  intro l0 hl0 hj0 hm0
  refine j7 ?_
  cases a0 with
  | nil=>
    have hb:=J5 (C:=Unit.cells) hl0 hj0
    refine kr [1000001,1000003,61,70] ?_
    refine qv hb ?_
    refine kr [1000001,1000003,61,70] ?_
    cases h
    exact j5 env rfl rfl (Y9 (qod (vc (jd ur rfl) (by simp)) (by simp)))
  | cons x_0 a0=>
    obtain ⟨hb,hx0,hd0,hk0,hw0⟩:=Zt (C:=Unit.cells) hl0 hm0
    refine kr [1000001,1000003,61,70] ?_
    refine qu hb ?_
    refine kr [1000001,1000003,61,70] ?_
    refine We env rfl rfl rfl rfl (m:=j0) rfl (qaa hx0 rfl) ?_
    refine kr [1000001,1000003,61,70] ?_
    refine qf (fun hb=> ?_) (fun hb=> ?_)
    ·replace h:=qx hb h
     refine kr [1000001,1000003,61,70] ?_
     exact qr (by kernel_rfl) rfl lA (Q9 _ _ _ _ _ h l0 hd0 hk0 hm0)
    replace h:=qy hb h
    refine kr [1000001,1000003,61,70] ?_
    obtain ⟨x2,hx,h⟩:=bind_some h
    refine qp (qn1 _ _ hx) ?_
    refine kr [1000001,1000003,61,70] ?_
    refine qbb 28 rfl (fun hm=> ?_)
    exact jh (by kernel_rfl) lA (Q7 _ _ _ _ _ _ _ _ _ h l0 hd0 hk0 hm0 x2 rfl (Nat.zero_le _) (Zv hm))
 ·unfold qa at h
  intro l0 hd0 hk0 hm0
  have hw0:=W4 hk0 hm0
  intro l1 hl1 hj1 hm1
  refine j7 ?_
  cases a1 with
  | nil=>
    have hb:=J5 (C:=Row.cells) hl1 hj1
    refine kr [1000001,1000003,61,70] ?_
    refine qv hb ?_
    refine kr [1000001,1000003,61,70] ?_
    exact qr (by kernel_rfl) rfl lA (Q9 _ _ _ _ _ h l0 hd0 hk0 hm0)
  | cons x_1 a1=>
    obtain ⟨hb,hx1,hd1,hk1,hw1⟩:=Zt (C:=Row.cells) hl1 hm1
    refine kr [1000001,1000003,61,70] ?_
    refine qu hb ?_
    refine kr [1000001,1000003,61,70] ?_
    refine We env rfl rfl rfl rfl (m:=j1) rfl (qaa hx1 rfl) ?_
    refine kr [1000001,1000003,61,70] ?_
    refine q39 env rfl rfl (by kernel_rfl) ?_
    refine kr [1000001,1000003,61,70] ?_
    refine qf (fun hb=> ?_) (fun hb=> ?_)
    ·replace h:=qx hb h
     refine kr [1000001,1000003,61,70] ?_
     exact qr (by kernel_rfl) rfl lA (Q8 _ _ _ _ _ _ _ _ _ h l0 hd0 hk0 hm0 l1 hd1 hk1 hm1)
    replace h:=qy hb h
    refine kr [1000001,1000003,61,70] ?_
    obtain ⟨x3,hx,h⟩:=bind_some h
    refine qp (qcs _ _ _ hx) ?_
    refine kr [1000001,1000003,61,70] ?_
    refine qo (fun hb=> ?_) (fun hb=> ?_)
    ·replace h:=qx hb h
     refine kr [1000001,1000003,61,70] ?_
     refine qf (fun hb=> ?_) (fun hb=> ?_)
     ·replace h:=qx hb h
      refine kr [1000001,1000003,61,70] ?_
      exact qr (by kernel_rfl) rfl lA (Qt _ _ _ _ _ _ _ _ _ _ _ _ h l0 hd0 hk0 hm0 l1 hd1 hk1 hm1)
     replace h:=qy hb h
     refine kr [1000001,1000003,61,70] ?_
     exact qr (by kernel_rfl) rfl lA (Qt _ _ _ _ _ _ _ _ _ _ _ _ h l0 hd0 hk0 hm0 l1 hd1 hk1 hm1)
    replace h:=qy hb h
    refine kr [1000001,1000003,61,70] ?_
    exact qr (by kernel_rfl) rfl lA (Qt _ _ _ _ _ _ _ _ _ _ _ _ h l0 hd0 hk0 hm0 l1 hd1 hk1 hm1)
 ·unfold qa at h
  intro l0 hd0 hk0 hm0
  have hw0:=W4 hk0 hm0
  intro l1 hd1 hk1 hm1
  have hw1:=W4 hk1 hm1
  refine kr [1000001,1000003,61,70] ?_
  refine za (fun hb=> ?_) (fun hb=> ?_)
  ·replace h:=qy hb h
   refine kr [1000001,1000003,61,70] ?_
   refine qf (fun hb=> ?_) (fun hb=> ?_)
   ·replace h:=qx hb h
    refine kr [1000001,1000003,61,70] ?_
    obtain ⟨x4,hx,h⟩:=bind_some h
    refine qp (qah _ _ _ hx) ?_
    refine kr [1000001,1000003,61,70] ?_
    exact qr (by kernel_rfl) rfl lA (Qs _ _ _ _ _ _ _ _ _ _ h l0 hd0 hk0 hm0 l1 hd1 hk1 hm1)
   replace h:=qy hb h
   refine kr [1000001,1000003,61,70] ?_
   exact qr (by kernel_rfl) rfl lA (Qs _ _ _ _ _ _ _ _ _ _ h l0 hd0 hk0 hm0 l1 hd1 hk1 hm1)
  replace h:=qx hb h
  refine kr [1000001,1000003,61,70] ?_
  obtain ⟨x5,hx,h⟩:=bind_some h
  refine qp (qah _ _ _ hx) ?_
  refine kr [1000001,1000003,61,70] ?_
  exact qr (by kernel_rfl) rfl lA (Qs _ _ _ _ _ _ _ _ _ _ h l0 hd0 hk0 hm0 l1 hd1 hk1 hm1)
 ·unfold qa at h
  intro l0 hd0 hk0 hm0
  have hw0:=W4 hk0 hm0
  intro l1 hd1 hk1 hm1
  have hw1:=W4 hk1 hm1
  refine kr [1000001,1000003,61,70] ?_
  obtain ⟨x6,hx,h⟩:=bind_some h
  have hp_x6:=W5 hx (by simp)
  refine qcr (C:=Decl.cells) env hx rfl rfl (by simp) (fun _=>rfl) rfl rfl rfl rfl rfl (by decide) rfl rfl rfl ?_
  refine kr [1000001,1000003,61,70] ?_
  exact qr (by kernel_rfl) rfl lA (Q8 _ _ _ _ _ _ _ _ _ h l0 hd0 hk0 hm0 l1 hd1 hk1 hm1)
 ·unfold qa at h
  intro l0 hd0 hk0 hm0
  have hw0:=W4 hk0 hm0
  intro l1 hd1 hk1 hm1
  have hw1:=W4 hk1 hm1
  refine kr [1000001,1000003,61,70] ?_
  exact zy (by kernel_rfl) (qcl (by simp only [hw1];simp <;> (repeat' apply And.intro) <;> first | rfl | exact fun x a _ h=>(ur.all a x h).2) (by simp <;> (repeat' apply And.intro) <;> first | rfl | exact fun x a _ h=>(ur.all a x h).2)) (Q7 _ _ _ _ _ _ _ _ _ h l0 hd0 hk0 hm0 l1 hd1 hk1 hm1)
 unfold qa at h
 intro l0 hd0 hk0 hm0
 have hw0:=W4 hk0 hm0
 refine kr [1000001,1000003,61,70] ?_
 exact zy (by kernel_rfl) (qcl (by simp only [hw0];simp <;> (repeat' apply And.intro) <;> first | rfl | exact fun x a _ h=>(ur.all a x h).2) (by simp <;> (repeat' apply And.intro) <;> first | rfl | exact fun x a _ h=>(ur.all a x h).2)) (Jx _ _ _ _ _ h l0 hd0 hk0 hm0)
theorem Jx:PC4 Jt y3:=we.1
theorem Q7:PC8 Js zk:=we.2.1
theorem Qt:PC11 Jh j6:=we.2.2.1
theorem Qs:PC9 Jg ka:=we.2.2.2.1
theorem Q8:PC8 Ju y4:=we.2.2.2.2.1
theorem Q9:PC4 Jv ky:=we.2.2.2.2.2
def vt (a0:(List Unit)):Option ((List Decl)):=
 qaz >>=fun x1=>
 y3 a0 0 x1 ([]:List Decl)
@[reducible] def qi6 (a0:(List Unit)) (r:(List Decl)):Prop:=
  Fn Tryz.prog G 19 [(.sl 7 false (a0.map Unit.cells))] (.sl 5 false (r.map Decl.cells))
theorem K4:PC1 qi6 vt:=fun a0 r h=>by
 rw [vt.eq_def] at h
 refine zo (T:=tt) (N:=82) (rs:= [.tmp 2]) (fun vs w=>by simp) Tryz.func19 rfl rfl rfl rfl (by kernel_rfl) (jx rfl) (zh _ rfl) ?_
 refine kr [1000001,1000003,61,70] ?_
 obtain ⟨x1,hx,h⟩:=bind_some h
 refine qp (qjb _ hx) ?_
 refine kr [1000001,1000003,61,70] ?_
 refine qqt 4 _ 5 34 rfl rfl ?_
 refine qbb 16 rfl (fun hm=> ?_)
 exact jh (by kernel_rfl) lA (Jx _ _ _ _ _ h a0 rfl (Nat.zero_le _) (Zv hm))
mutual
def km (a0:(List Decl)) (t1:Int) (t2:BA) (t3:BA):Option (Decl × Bool):=
 match a0 with
 | []=>
   some ((Decl.mk 0 (⟨#[]⟩) (⟨#[]⟩) (Ref.mk 0 0)),false)
 | x_0 ::a0=>
   if (decide (x_0.Kind=t1))=true then
    if (decide (x_0.Owner=t2))=true then
     if (decide (x_0.Name=t3))=true then
      some (x_0,true)
     else
      kx (qa a0) (qa t1) (qa t2) (qa t3)
    else
     kx (qa a0) (qa t1) (qa t2) (qa t3)
   else
    kx (qa a0) (qa t1) (qa t2) (qa t3)
 partial_fixpoint
def kx (a0:(List Decl)) (t1:Int) (t2:BA) (t3:BA):Option (Decl × Bool):=
 km (qa a0) (qa t1) (qa t2) (qa t3)
 partial_fixpoint
end
@[reducible] def Yj (a0:(List Decl)) (t1:Int) (t2:BA) (t3:BA) (r:Decl × Bool):Prop:=
  ∀(l0:List Decl) (j0:Nat),l0.drop j0=a0→j0≤l0.length→l0.length≤9223372036854775807→Ok Tryz.prog G tt 38 0 (Ret Tryz.prog [.cell 8 34, .tmp 9] (fun y H=>Told Tryz.prog G H y (.tup [(.agg (Decl.cells r.1)),(.bool r.2)]))) (.again (jj [34] Tryz.f16 0).1 (jj [34] Tryz.f16 0).2 (.n .undef (.n (.int .i64 t1) (.n (.str t3) (.n .undef (.n (.int .i64 ((j0:Nat):Int)) .z .z) .z) .z) (.n .undef .z (.n (.sl 5 false (l0.map Decl.cells)) .z .z))) (.n (.str t2) (.n .undef (.n (.ptr 0 0 0) .z .z) .z) (.n .undef .z (.n (.int .i64 ((l0.map Decl.cells).length:Int)) .z .z)))) 1 [(0, .var 34 [(.int .i64 0),(.str ⟨#[]⟩),(.str ⟨#[]⟩),(.int .i64 0),(.int .i64 0)])])
@[reducible] def Jr (a0:(List Decl)) (t1:Int) (t2:BA) (t3:BA) (r:Decl × Bool):Prop:=
  ∀(l0:List Decl) (j0:Nat),l0.drop (j0+1)=a0→j0+1≤l0.length→l0.length≤9223372036854775807→Ok Tryz.prog G tt 38 0 (Ret Tryz.prog [.cell 8 34, .tmp 9] (fun y H=>Told Tryz.prog G H y (.tup [(.agg (Decl.cells r.1)),(.bool r.2)]))) (.go [] (w9 [34] Tryz.f16 34) [] (.n .undef (.n (.int .i64 t1) (.n (.str t3) (.n .undef (.n (.int .i64 ((j0:Nat):Int)) .z .z) .z) .z) (.n .undef .z (.n (.sl 5 false (l0.map Decl.cells)) .z .z))) (.n (.str t2) (.n .undef (.n (.ptr 0 0 0) .z .z) .z) (.n .undef .z (.n (.int .i64 ((l0.map Decl.cells).length:Int)) .z .z)))) 2 [(0, .var 34 [(.int .i64 0),(.str ⟨#[]⟩),(.str ⟨#[]⟩),(.int .i64 0),(.int .i64 0)])])
theorem Wh:PC4 Yj km∧PC4 Jr kx:=by
 refine km.mutual_partial_correctness Yj Jr (fun kx Q6 a0 t1 t2 t3 r h=> ?_) (fun km Ym a0 t1 t2 t3 r h=> ?_)
 ·unfold qa at h
  intro l0 j0 hl0 hj0 hm0
  refine j7 ?_
  cases a0 with
  | nil=>
    have hb:=J5 (C:=Decl.cells) hl0 hj0
    refine kr [34] ?_
    refine qv hb ?_
    refine kr [34] ?_
    cases h
    exact kf
  | cons x_0 a0=>
    obtain ⟨hb,hx0,hd0,hk0,hw0⟩:=Zt (C:=Decl.cells) hl0 hm0
    refine kr [34] ?_
    refine qu hb ?_
    refine kr [34] ?_
    refine We env rfl rfl rfl rfl (m:=j0) rfl (qaa hx0 rfl) ?_
    refine kr [34] ?_
    refine qo (fun hb=> ?_) (fun hb=> ?_)
    ·replace h:=qx hb h
     refine kr [34] ?_
     refine qo (fun hb=> ?_) (fun hb=> ?_)
     ·replace h:=qx hb h
      refine kr [34] ?_
      refine qf (fun hb=> ?_) (fun hb=> ?_)
      ·replace h:=qx hb h
       refine kr [34] ?_
       cases h
       exact kf
      replace h:=qy hb h
      refine kr [34] ?_
      exact qr (by kernel_rfl) rfl lA (Q6 _ _ _ _ _ h l0 j0 hd0 hk0 hm0)
     replace h:=qy hb h
     refine kr [34] ?_
     exact qr (by kernel_rfl) rfl lA (Q6 _ _ _ _ _ h l0 j0 hd0 hk0 hm0)
    replace h:=qy hb h
    refine kr [34] ?_
    exact qr (by kernel_rfl) rfl lA (Q6 _ _ _ _ _ h l0 j0 hd0 hk0 hm0)
 unfold qa at h
 intro l0 j0 hd0 hk0 hm0
 have hw0:=W4 hk0 hm0
 refine kr [34] ?_
 exact zy (by kernel_rfl) (qcl (by simp only [hw0];simp <;> (repeat' apply And.intro) <;> first | rfl) (by simp <;> (repeat' apply And.intro) <;> first | rfl)) (Ym _ _ _ _ _ h l0 (j0+1) hd0 hk0 hm0)
theorem Ym:PC4 Yj km:=Wh.1
theorem Q6:PC4 Jr kx:=Wh.2
def Qp (a0:(List Unit)) (a1:Int) (a2:BA) (a3:BA):Option (Decl × Bool):=
 vt a0 >>=fun x1=>
 km x1 a1 a2 a3
@[reducible] def qj4 (a0:(List Unit)) (a1:Int) (a2:BA) (a3:BA) (r:Decl × Bool):Prop:=
  Fn Tryz.prog G 16 [(.sl 7 false (a0.map Unit.cells)),(.int .i64 a1),(.str a2),(.str a3)] (.tup [(.agg (Decl.cells r.1)),(.bool r.2)])
theorem Wy:PC4 qj4 Qp:=fun a0 a1 a2 a3 r h=>by
 rw [Qp.eq_def] at h
 refine zo (T:=tt) (N:=38) (rs:= [.cell 8 34, .tmp 9]) (fun vs w=>by simp) Tryz.func16 rfl rfl rfl rfl (by kernel_rfl) (jx rfl) (zh _ rfl) ?_
 refine kr [34] ?_
 obtain ⟨x1,hx,h⟩:=bind_some h
 refine qp (K4 _ _ hx) ?_
 refine kr [34] ?_
 refine qbb 13 rfl (fun hm=> ?_)
 exact jh (by kernel_rfl) lA (Ym _ _ _ _ _ h x1 0 rfl (Nat.zero_le _) (Zv hm))
def Kl  : Option Bool:=
 Zs ([(File.mk (⟨#[97]⟩:BA) (⟨#[99,108,97,115,115,32,67,32,123,32,102,110,32,109,40,97,32,105,110,116,41,32,105,110,116,32,123,32,108,101,116,32,98,32,61,32,97,59,32,114,101,116,117,114,110,32,98,59,32,125,32,125,10]⟩:BA)),(File.mk (⟨#[98]⟩:BA) (⟨#[102,110]⟩:BA))]) >>=fun x1=>
 vt x1.1 >>=fun x2=>
 Qp x1.1 (6:Int) (⟨#[67,46,109]⟩:BA) (⟨#[98]⟩:BA) >>=fun x3=>
 Qp x1.1 (1:Int) (⟨#[]⟩:BA) (⟨#[109]⟩:BA) >>=fun x4=>
 if (decide (x1.2=(0:Int)))=true then
  if (decide (((x1.1.map Unit.cells).length:Int)=(2:Int)))=true then
   ix x1.1 (0:Int) >>=fun x5=>
   if (!x5.Broken)=true then
    ix x1.1 (1:Int) >>=fun x6=>
    if x6.Broken=true then
     if (decide (((x2.map Decl.cells).length:Int)=(4:Int)))=true then
      ix x2 (1:Int) >>=fun x7=>
      if (decide (x7.Kind=(4:Int)))=true then
       ix x2 (1:Int) >>=fun x8=>
       if (decide (x8.Owner=(⟨#[67]⟩:BA)))=true then
        ix x2 (2:Int) >>=fun x9=>
        if (decide (x9.Owner=(⟨#[67,46,109]⟩:BA)))=true then
         if x3.2=true then
          ix x2 (3:Int) >>=fun x10=>
          if (decide (x3.1.Kind=x10.Kind) && (decide (x3.1.Owner=x10.Owner) && (decide (x3.1.Name=x10.Name) && (decide (x3.1.At.Unit=x10.At.Unit) && (decide (x3.1.At.Node=x10.At.Node) && true)))))=true then
           if (!x4.2)=true then
            Q2 ([(File.mk (⟨#[98]⟩:BA) (⟨#[]⟩)),(File.mk (⟨#[97]⟩:BA) (⟨#[]⟩))]) >>=fun x11=>
            some (decide (x11=(14:Int)))
           else
            some false
          else
           some false
         else
          some false
        else
         some false
       else
        some false
      else
       some false
     else
      some false
    else
     some false
   else
    some false
  else
   some false
 else
  some false
@[reducible] def qn0  (r:Bool):Prop:=
  Fn Tryz.prog G 9 [] (.bool r)
theorem qg5 :PC0 qn0 Kl:=fun  r h=>by
 rw [Kl.eq_def] at h
 refine zo (T:=tt) (N:=94) (rs:= [.tmp 0]) (fun vs w=>by simp) Tryz.func9 rfl rfl rfl rfl (by kernel_rfl) (jx rfl) (zh _ rfl) ?_
 refine kr [] ?_
 obtain ⟨x1,hx,h⟩:=bind_some h
 refine qp (Fn.wk (qj7 _ _ hx) (qoa (q1z (.inl rfl)) qre)) ?_
 refine kr [] ?_
 obtain ⟨x2,hx,h⟩:=bind_some h
 refine qp (K4 _ _ hx) ?_
 refine kr [] ?_
 obtain ⟨x3,hx,h⟩:=bind_some h
 refine qp (Wy _ _ _ _ _ hx) ?_
 refine kr [] ?_
 obtain ⟨x4,hx,h⟩:=bind_some h
 refine qp (Wy _ _ _ _ _ hx) ?_
 refine kr [] ?_
 refine qo (fun hb=> ?_) (fun hb=> ?_)
 ·replace h :=qx hb h
  refine kr [] ?_
  refine qo (fun hb=> ?_) (fun hb=> ?_)
  ·replace h :=qx hb h
   refine kr [] ?_
   obtain ⟨x5,hx,h⟩:=bind_some h
   refine wo env hx rfl rfl rfl rfl rfl ?_
   refine kr [] ?_
   refine qo (fun hb=> ?_) (fun hb=> ?_)
   ·replace h:=qx hb h
    refine kr [] ?_
    obtain ⟨x6,hx,h⟩:=bind_some h
    refine wo env hx rfl rfl rfl rfl rfl ?_
    refine kr [] ?_
    refine qo (fun hb=> ?_) (fun hb=> ?_)
    ·replace h:=qx hb h
     refine kr [] ?_
     refine qo (fun hb=> ?_) (fun hb=> ?_)
     ·replace h:=qx hb h
      refine kr [] ?_
      obtain ⟨x7,hx,h⟩:=bind_some h
      refine wo env hx rfl rfl rfl rfl rfl ?_
      refine kr [] ?_
      refine qo (fun hb=> ?_) (fun hb=> ?_)
      ·replace h:=qx hb h
       refine kr [] ?_
       obtain ⟨x8,hx,h⟩:=bind_some h
       refine wo env hx rfl rfl rfl rfl rfl ?_
       refine kr [] ?_
       refine qo (fun hb=> ?_) (fun hb=> ?_)
       ·replace h:=qx hb h
        refine kr [] ?_
        obtain ⟨x9,hx,h⟩:=bind_some h
        refine wo env hx rfl rfl rfl rfl rfl ?_
        refine kr [] ?_
        refine qo (fun hb=> ?_) (fun hb=> ?_)
        ·replace h:=qx hb h
         refine kr [] ?_
         refine qo (fun hb=> ?_) (fun hb=> ?_)
         ·replace h:=qx hb h
          refine kr [] ?_
          obtain ⟨x10,hx,h⟩:=bind_some h
          refine wo env hx rfl rfl rfl rfl rfl ?_
          refine kr [] ?_
          refine qo (fun hb=> ?_) (fun hb=> ?_)
          ·replace h:=qx hb h
           refine kr [] ?_
           refine qo (fun hb=> ?_) (fun hb=> ?_)
           ·replace h:=qx hb h
            refine kr [] ?_
            obtain ⟨x11,hx,h⟩:=bind_some h
            refine qp (Fn.wk (qct _ _ hx) (qoa (q1z (.inl rfl)) qre)) ?_
            refine kr [] ?_
            cases h
            exact kf
           replace h:=qy hb h
           refine kr [] ?_
           cases h
           exact kf
          replace h:=qy hb h
          refine kr [] ?_
          cases h
          exact kf
         replace h:=qy hb h
         refine kr [] ?_
         cases h
         exact kf
        replace h:=qy hb h
        refine kr [] ?_
        cases h
        exact kf
       replace h:=qy hb h
       refine kr [] ?_
       cases h
       exact kf
      replace h:=qy hb h
      refine kr [] ?_
      cases h
      exact kf
     replace h:=qy hb h
     refine kr [] ?_
     cases h
     exact kf
    replace h:=qy hb h
    refine kr [] ?_
    cases h
    exact kf
   replace h:=qy hb h
   refine kr [] ?_
   cases h
   exact kf
  replace h:=qy hb h
  refine kr [] ?_
  cases h
  exact kf
 replace h:=qy hb h
 refine kr [] ?_
 cases h
 exact kf
mutual
def Kj (a0:Node) (a1:Int) (a2:Int):Option Int:=
 if (decide (a1 < (1:Int)))=true then
  some (-1:Int)
 else
  if (decide (a2 < (1:Int)))=true then
   some (-1:Int)
  else
   if (decide (a1 < ((a0.kids.map Node.cells).length:Int)))=true then
    some (-1:Int)
   else
    Qf (qa a2) (IntKind.i64.wrap (a1 - (1:Int))) (0:Int) (qa a0)
 partial_fixpoint
def Qf (t2:Int) (t7:Int) (t8:Int) (o0:Node):Option Int:=
 if (decide (t8 < ((o0.kids.map Node.cells).length:Int)))=true then
  ix o0.kids t8 >>=fun x1=>
  Kj (qa x1) (qa t7) (IntKind.i64.wrap (t2 - (1:Int))) >>=fun x2=>
  if (decide (x2 < (0:Int)))=true then
   some (-1:Int)
  else
   Qf (qa t2) (qa x2) (IntKind.i64.wrap (t8+(1:Int))) (qa o0)
 else
  some t7
 partial_fixpoint
end
@[reducible] def qfw (a0:Node) (a1:Int) (a2:Int) (r:Int):Prop:=
  Fn Tryz.prog G 63 [(.agg (zq a0)),(.int .i64 a1),(.int .i64 a2)] (.int .i64 r)
@[reducible] def qb5 (t2:Int) (t7:Int) (t8:Int) (o0:Node) (r:Int):Prop:=
  Ok Tryz.prog G tt 43 0 (Ret Tryz.prog [.tmp 6] (fun y H=>Told Tryz.prog G H y (.int .i64 r))) (.again (jj [] Tryz.f63 0).1 (jj [] Tryz.f63 0).2 (.n .undef (.n .undef (.n (.ptr 0 0 0) (.n (.int .i64 t7) .z .z) .z) .z) (.n (.int .i64 t2) (.n .undef (.n (.int .i64 t8) .z .z) .z) .z)) 1 [(0, .var 45 (zq o0))])
theorem qg7:PC3 qfw Kj∧PC4 qb5 Qf:=by
 refine Kj.mutual_partial_correctness qfw qb5 (fun Qf K6 a0 a1 a2 r h=> ?_) (fun Kj Qf qfz K6 t2 t7 t8 o0 r h=> ?_)
 ·unfold qa at h
  refine zo (T:=tt) (N:=43) (rs:= [.tmp 6]) (fun vs w=>by simp) Tryz.func63 rfl rfl rfl rfl (by kernel_rfl) (jx rfl) (zh _ rfl) ?_
  refine kr [] ?_
  refine za (fun hb=> ?_) (fun hb=> ?_)
  ·replace h:=qy hb h
   refine kr [] ?_
   refine za (fun hb=> ?_) (fun hb=> ?_)
   ·replace h:=qy hb h
    refine kr [] ?_
    refine qf (fun hb=> ?_) (fun hb=> ?_)
    ·replace h:=qx hb h
     refine kr [] ?_
     cases h
     exact kf
    replace h:=qy hb h
    refine kr [] ?_
    exact jh (by kernel_rfl) lA (K6 _ _ _ _ _ h)
   replace h:=qx hb h
   refine kr [] ?_
   cases h
   exact kf
  replace h:=qx hb h
  refine kr [] ?_
  cases h
  exact kf
 unfold qa at h
 refine j7 ?_
 refine kr [] ?_
 refine qf (fun hb=> ?_) (fun hb=> ?_)
 ·replace h:=qx hb h
  refine kr [] ?_
  obtain ⟨x1,hx,h⟩:=bind_some h
  refine wo env hx rfl rfl rfl rfl (Node.cells_eq x1) ?_
  refine kr [] ?_
  obtain ⟨x2,hx,h⟩:=bind_some h
  refine qp (qfz _ _ _ _ hx) ?_
  refine kr [] ?_
  refine qf (fun hb=> ?_) (fun hb=> ?_)
  ·replace h:=qx hb h
   refine kr [] ?_
   cases h
   exact kf
  replace h:=qy hb h
  refine kr [] ?_
  exact zy (by kernel_rfl) lA (K6 _ _ _ _ _ h)
 replace h:=qy hb h
 refine kr [] ?_
 cases h
 exact kf
theorem qfz:PC3 qfw Kj:=qg7.1
theorem K6:PC4 qb5 Qf:=qg7.2
def qgo (a0:Node) (a1:Int) (a2:Int):Option Bool:=
 Kj a0 a1 a2 >>=fun x1=>
 some (decide ((0:Int)≤x1))
@[reducible] def qtb (a0:Node) (a1:Int) (a2:Int) (r:Bool):Prop:=
  Fn Tryz.prog G 40 [(.agg (zq a0)),(.int .i64 a1),(.int .i64 a2)] (.bool r)
theorem qtc:PC3 qtb qgo:=fun a0 a1 a2 r h=>by
 rw [qgo.eq_def] at h
 refine zo (T:=tt) (N:=12) (rs:= [.tmp 6]) (fun vs w=>by simp) Tryz.func40 rfl rfl rfl rfl (by kernel_rfl) (jx rfl) (zh _ rfl) ?_
 refine kr [] ?_
 obtain ⟨x1,hx,h⟩:=bind_some h
 refine qp (qfz _ _ _ _ hx) ?_
 refine kr [] ?_
 cases h
 exact kf
mutual
def Zi (a0:Node) (a1:Int):Option Int:=
 if (decide (a1 < (a0.text.size:Int)))=true then
  some (-1:Int)
 else
  if (decide (a1 < ((a0.gaps.map sc).length:Int)))=true then
   some (-1:Int)
  else
   u7 (IntKind.i64.wrap (a1 - (a0.text.size:Int))) (0:Int) (qa a0)
 partial_fixpoint
def u7 (t5:Int) (t6:Int) (o0:Node):Option Int:=
 if (decide (t6 < ((o0.gaps.map sc).length:Int)))=true then
  ix o0.gaps t6 >>=fun x1=>
  if (decide (t5≤(x1.size:Int)))=true then
   some (-1:Int)
  else
   ix o0.gaps t6 >>=fun x2=>
   u7 (IntKind.i64.wrap ((IntKind.i64.wrap (t5 - (x2.size:Int))) - (1:Int))) (IntKind.i64.wrap (t6+(1:Int))) (qa o0)
 else
  u6 (qa t5) (0:Int) (qa o0)
 partial_fixpoint
def u6 (t5:Int) (t7:Int) (o0:Node):Option Int:=
 if (decide (t7 < ((o0.kids.map Node.cells).length:Int)))=true then
  ix o0.kids t7 >>=fun x3=>
  Zi (qa x3) (qa t5) >>=fun x4=>
  if (decide (x4 < (0:Int)))=true then
   some (-1:Int)
  else
   u6 (qa x4) (IntKind.i64.wrap (t7+(1:Int))) (qa o0)
 else
  some t5
 partial_fixpoint
end
@[reducible] def qev (a0:Node) (a1:Int) (r:Int):Prop:=
  Fn Tryz.prog G 41 [(.agg (zq a0)),(.int .i64 a1)] (.int .i64 r)
@[reducible] def qat (t5:Int) (t6:Int) (o0:Node) (r:Int):Prop:=
  Ok Tryz.prog G tt 66 0 (Ret Tryz.prog [.tmp 4] (fun y H=>Told Tryz.prog G H y (.int .i64 r))) (.again (jj [] Tryz.f41 0).1 (jj [] Tryz.f41 0).2 (.n .undef (.n .undef .z (.n (.int .i64 t5) .z .z)) (.n (.ptr 0 0 0) .z (.n (.int .i64 t6) .z .z))) 1 [(0, .var 45 (zq o0))])
@[reducible] def qas (t5:Int) (t7:Int) (o0:Node) (r:Int):Prop:=
  Ok Tryz.prog G tt 66 0 (Ret Tryz.prog [.tmp 4] (fun y H=>Told Tryz.prog G H y (.int .i64 r))) (.again (jj [] Tryz.f41 1).1 (jj [] Tryz.f41 1).2 (.n .undef (.n .undef (.n .undef (.n (.int .i64 t7) .z .z) .z) (.n (.int .i64 t5) .z .z)) (.n (.ptr 0 0 0) .z .z)) 1 [(0, .var 45 (zq o0))])
theorem qcc:PC2 qev Zi∧PC3 qat u7∧PC3 qas u6:=by
 refine Zi.mutual_partial_correctness qev qat qas (fun u7 Yx a0 a1 r h=> ?_) (fun u7 u6 Yx Yw t5 t6 o0 r h=> ?_) (fun Zi u6 qew Yw t5 t7 o0 r h=> ?_)
 ·unfold qa at h
  refine zo (T:=tt) (N:=66) (rs:= [.tmp 4]) (fun vs w=>by simp) Tryz.func41 rfl rfl rfl rfl (by kernel_rfl) (jx rfl) (zh _ rfl) ?_
  refine kr [] ?_
  refine za (fun hb=> ?_) (fun hb=> ?_)
  ·replace h:=qy hb h
   refine kr [] ?_
   refine qf (fun hb=> ?_) (fun hb=> ?_)
   ·replace h:=qx hb h
    refine kr [] ?_
    cases h
    exact kf
   replace h:=qy hb h
   refine kr [] ?_
   exact jh (by kernel_rfl) lA (Yx _ _ _ _ h)
  replace h:=qx hb h
  refine kr [] ?_
  cases h
  exact kf
 ·unfold qa at h
  refine j7 ?_
  refine kr [] ?_
  refine qf (fun hb=> ?_) (fun hb=> ?_)
  ·replace h:=qx hb h
   refine kr [] ?_
   obtain ⟨x1,hx,h⟩:=bind_some h
   refine wo env hx rfl rfl rfl rfl rfl ?_
   refine kr [] ?_
   refine qf (fun hb=> ?_) (fun hb=> ?_)
   ·replace h:=qx hb h
    refine kr [] ?_
    cases h
    exact kf
   replace h:=qy hb h
   refine kr [] ?_
   obtain ⟨x2,hx,h⟩:=bind_some h
   refine wo env hx rfl rfl rfl rfl rfl ?_
   refine kr [] ?_
   exact zy (by kernel_rfl) lA (Yx _ _ _ _ h)
  replace h:=qy hb h
  refine kr [] ?_
  exact jh (by kernel_rfl) lA (Yw _ _ _ _ h)
 unfold qa at h
 refine j7 ?_
 refine kr [] ?_
 refine qf (fun hb=> ?_) (fun hb=> ?_)
 ·replace h:=qx hb h
  refine kr [] ?_
  obtain ⟨x3,hx,h⟩:=bind_some h
  refine wo env hx rfl rfl rfl rfl (Node.cells_eq x3) ?_
  refine kr [] ?_
  obtain ⟨x4,hx,h⟩:=bind_some h
  refine qp (qew _ _ _ hx) ?_
  refine kr [] ?_
  refine qf (fun hb=> ?_) (fun hb=> ?_)
  ·replace h:=qx hb h
   refine kr [] ?_
   cases h
   exact kf
  replace h:=qy hb h
  refine kr [] ?_
  exact zy (by kernel_rfl) lA (Yw _ _ _ _ h)
 replace h:=qy hb h
 refine kr [] ?_
 cases h
 exact kf
theorem qew:PC2 qev Zi:=qcc.1
theorem Yx:PC3 qat u7:=qcc.2.1
theorem Yw:PC3 qas u6:=qcc.2.2
def qb9 (a0:Node) (a1:Int) (a2:Int) (a3:Int):Option Bool:=
 qgo a0 a1 a2 >>=fun x1=>
 if x1=true then
  Zi a0 a3 >>=fun x2=>
  some (decide ((0:Int)≤x2))
 else
  some false
@[reducible] def qqu (a0:Node) (a1:Int) (a2:Int) (a3:Int) (r:Bool):Prop:=
  Fn Tryz.prog G 22 [(.agg (zq a0)),(.int .i64 a1),(.int .i64 a2),(.int .i64 a3)] (.bool r)
theorem qqx:PC4 qqu qb9:=fun a0 a1 a2 a3 r h=>by
 rw [qb9.eq_def] at h
 refine zo (T:=tt) (N:=19) (rs:= [.tmp 8]) (fun vs w=>by simp) Tryz.func22 rfl rfl rfl rfl (by kernel_rfl) (jx rfl) (zh _ rfl) ?_
 refine kr [] ?_
 obtain ⟨x1,hx,h⟩:=bind_some h
 refine qp (qtc _ _ _ _ hx) ?_
 refine kr [] ?_
 refine qo (fun hb=> ?_) (fun hb=> ?_)
 ·replace h:=qx hb h
  refine kr [] ?_
  obtain ⟨x2,hx,h⟩:=bind_some h
  refine qp (qew _ _ _ hx) ?_
  refine kr [] ?_
  cases h
  exact kf
 replace h:=qy hb h
 refine kr [] ?_
 cases h
 exact kf
def vg (t0:(List Unit)) (t3:Int):Option Bool:=
 if (decide (t3 < ((t0.map Unit.cells).length:Int)))=true then
  ix t0 t3 >>=fun x1=>
  qb9 x1.Tree (300:Int) (60:Int) (4000:Int) >>=fun x2=>
  if (!x2)=true then
   some false
  else
   vg (qa t0) (IntKind.i64.wrap (t3+(1:Int)))
 else
  some true
 partial_fixpoint
@[reducible] def qd6 (t0:(List Unit)) (t3:Int) (r:Bool):Prop:=
  Ok Tryz.prog G tt 20 0 (Ret Tryz.prog [.tmp 2] (fun y H=>Told Tryz.prog G H y (.bool r))) (.again (jj [] Tryz.f15 0).1 (jj [] Tryz.f15 0).2 (.n (.sl 7 false (t0.map Unit.cells)) (.n .undef (.n (.int .i64 t3) .z .z) .z) .z) 0 [])
theorem W1:PC2 qd6 vg:=by
 refine vg.partial_correctness qd6 (fun vg W1 t0 t3 r h=> ?_)
 unfold qa at h
 refine j7 ?_
 refine kr [] ?_
 refine qf (fun hb=> ?_) (fun hb=> ?_)
 ·replace h:=qx hb h
  refine kr [] ?_
  obtain ⟨x1,hx,h⟩:=bind_some h
  refine wo env hx rfl rfl rfl rfl rfl ?_
  refine kr [] ?_
  obtain ⟨x2,hx,h⟩:=bind_some h
  refine qp (qqx _ _ _ _ _ hx) ?_
  refine kr [] ?_
  refine qf (fun hb=> ?_) (fun hb=> ?_)
  ·replace h:=qx hb h
   refine kr [] ?_
   cases h
   exact kf
  replace h:=qy hb h
  refine kr [] ?_
  exact zy (by kernel_rfl) lA (W1 _ _ _ h)
 replace h:=qy hb h
 refine kr [] ?_
 cases h
 exact kf
def qal (a0:(List Unit)):Option Bool:=
 if (decide ((4:Int) < ((a0.map Unit.cells).length:Int)))=true then
  some false
 else
  vg a0 (0:Int)
@[reducible] def qnz (a0:(List Unit)) (r:Bool):Prop:=
  Fn Tryz.prog G 15 [(.sl 7 false (a0.map Unit.cells))] (.bool r)
theorem qn5:PC1 qnz qal:=fun a0 r h=>by
 rw [qal.eq_def] at h
 refine zo (T:=tt) (N:=20) (rs:= [.tmp 2]) (fun vs w=>by simp) Tryz.func15 rfl rfl rfl rfl (by kernel_rfl) (jx rfl) (zh _ rfl) ?_
 refine kr [] ?_
 refine qf (fun hb=> ?_) (fun hb=> ?_)
 ·replace h:=qx hb h
  refine kr [] ?_
  cases h
  exact kf
 replace h:=qy hb h
 refine kr [] ?_
 exact jh (by kernel_rfl) lA (W1 _ _ _ h)
def ux (o4:Decl):Option (Decl × Bool):=
 some (o4,true)
@[reducible] def qd5 (o4:Decl) (r:Decl × Bool):Prop:=
  Ok Tryz.prog G tt 43 0 (Ret Tryz.prog [.cell 6 34, .tmp 7] (fun y H=>Told Tryz.prog G H y (.tup [(.agg (Decl.cells r.1)),(.bool r.2)]))) (.go [] (w9 [16,20,25,28,37] Tryz.f60 16) [] (.n .undef .z (.n .undef (.n .undef (.n (.ptr 4 4 0) .z .z) .z) (.n (.ptr 3 3 0) .z .z))) 5 [(0, .dead),(1, .dead),(2, .dead),(3, .var 34 [(.int .i64 0),(.str ⟨#[]⟩),(.str ⟨#[]⟩),(.int .i64 0),(.int .i64 0)]),(4, .var 34 (Decl.cells o4))])
theorem Kh:PC1 qd5 ux:=fun o4 r h=>by
 rw [ux.eq_def] at h
 refine kr [16,20,25,28,37] ?_
 cases h
 exact kf
def uw (o4:Decl):Option (Decl × Bool):=
 ux o4
@[reducible] def qd4 (o4:Decl) (r:Decl × Bool):Prop:=
  Ok Tryz.prog G tt 43 0 (Ret Tryz.prog [.cell 6 34, .tmp 7] (fun y H=>Told Tryz.prog G H y (.tup [(.agg (Decl.cells r.1)),(.bool r.2)]))) (.go [] (w9 [16,20,25,28,37] Tryz.f60 20) [] (.n .undef .z (.n .undef (.n .undef (.n (.ptr 4 4 0) .z .z) .z) (.n (.ptr 3 3 0) .z .z))) 5 [(0, .dead),(1, .dead),(2, .dead),(3, .var 34 [(.int .i64 0),(.str ⟨#[]⟩),(.str ⟨#[]⟩),(.int .i64 0),(.int .i64 0)]),(4, .var 34 (Decl.cells o4))])
theorem Kg:PC1 qd4 uw:=fun o4 r h=>by
 rw [uw.eq_def] at h
 refine kr [16,20,25,28,37] ?_
 exact qr (by kernel_rfl) rfl lA (Kh _ _ h)
def uv (o4:Decl):Option (Decl × Bool):=
 ux o4
@[reducible] def qd3 (o4:Decl) (r:Decl × Bool):Prop:=
  Ok Tryz.prog G tt 43 0 (Ret Tryz.prog [.cell 6 34, .tmp 7] (fun y H=>Told Tryz.prog G H y (.tup [(.agg (Decl.cells r.1)),(.bool r.2)]))) (.go [] (w9 [16,20,25,28,37] Tryz.f60 25) [] (.n .undef .z (.n .undef (.n .undef (.n (.ptr 4 4 0) .z .z) .z) (.n (.ptr 3 3 0) .z .z))) 5 [(0, .dead),(1, .dead),(2, .dead),(3, .var 34 [(.int .i64 0),(.str ⟨#[]⟩),(.str ⟨#[]⟩),(.int .i64 0),(.int .i64 0)]),(4, .var 34 (Decl.cells o4))])
theorem Kf:PC1 qd3 uv:=fun o4 r h=>by
 rw [uv.eq_def] at h
 refine kr [16,20,25,28,37] ?_
 exact qr (by kernel_rfl) rfl lA (Kh _ _ h)
def uu (o4:Decl):Option (Decl × Bool):=
 uv o4
@[reducible] def qd2 (o4:Decl) (r:Decl × Bool):Prop:=
  Ok Tryz.prog G tt 43 0 (Ret Tryz.prog [.cell 6 34, .tmp 7] (fun y H=>Told Tryz.prog G H y (.tup [(.agg (Decl.cells r.1)),(.bool r.2)]))) (.go [] (w9 [16,20,25,28,37] Tryz.f60 28) [] (.n .undef .z (.n .undef (.n .undef (.n (.ptr 4 4 0) .z .z) .z) (.n (.ptr 3 3 0) .z .z))) 5 [(0, .dead),(1, .dead),(2, .dead),(3, .var 34 [(.int .i64 0),(.str ⟨#[]⟩),(.str ⟨#[]⟩),(.int .i64 0),(.int .i64 0)]),(4, .var 34 (Decl.cells o4))])
theorem Ke:PC1 qd2 uu:=fun o4 r h=>by
 rw [uu.eq_def] at h
 refine kr [16,20,25,28,37] ?_
 exact qr (by kernel_rfl) rfl lA (Kf _ _ h)
def kc (o2:Around) (o4:Decl):Option (Decl × Bool):=
 uu (Decl.mk o4.Kind o2.function_ o4.Name o4.At)
@[reducible] def qd1 (o2:Around) (o4:Decl) (r:Decl × Bool):Prop:=
  Ok Tryz.prog G tt 43 0 (Ret Tryz.prog [.cell 6 34, .tmp 7] (fun y H=>Told Tryz.prog G H y (.tup [(.agg (Decl.cells r.1)),(.bool r.2)]))) (.go [] (w9 [16,20,25,28,37] Tryz.f60 37) [] (.n .undef (.n .undef .z (.n (.ptr 2 2 0) .z .z)) (.n .undef (.n .undef (.n (.ptr 4 4 0) .z .z) .z) (.n (.ptr 3 3 0) .z .z))) 5 [(0, .dead),(1, .dead),(2, .var 77 (Around.cells o2)),(3, .var 34 [(.int .i64 0),(.str ⟨#[]⟩),(.str ⟨#[]⟩),(.int .i64 0),(.int .i64 0)]),(4, .var 34 (Decl.cells o4))])
theorem vj:PC2 qd1 kc:=fun o2 o4 r h=>by
 rw [kc.eq_def] at h
 refine kr [16,20,25,28,37] ?_
 exact qr (by kernel_rfl) rfl lA (Ke _ _ h)
def Zc (a0:Node) (a1:Ref) (a2:Around):Option (Decl × Bool):=
 if (decide (a0.kind=(2:Int)))=true then
  if a2.method_=true then
   uw (Decl.mk (4:Int) a2.class_ a0.text a1)
  else
   uw (Decl.mk (1:Int) (⟨#[]⟩) a0.text a1)
 else
  if (decide (a0.kind=(7:Int)))=true then
   uv (Decl.mk (2:Int) (⟨#[]⟩) a0.text a1)
  else
   if (decide (a0.kind=(9:Int)))=true then
    uu (Decl.mk (3:Int) (⟨#[]⟩) a0.text a1)
   else
    if (decide (a0.kind=(4:Int)))=true then
     if (decide (a0.kind=(10:Int)))=true then
      kc a2 (Decl.mk (6:Int) (⟨#[]⟩) a0.text a1)
     else
      kc a2 (Decl.mk (5:Int) (⟨#[]⟩) a0.text a1)
    else
     if (decide (a0.kind=(10:Int)))=true then
      if (decide (a0.kind=(10:Int)))=true then
       kc a2 (Decl.mk (6:Int) (⟨#[]⟩) a0.text a1)
      else
       kc a2 (Decl.mk (5:Int) (⟨#[]⟩) a0.text a1)
     else
      some ((Decl.mk 0 (⟨#[]⟩) (⟨#[]⟩) (Ref.mk 0 0)),false)
@[reducible] def qgr (a0:Node) (a1:Ref) (a2:Around) (r:Decl × Bool):Prop:=
  Fn Tryz.prog G 60 [(.agg (zq a0)),(.agg (Ref.cells a1)),(.agg (Around.cells a2))] (.tup [(.agg (Decl.cells r.1)),(.bool r.2)])
theorem qgs:PC3 qgr Zc:=fun a0 a1 a2 r h=>by
 rw [Zc.eq_def] at h
 refine zo (T:=tt) (N:=43) (rs:= [.cell 6 34, .tmp 7]) (fun vs w=>by simp) Tryz.func60 rfl rfl rfl rfl (by kernel_rfl) (jx rfl) (zh _ rfl) ?_
 refine kr [16,20,25,28,37] ?_
 refine qf (fun hb=> ?_) (fun hb=> ?_)
 ·replace h:=qx hb h
  refine kr [16,20,25,28,37] ?_
  refine qf (fun hb=> ?_) (fun hb=> ?_)
  ·replace h:=qx hb h
   refine kr [16,20,25,28,37] ?_
   exact qr (by kernel_rfl) rfl lA (Kg _ _ h)
  replace h:=qy hb h
  refine kr [16,20,25,28,37] ?_
  exact qr (by kernel_rfl) rfl lA (Kg _ _ h)
 replace h:=qy hb h
 refine kr [16,20,25,28,37] ?_
 refine qf (fun hb=> ?_) (fun hb=> ?_)
 ·replace h:=qx hb h
  refine kr [16,20,25,28,37] ?_
  exact qr (by kernel_rfl) rfl lA (Kf _ _ h)
 replace h:=qy hb h
 refine kr [16,20,25,28,37] ?_
 refine qf (fun hb=> ?_) (fun hb=> ?_)
 ·replace h:=qx hb h
  refine kr [16,20,25,28,37] ?_
  exact qr (by kernel_rfl) rfl lA (Ke _ _ h)
 replace h:=qy hb h
 refine kr [16,20,25,28,37] ?_
 refine qf (fun hb=> ?_) (fun hb=> ?_)
 ·replace h:=qx hb h
  refine kr [16,20,25,28,37] ?_
  refine qf (fun hb=> ?_) (fun hb=> ?_)
  ·replace h:=qx hb h
   refine kr [16,20,25,28,37] ?_
   exact qr (by kernel_rfl) rfl lA (vj _ _ _ h)
  replace h:=qy hb h
  refine kr [16,20,25,28,37] ?_
  exact qr (by kernel_rfl) rfl lA (vj _ _ _ h)
 replace h:=qy hb h
 refine kr [16,20,25,28,37] ?_
 refine qf (fun hb=> ?_) (fun hb=> ?_)
 ·replace h:=qx hb h
  refine kr [16,20,25,28,37] ?_
  refine qf (fun hb=> ?_) (fun hb=> ?_)
  ·replace h:=qx hb h
   refine kr [16,20,25,28,37] ?_
   exact qr (by kernel_rfl) rfl lA (vj _ _ _ h)
  replace h:=qy hb h
  refine kr [16,20,25,28,37] ?_
  exact qr (by kernel_rfl) rfl lA (vj _ _ _ h)
 replace h:=qy hb h
 refine kr [16,20,25,28,37] ?_
 cases h
 exact kf
def Ja (o3:Around):Option (Around):=
 some o3
@[reducible] def qi9 (o3:Around) (r:Around):Prop:=
  Ok Tryz.prog G tt 30 0 (Ret Tryz.prog [.cell 4 77] (fun y H=>Told Tryz.prog G H y (.agg (Around.cells r)))) (.go [] (w9 [16,21] Tryz.f61 16) [] (.n .undef (.n .undef .z (.n (.ptr 3 3 0) .z .z)) (.n .undef (.n (.ptr 2 2 0) .z .z) .z)) 4 [(0, .dead),(1, .dead),(2, .var 77 [(.str ⟨#[]⟩),(.str ⟨#[]⟩),(.bool false)]),(3, .var 77 (Around.cells o3))])
theorem qcv:PC1 qi9 Ja:=fun o3 r h=>by
 rw [Ja.eq_def] at h
 refine kr [16,21] ?_
 cases h
 exact kf
def Z9 (o3:Around):Option (Around):=
 Ja o3
@[reducible] def qi8 (o3:Around) (r:Around):Prop:=
  Ok Tryz.prog G tt 30 0 (Ret Tryz.prog [.cell 4 77] (fun y H=>Told Tryz.prog G H y (.agg (Around.cells r)))) (.go [] (w9 [16,21] Tryz.f61 21) [] (.n .undef (.n .undef .z (.n (.ptr 3 3 0) .z .z)) (.n .undef (.n (.ptr 2 2 0) .z .z) .z)) 4 [(0, .dead),(1, .dead),(2, .var 77 [(.str ⟨#[]⟩),(.str ⟨#[]⟩),(.bool false)]),(3, .var 77 (Around.cells o3))])
theorem qcu:PC1 qi8 Z9:=fun o3 r h=>by
 rw [Z9.eq_def] at h
 refine kr [16,21] ?_
 exact qr (by kernel_rfl) rfl lA (qcv _ _ h)
def qak (a0:Node) (a1:Around):Option (Around):=
 if (decide (a0.kind=(2:Int)))=true then
  if a1.method_=true then
   cat a1.class_ (⟨#[46]⟩:BA) >>=fun x1=>
   cat x1 a0.text >>=fun x2=>
   Z9 (Around.mk x2 a0.text (decide (a0.kind=(7:Int))))
  else
   Z9 (Around.mk a0.text a0.text (decide (a0.kind=(7:Int))))
 else
  Ja (Around.mk a1.function_ a0.text (decide (a0.kind=(7:Int))))
@[reducible] def qnx (a0:Node) (a1:Around) (r:Around):Prop:=
  Fn Tryz.prog G 61 [(.agg (zq a0)),(.agg (Around.cells a1))] (.agg (Around.cells r))
theorem qn4:PC2 qnx qak:=fun a0 a1 r h=>by
 rw [qak.eq_def] at h
 refine zo (T:=tt) (N:=30) (rs:= [.cell 4 77]) (fun vs w=>by simp) Tryz.func61 rfl rfl rfl rfl (by kernel_rfl) (jx rfl) (zh _ rfl) ?_
 refine kr [16,21] ?_
 refine qf (fun hb=> ?_) (fun hb=> ?_)
 ·replace h:=qx hb h
  refine kr [16,21] ?_
  refine qf (fun hb=> ?_) (fun hb=> ?_)
  ·replace h:=qx hb h
   refine kr [16,21] ?_
   obtain ⟨x1,hx,h⟩:=bind_some h
   refine qlf env hx rfl rfl ?_
   refine kr [16,21] ?_
   obtain ⟨x2,hx,h⟩:=bind_some h
   refine qlf env hx rfl rfl ?_
   refine kr [16,21] ?_
   exact qr (by kernel_rfl) rfl lA (qcu _ _ h)
  replace h:=qy hb h
  refine kr [16,21] ?_
  exact qr (by kernel_rfl) rfl lA (qcu _ _ h)
 replace h:=qy hb h
 refine kr [16,21] ?_
 exact qr (by kernel_rfl) rfl lA (qcv _ _ h)
mutual
def Zb (a0:(List Decl)) (a1:Node) (a2:Ref) (a3:Around):Option ((List Decl) × Ref):=
 Zc (qa a1) (qa a2) (qa a3) >>=fun x3=>
 if x3.2=true then
  app 56 a0 ([x3.1]) >>=fun x4=>
  u3 (qa x4) (qa a1) (qa a2) (qa a3)
 else
  u3 (qa a0) (qa a1) (qa a2) (qa a3)
 partial_fixpoint
def u3 (t10:(List Decl)) (o2:Node) (o3:Ref) (o4:Around):Option ((List Decl) × Ref):=
 qak (qa o2) (qa o4) >>=fun x6=>
 wu (qa t10) (0:Int) (qa o2) (qa x6) (Ref.mk o3.Unit (IntKind.i64.wrap (o3.Node+(1:Int))))
 partial_fixpoint
def wu (t10:(List Decl)) (t15:Int) (o2:Node) (o6:Around) (o7:Ref):Option ((List Decl) × Ref):=
 if (decide (t15 < ((o2.kids.map Node.cells).length:Int)))=true then
  ix o2.kids t15 >>=fun x9=>
  Zb (qa t10) (qa x9) (qa o7) (qa o6) >>=fun x10=>
  wu x10.1 (IntKind.i64.wrap (t15+(1:Int))) (qa o2) (qa o6) x10.2
 else
  some (t10,o7)
 partial_fixpoint
end
@[reducible] def qb6 (a0:(List Decl)) (a1:Node) (a2:Ref) (a3:Around) (r:(List Decl) × Ref):Prop:=
  AC Tryz.prog G 38 [(.bs 5 0 0 0 a0.length),(.agg (zq a1)),(.agg (Ref.cells a2)),(.agg (Around.cells a3))] 2 [(0, .row 34 (a0.map Decl.cells).flatten),(1, .row 34 [])] (.tup [(.bs 5 1 2 0 r.1.length),(.agg (Ref.cells r.2))]) 3 [(0, .row 34 []),(2, .row 34 (r.1.map Decl.cells).flatten)]
@[reducible] def Y2 (t10:(List Decl)) (o2:Node) (o3:Ref) (o4:Around) (r:(List Decl) × Ref):Prop:=
  Ok Tryz.prog G tt 63 2 (Ret Tryz.prog [.tmp 8, .cell 9 32] (fun y H=>Qw Tryz.prog G 2 H y (.tup [(.bs 5 1 2 0 r.1.length),(.agg (Ref.cells r.2))]) ⟨3, [(0, .row 34 []),(2, .row 34 (r.1.map Decl.cells).flatten)]⟩)) (.go [] (w9 [26] Tryz.f38 26) [] (.n .undef (.n .undef (.n .undef (.n (.ptr 4 4 0) .z .z) .z) (.n (.ptr 2 2 0) (.n (.ptr 5 5 0) .z .z) .z)) (.n .undef .z (.n (.ptr 3 3 0) (.n (.bs 5 0 8 0 t10.length) .z .z) .z))) 9 [(8, .row 34 (t10.map Decl.cells).flatten),(1, .dead),(2, .var 45 (zq o2)),(3, .var 32 (Ref.cells o3)),(4, .var 77 (Around.cells o4)),(5, .var 32 [(.int .i64 0),(.int .i64 0)])])
@[reducible] def K2 (t10:(List Decl)) (t15:Int) (o2:Node) (o6:Around) (o7:Ref) (r:(List Decl) × Ref):Prop:=
  Ok Tryz.prog G tt 63 2 (Ret Tryz.prog [.tmp 8, .cell 9 32] (fun y H=>Qw Tryz.prog G 2 H y (.tup [(.bs 5 1 2 0 r.1.length),(.agg (Ref.cells r.2))]) ⟨3, [(0, .row 34 []),(2, .row 34 (r.1.map Decl.cells).flatten)]⟩)) (.again (jj [26] Tryz.f38 0).1 (jj [26] Tryz.f38 0).2 (.n .undef (.n .undef (.n .undef (.n .undef (.n (.int .i64 t15) .z .z) .z) .z) (.n (.ptr 2 2 0) (.n (.ptr 5 5 0) .z .z) (.n (.ptr 6 9 0) .z .z))) (.n .undef .z (.n .undef (.n (.bs 5 0 11 0 t10.length) .z .z) (.n (.ptr 7 10 0) .z .z)))) 12 [(11, .row 34 (t10.map Decl.cells).flatten),(1, .dead),(2, .var 45 (zq o2)),(3, .dead),(4, .dead),(5, .var 32 [(.int .i64 0),(.int .i64 0)]),(9, .var 77 (Around.cells o6)),(10, .var 32 (Ref.cells o7))])
theorem W2:PC4 qb6 Zb∧PC4 Y2 u3∧PC5 K2 wu:=by
 refine Zb.mutual_partial_correctness qb6 Y2 K2 (fun u3 Y5 a0 a1 a2 a3 r h=> ?_) (fun wu Jn t10 o2 o3 o4 r h=> ?_) (fun Zb wu qb7 Jn t10 t15 o2 o6 o7 r h=> ?_)
 ·unfold qa at h
  refine ⟨?_,(Z5 ur rfl (qqi rfl kh)),(kj ur (qgh zn)),(qpm (Z3 ur kg)),(qgh (kj ur zn)),rfl,rfl,rfl,rfl⟩
  refine Z2 (T:=tt) (N:=63) (rs:= [.tmp 8, .cell 9 32]) (fun vs w=>by simp) Tryz.func38 rfl rfl rfl (by kernel_rfl) (by kernel_rfl) ?_
  refine kr [26] ?_
  obtain ⟨x3,hx,h⟩:=bind_some h
  refine qp (qgs _ _ _ _ hx) ?_
  refine kr [26] ?_
  refine qf (fun hb=> ?_) (fun hb=> ?_)
  ·replace h:=qx hb h
   refine kr [26] ?_
   obtain ⟨x4,hx,h⟩:=bind_some h
   have hp_x4:=W5 hx (by simp)
   refine qcr (C:=Decl.cells) env hx rfl rfl (by simp) (fun _=>rfl) rfl rfl rfl rfl rfl (by decide) rfl rfl rfl ?_
   refine kr [26] ?_
   exact qr (by kernel_rfl) rfl lQ (Y5 _ _ _ _ _ h)
  replace h:=qy hb h
  refine kr [26] ?_
  exact qr (by kernel_rfl) rfl lQ (Y5 _ _ _ _ _ h)
 ·unfold qa at h
  refine kr [26] ?_
  obtain ⟨x6,hx,h⟩:=bind_some h
  refine qp (qn4 _ _ _ hx) ?_
  refine kr [26] ?_
  exact jh (by kernel_rfl) lQ (Jn _ _ _ _ _ _ h)
 unfold qa at h
 refine j7 ?_
 refine kr [26] ?_
 refine qf (fun hb=> ?_) (fun hb=> ?_)
 ·replace h:=qx hb h
  refine kr [26] ?_
  obtain ⟨x9,hx,h⟩:=bind_some h
  refine wo env hx rfl rfl rfl rfl (Node.cells_eq x9) ?_
  refine kr [26] ?_
  obtain ⟨x10,hx,h⟩:=bind_some h
  refine qc (ACalls.ghost (e:=34) (AC.g9 (qb7 _ _ _ _ _ hx) [0,8] [11,12])) ?_
  refine kr [26] ?_
  exact zy (by kernel_rfl) (qdf [some 8,none,some 2,none,none,some 5,some 6,some 7] rfl rfl rfl (by simp [Reader.cells,Token.cells] <;> (repeat' apply And.intro) <;> first | rfl | exact fun x a _ h=>(zd.all a x h).2 | exact fun x a _ h=>(y8.all a x h).2) (Yz ur rfl rfl (Wj rfl (qed rfl rfl (Zm rfl rfl (Zm rfl rfl (Zm rfl rfl (Zm rfl rfl qie)))) (Wj rfl (Wj rfl (qed rfl rfl (Zm rfl rfl (Zm rfl rfl qie)) (qed rfl rfl (Zm rfl rfl (Zm rfl rfl (Zm rfl rfl qie))) (qed rfl rfl (Zm rfl rfl (Zm rfl rfl qie)) qbr))))))))) (Jn _ _ _ _ _ _ h)
 replace h:=qy hb h
 refine kr [26] ?_
 cases h
 exact ya env rfl rfl (tS [none,some 0] (qdb rfl rfl (sR ur zt)) (qdc (ql1 (qbt (ql3 rfl rfl rfl) (by simp)) (ql1 (yn (qi (qh (zm rfl) rfl) (qi (qh (zm rfl) rfl) ym))) qbh))))
theorem qb7:PC4 qb6 Zb:=W2.1
theorem Y5:PC4 Y2 u3:=W2.2.1
theorem Jn:PC5 K2 wu:=W2.2.2
mutual
def ui (t0:(List Unit)) (t3:(List Decl)) (t4:Int):Option ((List Decl)):=
 if (decide (t4 < ((t0.map Unit.cells).length:Int)))=true then
  ix t0 t4 >>=fun x1=>
  if (!x1.Broken)=true then
   ix t0 t4 >>=fun x2=>
   Zb (qa t3) x2.Tree (Ref.mk t4 0) (Around.mk (⟨#[]⟩) (⟨#[]⟩) false) >>=fun x3=>
   vv (qa t0) x3.1 (qa t4)
  else
   vv (qa t0) (qa t3) (qa t4)
 else
  some t3
 partial_fixpoint
def vv (t0:(List Unit)) (t3:(List Decl)) (t4:Int):Option ((List Decl)):=
 ui (qa t0) (qa t3) (IntKind.i64.wrap (t4+(1:Int)))
 partial_fixpoint
end
@[reducible] def Ww (t0:(List Unit)) (t3:(List Decl)) (t4:Int) (r:(List Decl)):Prop:=
  Ok Tryz.prog G tt 34 0 (Ret Tryz.prog [.tmp 2] (fun y H=>Told Tryz.prog G H y (.sl 5 false (r.map Decl.cells)))) (.again (jj [18] Tryz.f20 0).1 (jj [18] Tryz.f20 0).2 (.n (.sl 7 false (t0.map Unit.cells)) (.n .undef (.n (.bs 5 0 0 0 t3.length) .z .z) .z) (.n .undef (.n (.int .i64 t4) .z .z) .z)) 1 [(0, .row 34 (t3.map Decl.cells).flatten)])
@[reducible] def K3 (t0:(List Unit)) (t3:(List Decl)) (t4:Int) (r:(List Decl)):Prop:=
  Ok Tryz.prog G tt 34 0 (Ret Tryz.prog [.tmp 2] (fun y H=>Told Tryz.prog G H y (.sl 5 false (r.map Decl.cells)))) (.go [] (w9 [18] Tryz.f20 18) [] (.n (.sl 7 false (t0.map Unit.cells)) (.n .undef (.n (.bs 5 1 2 0 t3.length) .z .z) .z) (.n .undef (.n (.int .i64 t4) .z .z) .z)) 4 [(0, .dead),(2, .row 34 (t3.map Decl.cells).flatten)])
theorem qcd:PC3 Ww ui∧PC3 K3 vv:=by
 refine ui.mutual_partial_correctness Ww K3 (fun vv K7 t0 t3 t4 r h=> ?_) (fun ui W0 t0 t3 t4 r h=> ?_)
 ·unfold qa at h
  refine j7 ?_
  refine kr [18] ?_
  refine qf (fun hb=> ?_) (fun hb=> ?_)
  ·replace h:=qx hb h
   refine kr [18] ?_
   obtain ⟨x1,hx,h⟩:=bind_some h
   refine wo env hx rfl rfl rfl rfl rfl ?_
   refine kr [18] ?_
   refine qf (fun hb=> ?_) (fun hb=> ?_)
   ·replace h:=qx hb h
    refine kr [18] ?_
    obtain ⟨x2,hx,h⟩:=bind_some h
    refine wo env hx rfl rfl rfl rfl rfl ?_
    refine kr [18] ?_
    obtain ⟨x3,hx,h⟩:=bind_some h
    refine qc (ACalls.ghost (e:=34) (AC.g9 (qb7 _ _ _ _ _ hx) [0,1] [0,1])) ?_
    refine kr [18] ?_
    exact qr (by kernel_rfl) rfl lA (K7 _ _ _ _ h)
   replace h:=qy hb h
   refine kr [18] ?_
   exact qr (by kernel_rfl) rfl (qdf [none,some 0] rfl rfl rfl (by simp [Reader.cells,Token.cells] <;> (repeat' apply And.intro) <;> first | rfl | exact fun x a _ h=>(zd.all a x h).2 | exact fun x a _ h=>(y8.all a x h).2) (Wj rfl (Yz ur rfl rfl qbr))) (K7 _ _ _ _ h)
  replace h:=qy hb h
  refine kr [18] ?_
  cases h
  exact j5 env rfl rfl (Y9 (qod (vc (jd ur rfl) (by simp)) (by simp)))
 unfold qa at h
 refine kr [18] ?_
 exact zy (by kernel_rfl) (qdf [some 1] rfl rfl rfl (by simp [Reader.cells,Token.cells] <;> (repeat' apply And.intro) <;> first | rfl | exact fun x a _ h=>(zd.all a x h).2 | exact fun x a _ h=>(y8.all a x h).2) (Yz ur rfl rfl qbr)) (W0 _ _ _ _ h)
theorem W0:PC3 Ww ui:=qcd.1
theorem K7:PC3 K3 vv:=qcd.2
def Kk (a0:(List Unit)):Option ((List Decl)):=
 ui a0 ([]:List Decl) (0:Int)
@[reducible] def qny (a0:(List Unit)) (r:(List Decl)):Prop:=
  Fn Tryz.prog G 20 [(.sl 7 false (a0.map Unit.cells))] (.sl 5 false (r.map Decl.cells))
theorem qg4:PC1 qny Kk:=fun a0 r h=>by
 rw [Kk.eq_def] at h
 refine zo (T:=tt) (N:=34) (rs:= [.tmp 2]) (fun vs w=>by simp) Tryz.func20 rfl rfl rfl rfl (by kernel_rfl) (jx rfl) (zh _ rfl) ?_
 refine kr [18] ?_
 refine qqt 3 _ 5 34 rfl rfl ?_
 exact jh (by kernel_rfl) lA (W0 _ _ _ _ h)
mutual
def u9 (t1:Int) (t2:BA) (t3:BA) (t10:(List Decl)) (t11:Int):Option (Decl × Bool):=
 if (decide (t11 < ((t10.map Decl.cells).length:Int)))=true then
  ix t10 t11 >>=fun x2=>
  if (decide (x2.Kind=t1))=true then
   ix t10 t11 >>=fun x3=>
   if (decide (x3.Owner=t2))=true then
    ix t10 t11 >>=fun x4=>
    if (decide (x4.Name=t3))=true then
     ix t10 t11 >>=fun x5=>
     some (x5,true)
    else
     vf (qa t1) (qa t2) (qa t3) (qa t10) (qa t11)
   else
    vf (qa t1) (qa t2) (qa t3) (qa t10) (qa t11)
  else
   vf (qa t1) (qa t2) (qa t3) (qa t10) (qa t11)
 else
  some ((Decl.mk 0 (⟨#[]⟩) (⟨#[]⟩) (Ref.mk 0 0)),false)
 partial_fixpoint
def vf (t1:Int) (t2:BA) (t3:BA) (t10:(List Decl)) (t11:Int):Option (Decl × Bool):=
 u9 (qa t1) (qa t2) (qa t3) (qa t10) (IntKind.i64.wrap (t11+(1:Int)))
 partial_fixpoint
end
@[reducible] def qau (t1:Int) (t2:BA) (t3:BA) (t10:(List Decl)) (t11:Int) (r:Decl × Bool):Prop:=
  Ok Tryz.prog G tt 50 0 (Ret Tryz.prog [.cell 8 34, .tmp 9] (fun y H=>Told Tryz.prog G H y (.tup [(.agg (Decl.cells r.1)),(.bool r.2)]))) (.again (jj [44] Tryz.f17 0).1 (jj [44] Tryz.f17 0).2 (.n .undef (.n (.int .i64 t1) (.n (.str t3) .z (.n (.int .i64 t11) .z .z)) .z) (.n (.str t2) (.n .undef (.n (.ptr 0 0 0) .z .z) .z) (.n .undef (.n (.sl 5 false (t10.map Decl.cells)) .z .z) .z))) 1 [(0, .var 34 [(.int .i64 0),(.str ⟨#[]⟩),(.str ⟨#[]⟩),(.int .i64 0),(.int .i64 0)])])
@[reducible] def Wv (t1:Int) (t2:BA) (t3:BA) (t10:(List Decl)) (t11:Int) (r:Decl × Bool):Prop:=
  Ok Tryz.prog G tt 50 0 (Ret Tryz.prog [.cell 8 34, .tmp 9] (fun y H=>Told Tryz.prog G H y (.tup [(.agg (Decl.cells r.1)),(.bool r.2)]))) (.go [] (w9 [44] Tryz.f17 44) [] (.n .undef (.n (.int .i64 t1) (.n (.str t3) .z (.n (.int .i64 t11) .z .z)) .z) (.n (.str t2) (.n .undef (.n (.ptr 0 0 0) .z .z) .z) (.n .undef (.n (.sl 5 false (t10.map Decl.cells)) .z .z) .z))) 1 [(0, .var 34 [(.int .i64 0),(.str ⟨#[]⟩),(.str ⟨#[]⟩),(.int .i64 0),(.int .i64 0)])])
theorem qcz:PC5 qau u9∧PC5 Wv vf:=by
 refine u9.mutual_partial_correctness qau Wv (fun vf Yc t1 t2 t3 t10 t11 r h=> ?_) (fun u9 qax t1 t2 t3 t10 t11 r h=> ?_)
 ·unfold qa at h
  refine j7 ?_
  refine kr [44] ?_
  refine qf (fun hb=> ?_) (fun hb=> ?_)
  ·replace h:=qx hb h
   refine kr [44] ?_
   obtain ⟨x2,hx,h⟩:=bind_some h
   refine wo env hx rfl rfl rfl rfl rfl ?_
   refine kr [44] ?_
   refine qo (fun hb=> ?_) (fun hb=> ?_)
   ·replace h:=qx hb h
    refine kr [44] ?_
    obtain ⟨x3,hx,h⟩:=bind_some h
    refine wo env hx rfl rfl rfl rfl rfl ?_
    refine kr [44] ?_
    refine qo (fun hb=> ?_) (fun hb=> ?_)
    ·replace h:=qx hb h
     refine kr [44] ?_
     obtain ⟨x4,hx,h⟩:=bind_some h
     refine wo env hx rfl rfl rfl rfl rfl ?_
     refine kr [44] ?_
     refine qf (fun hb=> ?_) (fun hb=> ?_)
     ·replace h:=qx hb h
      refine kr [44] ?_
      obtain ⟨x5,hx,h⟩:=bind_some h
      refine wo env hx rfl rfl rfl rfl rfl ?_
      refine kr [44] ?_
      cases h
      exact kf
     replace h:=qy hb h
     refine kr [44] ?_
     exact qr (by kernel_rfl) rfl lA (Yc _ _ _ _ _ _ h)
    replace h:=qy hb h
    refine kr [44] ?_
    exact qr (by kernel_rfl) rfl lA (Yc _ _ _ _ _ _ h)
   replace h:=qy hb h
   refine kr [44] ?_
   exact qr (by kernel_rfl) rfl lA (Yc _ _ _ _ _ _ h)
  replace h:=qy hb h
  refine kr [44] ?_
  cases h
  exact kf
 unfold qa at h
 refine kr [44] ?_
 exact zy (by kernel_rfl) lA (qax _ _ _ _ _ _ h)
theorem qax:PC5 qau u9:=qcz.1
theorem Yc:PC5 Wv vf:=qcz.2
def qca (a0:(List Unit)) (a1:Int) (a2:BA) (a3:BA):Option (Decl × Bool):=
 Kk a0 >>=fun x1=>
 u9 a1 a2 a3 x1 (0:Int)
@[reducible] def qqv (a0:(List Unit)) (a1:Int) (a2:BA) (a3:BA) (r:Decl × Bool):Prop:=
  Fn Tryz.prog G 17 [(.sl 7 false (a0.map Unit.cells)),(.int .i64 a1),(.str a2),(.str a3)] (.tup [(.agg (Decl.cells r.1)),(.bool r.2)])
theorem qqy:PC4 qqv qca:=fun a0 a1 a2 a3 r h=>by
 rw [qca.eq_def] at h
 refine zo (T:=tt) (N:=50) (rs:= [.cell 8 34, .tmp 9]) (fun vs w=>by simp) Tryz.func17 rfl rfl rfl rfl (by kernel_rfl) (jx rfl) (zh _ rfl) ?_
 refine kr [44] ?_
 obtain ⟨x1,hx,h⟩:=bind_some h
 refine qp (qg4 _ _ hx) ?_
 refine kr [44] ?_
 exact jh (by kernel_rfl) lA (qax _ _ _ _ _ _ h)
def Qh (t0:(List Decl)) (t1:(List Decl)) (t5:Int):Option Bool:=
 if (decide (t5 < ((t0.map Decl.cells).length:Int)))=true then
  ix t0 t5 >>=fun x1=>
  ix t1 t5 >>=fun x2=>
  if (!(decide (x1.Kind=x2.Kind) && (decide (x1.Owner=x2.Owner) && (decide (x1.Name=x2.Name) && (decide (x1.At.Unit=x2.At.Unit) && (decide (x1.At.Node=x2.At.Node) && true))))))=true then
   some false
  else
   Qh (qa t0) (qa t1) (IntKind.i64.wrap (t5+(1:Int)))
 else
  some true
 partial_fixpoint
@[reducible] def qe1 (t0:(List Decl)) (t1:(List Decl)) (t5:Int) (r:Bool):Prop:=
  Ok Tryz.prog G tt 26 0 (Ret Tryz.prog [.tmp 4] (fun y H=>Told Tryz.prog G H y (.bool r))) (.again (jj [] Tryz.f18 0).1 (jj [] Tryz.f18 0).2 (.n (.sl 5 false (t0.map Decl.cells)) (.n (.sl 5 false (t1.map Decl.cells)) .z (.n (.int .i64 t5) .z .z)) .z) 0 [])
theorem qay:PC3 qe1 Qh:=by
 refine Qh.partial_correctness qe1 (fun Qh qay t0 t1 t5 r h=> ?_)
 unfold qa at h
 refine j7 ?_
 refine kr [] ?_
 refine qf (fun hb=> ?_) (fun hb=> ?_)
 ·replace h:=qx hb h
  refine kr [] ?_
  obtain ⟨x1,hx,h⟩:=bind_some h
  refine wo env hx rfl rfl rfl rfl rfl ?_
  refine kr [] ?_
  obtain ⟨x2,hx,h⟩:=bind_some h
  refine wo env hx rfl rfl rfl rfl rfl ?_
  refine kr [] ?_
  refine qf (fun hb=> ?_) (fun hb=> ?_)
  ·replace h:=qx hb h
   refine kr [] ?_
   cases h
   exact kf
  replace h:=qy hb h
  refine kr [] ?_
  exact zy (by kernel_rfl) lA (qay _ _ _ _ h)
 replace h:=qy hb h
 refine kr [] ?_
 cases h
 exact kf
def qcb (a0:(List Decl)) (a1:(List Decl)):Option Bool:=
 if (!decide (((a0.map Decl.cells).length:Int)=((a1.map Decl.cells).length:Int)))=true then
  some false
 else
  Qh a0 a1 (0:Int)
@[reducible] def qqw (a0:(List Decl)) (a1:(List Decl)) (r:Bool):Prop:=
  Fn Tryz.prog G 18 [(.sl 5 false (a0.map Decl.cells)),(.sl 5 false (a1.map Decl.cells))] (.bool r)
theorem qqz:PC2 qqw qcb:=fun a0 a1 r h=>by
 rw [qcb.eq_def] at h
 refine zo (T:=tt) (N:=26) (rs:= [.tmp 4]) (fun vs w=>by simp) Tryz.func18 rfl rfl rfl rfl (by kernel_rfl) (jx rfl) (zh _ rfl) ?_
 refine kr [] ?_
 refine qf (fun hb=> ?_) (fun hb=> ?_)
 ·replace h:=qx hb h
  refine kr [] ?_
  cases h
  exact kf
 replace h:=qy hb h
 refine kr [] ?_
 exact jh (by kernel_rfl) lA (qay _ _ _ _ h)
def Z1 (a0:(List Unit)) (a1:Decl):Option Bool:=
 qal a0 >>=fun x1=>
 if (!x1)=true then
  Kl >>=fun x2=>
  some x2
 else
  Qp a0 a1.Kind a1.Owner a1.Name >>=fun x3=>
  qca a0 a1.Kind a1.Owner a1.Name >>=fun x4=>
  vt a0 >>=fun x5=>
  Kk a0 >>=fun x6=>
  qcb x5 x6 >>=fun x7=>
  if x7=true then
   if (decide (x3.1.Kind=x4.1.Kind) && (decide (x3.1.Owner=x4.1.Owner) && (decide (x3.1.Name=x4.1.Name) && (decide (x3.1.At.Unit=x4.1.At.Unit) && (decide (x3.1.At.Node=x4.1.At.Node) && true)))))=true then
    if (x3.2==x4.2)=true then
     Kl >>=fun x8=>
     some x8
    else
     some false
   else
    some false
  else
   some false
@[reducible] def qag (a0:(List Unit)) (a1:Decl) (r:Bool):Prop:=
  Fn Tryz.prog G 4 [(.sl 7 false (a0.map Unit.cells)),(.agg (Decl.cells a1))] (.bool r)
theorem qf0:PC2 qag Z1:=fun a0 a1 r h=>by
 rw [Z1.eq_def] at h
 refine zo (T:=tt) (N:=53) (rs:= [.tmp 4]) (fun vs w=>by simp) Tryz.func4 rfl rfl rfl rfl (by kernel_rfl) (jx rfl) (zh _ rfl) ?_
 refine kr [] ?_
 obtain ⟨x1,hx,h⟩:=bind_some h
 refine qp (qn5 _ _ hx) ?_
 refine kr [] ?_
 refine qf (fun hb=> ?_) (fun hb=> ?_)
 ·replace h:=qx hb h
  refine kr [] ?_
  obtain ⟨x2,hx,h⟩:=bind_some h
  refine qp (qg5 _ hx) ?_
  refine kr [] ?_
  cases h
  exact kf
 replace h:=qy hb h
 refine kr [] ?_
 obtain ⟨x3,hx,h⟩:=bind_some h
 refine qp (Wy _ _ _ _ _ hx) ?_
 refine kr [] ?_
 obtain ⟨x4,hx,h⟩:=bind_some h
 refine qp (qqy _ _ _ _ _ hx) ?_
 refine kr [] ?_
 obtain ⟨x5,hx,h⟩:=bind_some h
 refine qp (K4 _ _ hx) ?_
 refine kr [] ?_
 obtain ⟨x6,hx,h⟩:=bind_some h
 refine qp (qg4 _ _ hx) ?_
 refine kr [] ?_
 obtain ⟨x7,hx,h⟩:=bind_some h
 refine qp (qqz _ _ _ hx) ?_
 refine kr [] ?_
 refine qo (fun hb=> ?_) (fun hb=> ?_)
 ·replace h:=qx hb h
  refine kr [] ?_
  refine qo (fun hb=> ?_) (fun hb=> ?_)
  ·replace h:=qx hb h
   refine kr [] ?_
   refine qo (fun hb=> ?_) (fun hb=> ?_)
   ·replace h:=qx hb h
    refine kr [] ?_
    obtain ⟨x8,hx,h⟩:=bind_some h
    refine qp (qg5 _ hx) ?_
    refine kr [] ?_
    cases h
    exact kf
   replace h:=qy hb h
   refine kr [] ?_
   cases h
   exact kf
  replace h:=qy hb h
  refine kr [] ?_
  cases h
  exact kf
 replace h:=qy hb h
 refine kr [] ?_
 cases h
 exact kf
end Go.Proofs.YtpnkemogepoioaaGreatDoorW.Ex.Gr
