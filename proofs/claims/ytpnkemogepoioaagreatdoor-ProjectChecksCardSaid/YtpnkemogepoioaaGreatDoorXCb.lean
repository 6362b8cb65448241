/- The functions of the program's layer 9 and of its references, printed as functions on numbers, strings, lists and trees, with the proofs that they are what the code computes. Conditions: those in each theorem. -/
import Derived.Test.YtpnkemogepoioaaGreatDoorXCa
namespace Go.Proofs.YtpnkemogepoioaaGreatDoorW.Ex.Gr
open Go Go.Proofs.YtpnkemogepoioaaGreatDoorW.Ex
set_option linter.all false
set_option maxRecDepth 100000
set_option synthInstance.maxSize 4000
set_option maxHeartbeats 4000000
open Go.Proofs.YtpnkemogepoioaaGreatDoorW.Plain
theorem qbg:PC1 qhm Jw:=fun a0 r h=>by
 rw [Jw.eq_def] at h
 refine qa9 (T:=tt) (N:=38) (rs:= [.cell 2 45]) (fun vs w=>by simp) Tryz.func55 rfl rfl rfl (by kernel_rfl) (by kernel_rfl) (ub rfl rfl ky) (jw jd) (fun r=>(ua rfl kw)) (fun r=>(jw jd)) (fun _=>rfl) (fun _=>rfl) rfl (fun _=>rfl) ?_
 refine kr [11,17,23] ?_
 refine qk8 2 2 1 9 rfl rfl rfl ?_
 refine qk8 2 3 4 45 rfl rfl rfl ?_
 exact jb (by kernel_rfl) lQ (Jo _ _ _ _ _ _ h)
def qfx (a0:Reader):Option (Except Int (Node × Reader)):=
 Jw a0 >>=fun x1=>
 match x1 with
 | .error ee=>some (.error ee)
 | .ok x1=>
 some (.ok (x1.1,x1.2))
@[reducible] def q1n (a0:Reader) (r:Except Int (Node × Reader)):Prop:=
  exq (fun (r:Node × Reader)=>AC Tryz.prog G 54 [(.ptr 0 0 0)] 1 [(0, .var 130 (Reader.cells a0))] (.agg (zl r.1)) 1 [(0, .var 130 (Reader.cells r.2))]) (fun e=>FC Tryz.prog G 54 [(.ptr 0 0 0)] 1 [(0, .var 130 (Reader.cells a0))] (flt e)) r
theorem qs7:PC1 q1n qfx:=fun a0 r h=>by
 rw [qfx.eq_def] at h
 refine qa9 (T:=tt) (N:=5) (rs:= [.cell 2 45]) (fun vs w=>by simp) Tryz.func54 rfl rfl rfl (by kernel_rfl) (by kernel_rfl) (ub rfl rfl ky) (jw jd) (fun r=>(ua rfl kw)) (fun r=>(jw jd)) (fun _=>rfl) (fun _=>rfl) rfl (fun _=>rfl) ?_
 refine kr [] ?_
 obtain ⟨x1,hx,h⟩:=bind_some h
 rcases x1 with ee | x1
 ·replace h:some (.error ee)=some r:=h
  cases h
  exact zu (FC.go (qbg _ _ hx) [0] [0] rfl rfl rfl rfl rfl rfl)
 refine qr (AC.g9 (qbg _ _ hx) [0] [0]) ?_
 refine kr [] ?_
 cases h
 exact jt env rfl rfl (tS [some 0] (sV (lS (lS lN)) zy) (y4 (jz (qm (qe (qj rfl) rfl) (qm (qe (q8 rfl) rfl) (qm (qe (q4 (.inl rfl)) rfl) (qm (qe (q4 (.inl rfl)) rfl) jy))))) (by simp)))
noncomputable def cfst:Code→Code
 | .seq x _=>x
 | c=>c
noncomputable def csnd:Code→Code
 | .seq _ y=>y
 | c=>c
noncomputable def cthen:Code→Code
 | .cond _ x _=>x
 | c=>c
theorem zar (e:Int) (w:World):(Instr.typeAssert (.iface 127 (.int .i64 e)) 20 127 true).run Tryz.prog w= .ok (.tuple #[.int .i64 e, .bool true]) w:=by kernel_rfl
theorem q5z (x y z:Value) (w:World):CallsD Tryz.prog 79 #[x,y,z] .returning w fun e u' w'=>(∃v,e= .returned v)∧u'= .returning∧w'=w:=by
 refine callsD_of_wpS Tryz.func79 rfl fun c₀ cs hu=> ?_
 apply wpS_seq
 apply wpS_region
 simp [wpOpsS,go_sem,recoverD,hu,Tryz.ntmps79,Exit.thenS]
 apply wpS_seq
 apply wpS_region
 simp [wpOpsS,go_sem,Exit.thenS]
 refine wpS_cond (t:=false) (by simp [Act.eval,Array.replicate]) ?_
 simp only [Aq,if_false]
 refine wpS_of_wp (wp_skip ?_)
 cases c₀
 simp_all [bodyPostS,results,Tryz.results79]
def qt9:List AV:= [.int .i64 0, .str ⟨#[]⟩, .sl 0 true [], .sl 0 true []]
def qrj (e:Int):Objs:= [(0, .var 45 qt9),(1, .var 26 [.int .i64 1]),(2, .var 3 [.int .i64 e])]
noncomputable def rec5:Code:=csnd (csnd (cthen (csnd (csnd (qiq Tryz.f79)))))
theorem q50 (e c6:Int):Ok Tryz.prog G tt 19 3 (qap (fun _ H=>H=⟨3,qrj e⟩) (fun _ _ _=>False)) (.go [(0, .ptr 0 0 0),(1, .ptr 1 1 0),(2, .ptr 2 2 0),(4, .int .i64 e)] [.code rec5] [] .z 3 [(0, .var 45 qt9),(1, .var 26 [.int .i64 0]),(2, .var 3 [.int .i64 c6])]):=by
 refine kr [] ?_
 exact q3g rfl
theorem q0y {w:World} {S F:Nat→Prop} {β:Nat→Nat} (e c6:Int) (hH:HR G w S F β ⟨3, [(0, .var 45 qt9),(1, .var 26 [.int .i64 0]),(2, .var 3 [.int .i64 c6])]⟩):
 CallsD Tryz.prog 79 #[.pointer (some ⟨β 0,0,none⟩), .pointer (some ⟨β 1,0,none⟩), .pointer (some ⟨β 2,0,none⟩)] (.panicking (flt e)) w fun r u' w'=>
  (∃v,r= .returned v)∧settle u'= .returning∧∃S' β',Ext w S F β 3 w' S' β' 3∧HR G w' S' F β' ⟨3,qrj e⟩:=by
 refine callsD_of_wpS Tryz.func79 rfl fun c₀ cs hu=> ?_
 have hA:=qn4 (N:=19) (by kernel_rfl) (q50 e c6)
 apply wpS_seq
 apply wpS_region
 simp [wpOpsS,go_sem,recoverD,hu,Tryz.ntmps79,Exit.thenS,flt]
 apply wpS_seq
 apply wpS_region
 simp [wpOpsS,go_sem,Exit.thenS]
 refine wpS_cond (t:=true) (by simp [Act.eval,Array.replicate]) ?_
 simp only [if_true]
 apply wpS_seq
 apply wpS_region
 simp [wpOpsS,go_sem,Exit.thenS,zar]
 apply wpS_seq
 apply wpS_seq
 apply wpS_region
 simp [wpOpsS,go_sem,Exit.thenS]
 refine wpS_cond (t:=false) (by simp [Act.eval,Array.replicate]) ?_
 simp only [Aq,if_false]
 refine wpS_of_wp (wp_skip ?_)
 show rec5.wpS Tryz.prog _ _ _ _
 refine wpS_of_wp (wp_mono (hA [] w S F β _ (Ak _) hH (FRx.of _ (by simp) rfl ?_)) ?_)
 ·intro q hq
  simp only [AQ,BH,or_false] at hq
  rcases hq with rfl | rfl | rfl | rfl
  ·simpa using RV.ptr (w:=w) (S:=S) (β:=β) 0 0 0 (by decide)
  ·simpa using RV.ptr (w:=w) (S:=S) (β:=β) 1 1 0 (by decide)
  ·simpa using RV.ptr (w:=w) (S:=S) (β:=β) 2 2 0 (by decide)
  simpa using RV.int .i64 e
 rintro x a' w' ⟨fr',H',S',β',q,hx,hp,hH',hf'⟩
 cases x with
 | normal=>
   cases (show H'=⟨3,qrj e⟩ from q)
   exact ⟨hf'.defers,_,rfl, .tuple #[],by simp [results,Tryz.results79,go_sem],⟨_,rfl⟩,rfl,S',β',hx,hH'⟩
 | _=>exact q.elim
abbrev rds:List ResultVar:= [.cell 4 45, .cell 5 26, .cell 6 3]
noncomputable def rd0:Code:=cfst (qiq Tryz.f53)
noncomputable def rd1:Code:=cfst (csnd (qiq Tryz.f53))
noncomputable def rd2:Code:=cfst (csnd (csnd (qiq Tryz.f53)))
noncomputable def rd2a:Code:=cfst rd2
noncomputable def rd2b:Code:=csnd rd2
noncomputable def cops:Code→List Oper
 | .region _ l _=>l.toList
 | _=> []
noncomputable def rdL:List Oper:=cops (cfst (cthen rd2b))
theorem zau:rd2= .seq rd2a (.cond (.tmp 16) (.seq (.region 3 rdL.toArray true) .ret) .skip):=by kernel_rfl
noncomputable def rd3:Code:=cfst (csnd (csnd (csnd (qiq Tryz.f53))))
noncomputable def rd4:Code:=csnd (csnd (csnd (csnd (qiq Tryz.f53))))
theorem q8p:Tryz.f53.body=some (.seq rd0 (.seq rd1 (.seq rd2 (.seq rd3 rd4)))):=by kernel_rfl
def rdX (x:Node × Int × Int):AV:= .tup [.agg (zl x.1), .int .i64 x.2.1, .int .i64 x.2.2]
abbrev rdR (x:Node × Int × Int):Exit→Fr→Hp→Prop:=Ret Tryz.prog rds (fun z H=>Told Tryz.prog G H z (rdX x))
def rdO (e at_:Int):Objs:= [(0, .var 45 qt9),(1, .var 26 [.int .i64 e]),(2, .var 3 [.int .i64 at_])]
theorem qv4 {n:Nat} {objs:Objs} (a b:Int):Told Tryz.prog G ⟨n,objs⟩ (.tup [.agg qt9, .int .i64 a, .int .i64 b]) (rdX (Node.mk 0 ⟨#[]⟩ [] [],a,b)):=
 zt (zw (qc (jo (qb (qj rfl) (qb (q8 rfl) (qb (q4 (.inr rfl)) (qb (q4 (.inr rfl)) jc))))) (qc (q5 (qj rfl) (by simp)) (qc (q5 (qj rfl) (by simp)) zk))))
theorem q4a (e:Int):rdR (Node.mk 0 ⟨#[]⟩ [] [],1,e) .normal (puts [(4, .ptr 0 0 0),(5, .ptr 1 1 0),(6, .ptr 2 2 0)] (frT .z)) ⟨3,qrj e⟩:=by
 have h:Ok Tryz.prog G tt 32 0 (rdR (Node.mk 0 ⟨#[]⟩ [] [],1,e)) (.go [(4, .ptr 0 0 0),(5, .ptr 1 1 0),(6, .ptr 2 2 0)] [] [] .z 3 (qrj e)):=by
  refine kr [] ?_
  exact qe3 env rfl (qv4 1 e)
 unfold Ok at h
 exact h rfl
theorem q53 (e at_:Int):AWp Tryz.prog G 32 0 (.seq (.region 3 rdL.toArray true) .ret) (fun x fr H=>x= .ret∧rdR (Node.mk 0 ⟨#[]⟩ [] [],e,at_) .ret fr H) (puts [(4, .ptr 0 0 0),(5, .ptr 1 1 0),(6, .ptr 2 2 0)] (frT .z)) ⟨3,rdO e at_⟩:=by
 have h:anyS tt G rdL.toArray (fun fr _ objs=>qm2 tt fr objs rds qlf) [(4, .ptr 0 0 0),(5, .ptr 1 1 0),(6, .ptr 2 2 0)] .z 3 (rdO e at_)=some (List.replicate 15 (.tup [.agg qt9, .int .i64 e, .int .i64 at_])):=by kernel_rfl
 refine qxk (q9s env (by kernel_rfl) h (fun z hz fr n objs hl=>qae (q3j ⟨rfl,?_⟩)))
 obtain rfl:=List.eq_of_mem_replicate hz
 have h:=jt (P:=Tryz.prog) (G:=G) (N:=32) (p:=0) (n:=n) (k:= []) (K:=fun z H=>Told Tryz.prog G H z (rdX (Node.mk 0 ⟨#[]⟩ [] [],e,at_))) env rfl hl (qv4 _ _)
 unfold Ok at h
 exact h rfl
def q18 (w:World) (S F:Nat→Prop) (β:Nat→Nat) (x:Node × Int × Int) (e:Ending) (w':World):Prop:=
 ∃v,e= .returned v∧∃S' β',Ext w S F β 0 w' S' β' 0∧HR G w' S' F β' ⟨0, []⟩∧RV w' S' β' 0 (rdX x) v
theorem q54 (x:Node × Int × Int):Pure (rdX x):= .tup _ (by
 intro y hy
 simp only [AQ,BH,or_false] at hy
 rcases hy with rfl | rfl | rfl
 ·exact .agg _ (by
   intro z hz
   simp only [AQ,BH,or_false] at hz
   rcases hz with rfl | rfl | rfl | rfl <;> constructor)
 ·constructor
 constructor)
theorem q0z {w w':World} {S F S':Nat→Prop} {β β':Nat→Nat} {D:List Deferred} {fr:Fr} {H:Hp} {a:Act} {x:Node × Int × Int} (q:rdR x .normal fr H) (hx:Ext w S F β 0 w' S' β' 0) (hH:HR G w' S' F β' H) (hf:FRx D w' S' β' H.n 32 fr a) (hG:HR G w S F β ⟨0, []⟩):
 Leaves Tryz.prog Tryz.f53 a.tmps (q18 w S F β x) [] .returning w':=by
 obtain ⟨z,hz,ht⟩:=q
 unfold Told at ht
 obtain ⟨v,hrun,hR⟩:=ql1 (P:=Tryz.prog) (fn:=Tryz.f53) hH hf (show Ji _ Tryz.f53.results.toList fr H=some z from hz)
 obtain ⟨S2,hx2,hl,hR2⟩:=ht w' S' F β' v hH hR
 exact ⟨v,hrun,v,rfl,S2,β',hx.trans hx2,⟨hl,fun k hk=>AU (hG.ltf k hk) (hx.trans hx2).size,fun g=>(hG.glob g).ext (hx.trans hx2),by simp,by simp,by simp⟩,hR2.pure (q54 x)⟩
theorem qv5 {w:World} {S:Nat→Prop} {β:Nat→Nat} {n i s:Nat} {v:Value} (h:RV w S β n (.ptr i s 0) v):v= .pointer (some ⟨β s,0,none⟩):=by
 cases h;rfl
def qcd (s:BA):Option (Node × Int × Int):=
 Y0 s >>=fun t=>
 if (!decide (t.2.1=(0:Int)))=true then some (Node.mk 0 ⟨#[]⟩ [] [],t.2.1,t.2.2)
 else qfx ⟨t.1,0⟩ >>=fun x=>match x with
  | .error e=>some (Node.mk 0 ⟨#[]⟩ [] [],1,e)
  | .ok x=>J3 x.1 >>=fun c=>if (decide (c=(3:Int)))=true then some (Node.mk 0 ⟨#[]⟩ [] [],3,0) else some (x.1,0,0)
def Qn (t:List Token × Int × Int) (fr:Fr) (H:Hp):Prop:=(fr 1= .fn 54 []∧fr 4= .ptr 0 0 0∧fr 5= .ptr 1 1 0∧fr 6= .ptr 2 2 0∧fr 7= .sl 4 false (t.1.map Token.cells))∧H=⟨3,rdO t.2.1 t.2.2⟩
theorem qpd (s:BA) (t:List Token × Int × Int) (ht:Y0 s=some t) (x:Node × Int × Int):
 Ok Tryz.prog G tt 32 0 (qap (fun fr H=>fr 16= .bool (!decide (t.2.1=(0:Int)))∧Qn t fr H) (rdR x)) (.go (qll 0 [.str s, .fn 54 []]) [.code rd0, .code rd1, .code rd2a] [] .z 0 []):=by
 refine kr [] ?_
 refine qk (qo8 _ _ ht) ?_
 refine kr [] ?_
 exact q3g ⟨rfl,⟨rfl,rfl,rfl,rfl,rfl⟩,rfl⟩
theorem qpc (t:List Token × Int × Int) (x:Node × Int × Int) (hx:(!decide (t.2.1=(0:Int)))=true→x=(Node.mk 0 ⟨#[]⟩ [] [],t.2.1,t.2.2)) (fr:Fr) (H:Hp)
 (h:AWp Tryz.prog G 32 0 rd2a (qap (fun fr H=>fr 16= .bool (!decide (t.2.1=(0:Int)))∧Qn t fr H) (rdR x)) fr H):AWp Tryz.prog G 32 0 rd2 (qap (fun fr H=>(!decide (t.2.1=(0:Int)))=false∧Qn t fr H) (rdR x)) fr H:=by
 rw [zau]
 refine qxk (h.mono ?_)
 intro e fr H q
 cases e with
 | normal=>
   obtain ⟨hc,hk⟩:=(show _∧_ from q)
   refine qae (qoh hc (fun hb=> ?_) (fun hb=>qz7 (qae ⟨hb,hk⟩)))
   obtain ⟨⟨g1,g4,g5,g6,g7⟩,rfl⟩:=hk
   cases hx hb
   refine (qko (q4k [(4, .ptr 0 0 0),(5, .ptr 1 1 0),(6, .ptr 2 2 0)] (by simp [g4,g5,g6])) (q53 t.2.1 t.2.2)).mono ?_
   rintro e fr H ⟨rfl,q⟩
   exact q
 | _=>exact q
theorem qow (l:List Token) (e:Int) (h:qfx ⟨l,0⟩=some (.error e)):
 Ok Tryz.prog G tt 32 3 (fun e' fr _=>e'= .panic (flt e)∧fr 4= .ptr 0 0 0∧fr 5= .ptr 1 1 0∧fr 6= .ptr 2 2 0) (.go [(1, .fn 54 []),(4, .ptr 0 0 0),(5, .ptr 1 1 0),(6, .ptr 2 2 0),(7, .sl 4 false (l.map Token.cells))] [.code rd4] [] .z 3 []):=by
 refine kr [] ?_
 exact q44 (FC.go (qs7 _ _ h) [0] [3] rfl rfl rfl rfl rfl rfl) ⟨rfl,rfl,rfl,rfl⟩
theorem qo7 (l:List Token) (e at_:Int) (r:Node × Reader) (h:qfx ⟨l,0⟩=some (.ok r)) (c:Int) (hc:J3 r.1=some c) (x:Node × Int × Int) (hx:(if (decide (c=(3:Int)))=true then some (Node.mk 0 ⟨#[]⟩ [] [],3,0) else some (r.1,0,0))=some x):
 Ok Tryz.prog G tt 32 0 (rdR x) (.go [(1, .fn 54 []),(4, .ptr 0 0 0),(5, .ptr 1 1 0),(6, .ptr 2 2 0),(7, .sl 4 false (l.map Token.cells))] [.code rd4] [] .z 3 (rdO e at_)):=by
 refine kr [] ?_
 refine qr (AC.g9 (qs7 _ _ h) [3] [3]) ?_
 refine kr [] ?_
 refine qk (qoc _ _ hc) ?_
 refine kr [] ?_
 refine qd (fun hb=> ?_) (fun hb=> ?_)
 ·rw [if_pos hb] at hx
  cases hx
  refine kr [] ?_
  exact jt env rfl rfl (qv4 _ _)
 rw [if_neg (by rw [hb];decide)] at hx
 cases hx
 refine kr [] ?_
 exact jt env rfl rfl (qz rfl)
theorem qpb (s:BA) (x:Node × Int × Int) (h:qcd s=some x):ACalls Tryz.prog G 53 [.str s, .fn 54 []] ⟨0, []⟩ (rdX x) ⟨0, []⟩:=by
 obtain ⟨t,ht,h⟩:=bind_some h
 intro w S F β vs hH hv
 rw [show (callFunc 53 vs).run Tryz.prog w= .ok (.enter 53 vs) w by simp]
 show Calls Tryz.prog 53 vs w (q18 w S F β x)
 refine calls_of_wp_defers Tryz.func53 q8p ?_
 have hA:=qn4 (N:=32) (by kernel_rfl) (qpd s t ht x)
 rw [qgc] at hA
 have hf:=qnr (N:=32) hv (Ap rfl)
 have fin:∀(e:Exit) (fr':Fr) (H':Hp) (w':World) (S':Nat→Prop) (β':Nat→Nat) (a':Act),rdR x e fr' H'→Ext w S F β 0 w' S' β' 0→HR G w' S' F β' H'→FRx [] w' S' β' H'.n 32 fr' a'→bodyPostD Tryz.prog Tryz.f53 (q18 w S F β x) e a' w':=by
  intro e fr' H' w' S' β' a' q hx hH' hf'
  have hl:=fun q=>q0z (x:=x) q hx hH' hf' hH
  cases e <;> first
   | exact q.elim
   | (show Leaves _ _ _ _ a'.defers _ _;rw [hf'.defers];exact hl q)
 refine qqt hA (Az _) hH hf (fun fr1 H1 w1 S1 β1 a1 q1 hx1 _ hH1 hf1=> ?_) (fun e fr' H' w' S' β' a' he q hx _ hH' hf'=>fin e fr' H' w' S' β' a' (qpe he (zbj he q)) hx hH' hf')
 refine qqt q1 (Az _) hH1 hf1 (fun fr2 H2 w2 S2 β2 a2 q2 hx2 _ hH2 hf2=> ?_) (fun e fr' H' w' S' β' a' he q hx _ hH' hf'=>fin e fr' H' w' S' β' a' (qpe he q) (hx1.trans hx) hH' hf')
 refine qqt (qpc t x (fun hb=>by rw [if_pos hb] at h;cases h;rfl) fr2 H2 q2) (Az _) hH2 hf2 (fun fr3 H3 w3 S3 β3 a3 q3 hx3 _ hH3 hf3=> ?_) (fun e fr' H' w' S' β' a' he q hx _ hH' hf'=>fin e fr' H' w' S' β' a' q ((hx1.trans hx2).trans hx) hH' hf')
 obtain ⟨hb,⟨g1,g4,g5,g6,g7⟩,rfl⟩:=(show _∧_∧_ from q3)
 have hx0:=(hx1.trans hx2).trans hx3
 rw [if_neg (by rw [hb];decide)] at h
 obtain ⟨r,hr,h⟩:=bind_some h
 refine wp_seq ?_
 refine qv3 (u:=20) (f:=79) (cs:= #[.tmp 4, .tmp 5, .tmp 6]) (by rw [hf3.size];decide) ?_
 have e4:=qv5 (g4 ▸ hf3.val 4)
 have e5:=qv5 (g5 ▸ hf3.val 5)
 have e6:=qv5 (g6 ▸ hf3.val 6)
 have hcs:(#[Operand.tmp 4, .tmp 5, .tmp 6]:Array Operand).map a3.eval= #[.pointer (some ⟨β3 0,0,none⟩), .pointer (some ⟨β3 1,0,none⟩), .pointer (some ⟨β3 2,0,none⟩)]:=by
  simp [Act.eval,e4,e5,e6]
 rw [hcs]
 have hf3':=hf3.put (d:=some 20) rfl (RV.undef (w:=w3) (S:=S3) (β:=β3) (n:=3) (.func (.func 79) #[] #[.pointer (some ⟨β3 0,0,none⟩), .pointer (some ⟨β3 1,0,none⟩), .pointer (some ⟨β3 2,0,none⟩)]))
 have hq:=hf3'.some [(1, .fn 54 []),(4, .ptr 0 0 0),(5, .ptr 1 1 0),(6, .ptr 2 2 0),(7, .sl 4 false (t.1.map Token.cells))] (by simp [u1,g1,g4,g5,g6,g7])
 generalize hd:a3.defers=d3 at*
 have hd3:d3= []:=by rw [←hd];exact hf3.defers
 subst hd3
 have hf4:=FRx.of (a:=⟨a3.tmps.setIfInBounds 20 (.func (.func 79) #[] #[.pointer (some ⟨β3 0,0,none⟩), .pointer (some ⟨β3 1,0,none⟩), .pointer (some ⟨β3 2,0,none⟩)]), [{target:= .fn (.func 79) #[.pointer (some ⟨β3 0,0,none⟩), .pointer (some ⟨β3 1,0,none⟩), .pointer (some ⟨β3 2,0,none⟩)],args:= #[]}]⟩) _ hf3'.size rfl hq
 show rd4.wp _ _ _ _
 cases r with
 | error e=>
   cases h
   have hB:=qn4 (N:=32) (by kernel_rfl) (qow t.1 e hr)
   refine wp_mono (hB _ w3 S3 _ β3 _ (Ak _) hH3.hide hf4) ?_
   rintro e' a' w' ⟨fr',H',S',β',⟨rfl,k4,k5,k6⟩,hx,hp,hH',hf'⟩
   obtain ⟨hx',hH''⟩:=hH3.unhide hx hH'.lts
   show Leaves _ _ _ _ a'.defers _ _
   rw [hf'.defers]
   refine leaves_cons (f:=79) (args:= #[.pointer (some ⟨β3 0,0,none⟩), .pointer (some ⟨β3 1,0,none⟩), .pointer (some ⟨β3 2,0,none⟩)]) (by simp) (by simp [go_sem]) ?_
   have hc:=q0y e t.2.2 (show HR G w' S' F β' ⟨3,rdO 0 t.2.2⟩ by
    have h0:t.2.1=0:=by simpa using hb
    rw [←h0];exact hH'')
   rw [hx'.beta 0 (show 0 < 3 by decide),hx'.beta 1 (show 1 < 3 by decide),hx'.beta 2 (show 2 < 3 by decide)] at hc
   refine hc.mono ?_
   rintro r u' w'' ⟨⟨v,rfl⟩,hs,S'',β'',hx'',hH3''⟩
   show Leaves _ _ _ _ [] (settle u') w''
   rw [hs]
   refine q0z (D:=a'.defers) (a:=a') (q4a e) (hx0.trans ((hx'.trans hx'').lower (Az _))) hH3'' (FRx.of _ hf'.size rfl ?_) hH
   intro q hm
   simp only [AQ,BH,or_false] at hm
   have hv:∀(i s:Nat) (t:Nat),s < 3→fr' t= .ptr i s 0→RV w'' S'' β'' 3 (.ptr i s 0) (a'.tmps.getD t Go.undef):=fun i s t hs3 ht=>by
    have h1:=hf'.val t
    rw [ht] at h1
    rw [qv5 h1,←hx''.beta s hs3]
    exact .ptr i s 0 hs3
   rcases hm with rfl | rfl | rfl
   ·exact hv _ _ _ (by decide) k4
   ·exact hv _ _ _ (by decide) k5
   exact hv _ _ _ (by decide) k6
 | ok r=>
   obtain ⟨c,hc,h⟩:=bind_some h
   have hB:=qn4 (N:=32) (by kernel_rfl) (qo7 t.1 t.2.1 t.2.2 r hr c hc x h)
   refine wp_mono (hB _ w3 S3 F β3 _ (Az _) hH3 hf4) ?_
   rintro e' a' w' ⟨fr',H',S',β',q,hx,hp,hH',hf'⟩
   have hl:rdR x .normal fr' H'→Leaves Tryz.prog Tryz.f53 a'.tmps (q18 w S F β x) a'.defers .returning w':=fun q=>by
    rw [hf'.defers]
    refine leaves_cons (f:=79) (args:= #[.pointer (some ⟨β3 0,0,none⟩), .pointer (some ⟨β3 1,0,none⟩), .pointer (some ⟨β3 2,0,none⟩)]) (by simp) (by simp [go_sem]) ?_
    refine (q5z _ _ _ w').mono ?_
    rintro r u' w'' ⟨⟨v,rfl⟩,rfl,rfl⟩
    exact q0z q (hx0.trans hx) hH' hf' hH
   cases e' <;> first
    | exact q.elim
    | exact hl q
theorem qo9:PC1 (fun (s:BA) (x:Node × Int × Int)=>AC Tryz.prog G 53 [.str s, .fn 54 []] 0 [] (.tup [.agg (zl x.1), .int .i64 x.2.1, .int .i64 x.2.2]) 0 []) qcd:=fun s x h=>AC.plain (qpb s x h) rfl rfl
def qce (a0:BA):Option (Node × Int × Int):=
 qcd a0 >>=fun x1=>
 some (x1.1,x1.2.1,x1.2.2)
@[reducible] def qsz (a0:BA) (r:Node × Int × Int):Prop:=
  Fn Tryz.prog G 29 [(.str a0)] (.tup [(.agg (zl r.1)),(.int .i64 r.2.1),(.int .i64 r.2.2)])
theorem qs6:PC1 qsz qce:=fun a0 r h=>by
 rw [qce.eq_def] at h
 refine zg (T:=tt) (N:=10) (rs:= [.cell 2 45, .tmp 3, .tmp 4]) (fun vs w=>by simp) Tryz.func29 rfl rfl rfl rfl (by kernel_rfl) (z7 rfl) (ze _ rfl) ?_
 refine kr [] ?_
 obtain ⟨x1,hx,h⟩:=bind_some h
 refine qr (AC.g9 (qo9 _ _ hx) [] []) ?_
 refine kr [] ?_
 cases h
 exact kf
def uz (a0:(List File)) (t5:(List Unit)):Option ((List Unit) × Int):=
 match a0 with
 | []=>
   some (t5,(0:Int))
 | x_0::a0=>
   qce x_0.Text >>=fun x2=>
   app 112 t5 ([(Unit.mk x_0.Path x_0.Text x2.1 (!decide (x2.2.1=(0:Int))))]) >>=fun x3=>
   uz (qa a0) (qa x3)
 partial_fixpoint
@[reducible] def qeo (a0:(List File)) (t5:(List Unit)) (r:(List Unit) × Int):Prop:=
  ∀(l0:List File) (j0:Nat),l0.drop j0=a0→j0≤l0.length→l0.length≤9223372036854775807→Ok Tryz.prog G tt 42 0 (Ret Tryz.prog [.tmp 2, .tmp 3] (fun y H=>Told Tryz.prog G H y (.tup [(.sl 7 false (r.1.map Unit.cells)),(.int .i64 r.2)]))) (.again (je [] Tryz.f10 0).1 (je [] Tryz.f10 0).2 (.n .undef (.n .undef .z (.n (.bs 7 0 0 0 t5.length) (.n .undef (.n (.int .i64 ((l0.map File.cells).length:Int)) .z .z) .z) .z)) (.n .undef (.n .undef (.n .undef (.n (.sl 2 false (l0.map File.cells)) .z .z) .z) .z) (.n .undef (.n .undef (.n (.int .i64 ((j0:Nat):Int)) .z .z) .z) .z))) 1 [(0, .row 48 (t5.map Unit.cells).flatten)])
theorem qai:PC2 qeo uz:=by
 refine uz.partial_correctness qeo (fun uz qai a0 t5 r h=> ?_)
 unfold qa at h
 intro l0 j0 hl0 hj0 hm0
 refine jm ?_
 cases a0 with
 | nil=>
   have hb:=W0 (C:=File.cells) hl0 hj0
   refine kr [] ?_
   refine qo hb ?_
   refine kr [] ?_
   cases h
   exact zb env rfl rfl (zt (zw (qc (q5 (z8 qas rfl) (by simp)) (qc (q5 (qj rfl) (by simp)) zk))))
 | cons x_0 a0=>
   obtain ⟨hb,hx0,hd0,hk0,hw0⟩:=Y7 (C:=File.cells) hl0 hm0
   refine kr [] ?_
   refine qn hb ?_
   refine kr [] ?_
   refine Y5 env rfl rfl rfl rfl (m:=j0) rfl (qdj hx0 rfl) ?_
   refine kr [] ?_
   obtain ⟨x2,hx,h⟩:=bind_some h
   refine qk (qs6 _ _ hx) ?_
   refine kr [] ?_
   obtain ⟨x3,hx,h⟩:=bind_some h
   have hp_x3:=ju hx (by simp)
   refine y3 (C:=Unit.cells) env hx rfl rfl (by simp) (fun _=>rfl) rfl rfl rfl rfl rfl (by decide) rfl rfl rfl ?_
   refine kr [] ?_
   exact zx (by kernel_rfl) (qf9 (by simp only [hw0];simp <;> (repeat' apply Bz) <;> first | rfl | exact fun x a _ h=>(qas.all a x h).2) (by simp <;> (repeat' apply Bz) <;> first | rfl | exact fun x a _ h=>(qas.all a x h).2)) (qai _ _ _ h l0 (j0+1) hd0 hk0 hm0)
def Jp (a0:(List File)):Option ((List Unit) × Int):=
 Zs a0 >>=fun x1=>
 if (!decide (x1=(0:Int)))=true then
  some (([]:(List Unit)),x1)
 else
  uz a0 ([]:List Unit)
@[reducible] def qo2 (a0:(List File)) (r:(List Unit) × Int):Prop:=
  Fn Tryz.prog G 10 [(.sl 2 false (a0.map File.cells))] (.tup [(.sl 7 false (r.1.map Unit.cells)),(.int .i64 r.2)])
theorem qhu:PC1 qo2 Jp:=fun a0 r h=>by
 rw [Jp.eq_def] at h
 refine zg (T:=tt) (N:=42) (rs:= [.tmp 2, .tmp 3]) (fun vs w=>by simp) Tryz.func10 rfl rfl rfl rfl (by kernel_rfl) (z7 rfl) (ze _ rfl) ?_
 refine kr [] ?_
 obtain ⟨x1,hx,h⟩:=bind_some h
 refine qk (qb6 _ _ hx) ?_
 refine kr [] ?_
 refine qd (fun hb=> ?_) (fun hb=> ?_)
 ·replace h:=qu hb h
  refine kr [] ?_
  cases h
  exact zb env rfl rfl (zt (zw (qc (q5 (q4 (.inr rfl)) (by simp)) (qc (q5 (qj rfl) (by simp)) zk))))
 replace h:=qv hb h
 refine kr [] ?_
 refine qox 5 _ 7 48 rfl rfl ?_
 refine qev 16 rfl (fun hm=> ?_)
 exact jb (by kernel_rfl) lA (qai _ _ _ h a0 0 rfl (Az _) (Y9 hm))
mutual
def vv (a0:(List Row)) (a1:Node) (a2:Int):Option ((List Row)):=
 Q3 a1.gaps >>=fun x4=>
 app 80 a0 ([(Row.mk a2 a1.kind a1.text x4 ([]:(List Int)))]) >>=fun x5=>
 if (decide (((a1.kids.map Node.cells).length:Int)=(0:Int)))=true then
  some x5
 else
  mkz 8 ((a1.kids.map Node.cells).length:Int) (0:Int) >>=fun x6=>
  uq a1.kids 0 (qa x5) (a0.length:Int) (qa x6)
 partial_fixpoint
def uq (a0:LN) (j0:Nat) (t0:(List Row)) (t7:Int) (t8:(List Int)):Option ((List Row)):=
 match a0 with
 | []=>
   ix t0 t7 >>=fun x10=>
   some (t0.set t7.toNat (Row.mk x10.Parent x10.Kind x10.Text x10.Gaps t8))
 | x_0::a0=>
   ix t8 ((j0:Nat):Int) >>=fun x11=>
   vv (qa t0) (qa x_0) (qa t7) >>=fun x12=>
   uq (qa a0) (j0+1) (qa x12) (qa t7) (t8.set ((j0:Nat):Int).toNat (t0.length:Int))
 partial_fixpoint
end
@[reducible] def qd4 (a0:(List Row)) (a1:Node) (a2:Int) (r:(List Row)):Prop:=
  AC Tryz.prog G 59 [(.bs 5 0 0 0 a0.length),(.agg (zl a1)),(.int .i64 a2)] 2 [(0, .row 69 (a0.map Row.cells).flatten),(1, .row 69 [])] (.bs 5 1 2 0 r.length) 3 [(0, .row 69 []),(2, .row 69 (r.map Row.cells).flatten)]
@[reducible] def qa0 (a0:LN) (j0:Nat) (t0:(List Row)) (t7:Int) (t8:(List Int)) (r:(List Row)):Prop:=
  ∀(l0:LN),l0.drop j0=a0→j0≤l0.length→l0.length≤9223372036854775807→Ok Tryz.prog G tt 58 2 (Ret Tryz.prog [.tmp 6] (fun y H=>Qq Tryz.prog G 2 H y (.bs 5 1 2 0 r.length) ⟨3, [(0, .row 69 []),(2, .row 69 (r.map Row.cells).flatten)]⟩)) (.again (je [1000000,2000002] Tryz.f59 0).1 (je [1000000,2000002] Tryz.f59 0).2 (.n (.bs 5 0 5 0 t0.length) (.n .undef (.n .undef (.n (.int .i64 t7) .z .z) (.n .undef (.n .undef (.n (.sl 4 false (l0.map Node.cells)) .z .z) .z) .z)) (.n .undef .z (.n .undef (.n .undef (.n (.int .i64 ((j0:Nat):Int)) .z .z) .z) .z))) (.n .undef (.n .undef (.n (.bs 1 3 4 0 t8.length) .z .z) (.n .undef (.n .undef (.n (.int .i64 ((l0.map Node.cells).length:Int)) .z .z) .z) .z)) .z)) 6 [(5, .row 69 (t0.map Row.cells).flatten),(1, .dead),(2, .dead),(4, .row 3 (t8.map ic).flatten)])
theorem qgm:PC3 qd4 vv∧PC5 qa0 uq:=by
 refine vv.mutual_partial_correctness qd4 qa0 (fun uq Kk a0 a1 a2 r h=> ?_) (fun vv uq qed Kk a0 j0 t0 t7 t8 r h=> ?_)
 ·unfold qa at h
  refine ⟨?_,(Qp Zy rfl (qqm rfl ky)),(ka Zy (W3 jd)),(qes (Ys Zy kw)),(W3 (ka Zy jd)),rfl,rfl,rfl,rfl⟩
  refine Qf (T:=tt) (N:=58) (rs:= [.tmp 6]) (fun vs w=>by simp) Tryz.func59 rfl rfl rfl (by kernel_rfl) (by kernel_rfl) ?_
  refine kr [1000000,2000002] ?_
  obtain ⟨x4,hx,h⟩:=bind_some h
  refine qk (qkj _ _ hx) ?_
  refine kr [1000000,2000002] ?_
  obtain ⟨x5,hx,h⟩:=bind_some h
  have hp_x5:=ju hx (by simp)
  have hr_x5:=hx
  refine qsy (C:=Row.cells) env hx rfl rfl rfl (by simp) (fun _=>rfl) rfl rfl rfl rfl rfl (by decide) rfl rfl rfl ?_
  refine kr [1000000,2000002] ?_
  refine qw1 0 3 69 (cs':=(x5.map Row.cells).flatten) rfl rfl (qq0 hr_x5 (J6 (Q7 _) (J6 (Q7 _) (J6 (Q7 _) (J6 (Q7 _) (J6 (qq1 (.inr rfl)) qvq)))))) ?_
  refine W6 ?_
  refine kr [1000000,2000002] ?_
  refine qd (fun hb=> ?_) (fun hb=> ?_)
  ·replace h:=qu hb h
   refine kr [1000000,2000002] ?_
   cases h
   exact jt env rfl rfl (tS [none,some 0] (yv rfl rfl (sR Zy zy)) (y4 (jk (qm4 rfl rfl rfl) (by simp)) (by simp)))
  replace h:=qv hb h
  refine kr [1000000,2000002] ?_
  obtain ⟨x6,hx,h⟩:=bind_some h
  refine q77 (C:=ic) env hx rfl rfl rfl rfl rfl rfl rfl rfl rfl rfl ?_
  refine kr [1000000,2000002] ?_
  refine qev 35 rfl (fun hm=> ?_)
  exact jb (by kernel_rfl) lQ (Kk _ _ _ _ _ _ h a1.kids rfl (Az _) (Y9 hm))
 unfold qa at h
 intro l0 hl0 hj0 hm0
 refine jm ?_
 cases a0 with
 | nil=>
   have hb:=W0 (C:=Node.cells) hl0 hj0
   refine kr [1000000,2000002] ?_
   refine qo hb ?_
   refine kr [1000000,2000002] ?_
   refine qzr [(8,(.sl 1 false (t8.map ic)))] [3] rfl (quc qek rfl rfl rfl qx1) rfl rfl ?_
   refine W6 ?_
   refine kr [1000000,2000002] ?_
   obtain ⟨x10,hx,h⟩:=bind_some h
   have he_x10:=hx
   refine qoz env rfl rfl rfl rfl (q2n hx) (qyt hx) ?_
   refine kr [1000000,2000002] ?_
   refine qit (x':=(Row.mk x10.Parent x10.Kind x10.Text x10.Gaps t8)) (fo:=4) he_x10 Zy rfl rfl rfl rfl rfl rfl rfl ?_
   refine kr [1000000,2000002] ?_
   cases h
   exact jt env rfl rfl (tS [none,some 0] (yv rfl rfl (sR Zy zy)) (y4 (jk (qm4 rfl (by simp) rfl) (by simp)) (by simp)))
 | cons x_0 a0=>
   obtain ⟨hb,hx0,hd0,hk0,hw0⟩:=Y7 (C:=Node.cells) hl0 hm0
   refine kr [1000000,2000002] ?_
   refine qn hb ?_
   refine kr [1000000,2000002] ?_
   refine Y5 env rfl rfl rfl rfl (m:=j0) rfl (qdj hx0 (Node.cells_eq x_0)) ?_
   refine kr [1000000,2000002] ?_
   obtain ⟨x11,hx,h⟩:=bind_some h
   have he_x11:=hx
   refine qoz env rfl rfl rfl rfl (q2n hx) (qyt hx) ?_
   refine kr [1000000,2000002] ?_
   refine qit (x':=(t0.length:Int)) (fo:=0) he_x11 qek rfl rfl rfl rfl rfl rfl rfl ?_
   refine kr [1000000,2000002] ?_
   obtain ⟨x12,hx,h⟩:=bind_some h
   refine qr (ACalls.ghost (e:=69) (AC.g9 (qed _ _ _ _ hx) [0,5] [5,7])) ?_
   refine kr [1000000,2000002] ?_
   exact zx (by kernel_rfl) (qoq [some 5,none,none,some 3] rfl rfl rfl (by simp only [hw0];simp <;> (repeat' apply Bz) <;> first | rfl | exact fun x a _ h=>(Zy.all a x h).2 | exact fun x a _ h=>(qek.all a x h).2) (qcr Zy rfl rfl (qkw rfl (qkw rfl (qcr qek rfl rfl ql0))))) (Kk _ _ _ _ _ _ h l0 hd0 hk0 hm0)
theorem qed:PC3 qd4 vv:=qgm.1
theorem Kk:PC5 qa0 uq:=qgm.2
def ur (a0:LN) (j0:Nat) (t0:(List Row)) (t7:Int) (t8:(List Int)):Option ((List Row)):=
 match a0 with
 | []=>
   ix t0 t7 >>=fun x7=>
   some (t0.set t7.toNat (Row.mk x7.Parent x7.Kind x7.Text x7.Gaps t8))
 | x_0::a0=>
   ix t8 ((j0:Nat):Int) >>=fun x8=>
   vv (qa t0) (qa x_0) (qa t7) >>=fun x9=>
   ur (qa a0) (j0+1) (qa x9) (qa t7) (t8.set ((j0:Nat):Int).toNat (t0.length:Int))
 partial_fixpoint
@[reducible] def qfl (a0:LN) (j0:Nat) (t0:(List Row)) (t7:Int) (t8:(List Int)) (r:(List Row)):Prop:=
  ∀(l0:LN),l0.drop j0=a0→j0≤l0.length→l0.length≤9223372036854775807→Ok Tryz.prog G tt 58 1 (Ret Tryz.prog [.tmp 6] (fun y H=>Qq Tryz.prog G 1 H y (.sl 5 false (r.map Row.cells)) ⟨1, [(0, .row 69 [])]⟩)) (.again (je [1000000,2000002] Tryz.f59 0).1 (je [1000000,2000002] Tryz.f59 0).2 (.n (.bs 5 0 4 0 t0.length) (.n .undef (.n .undef (.n (.int .i64 t7) .z .z) (.n .undef (.n .undef (.n (.sl 4 false (l0.map Node.cells)) .z .z) .z) .z)) (.n .undef .z (.n .undef (.n .undef (.n (.int .i64 ((j0:Nat):Int)) .z .z) .z) .z))) (.n .undef (.n .undef (.n (.bs 1 2 3 0 t8.length) .z .z) (.n .undef (.n .undef (.n (.int .i64 ((l0.map Node.cells).length:Int)) .z .z) .z) .z)) .z)) 5 [(4, .row 69 (t0.map Row.cells).flatten),(1, .dead),(3, .row 3 (t8.map ic).flatten)])
theorem qa4:PC5 qfl ur:=by
 refine ur.partial_correctness qfl (fun ur qa4 a0 j0 t0 t7 t8 r h=> ?_)
 unfold qa at h
 intro l0 hl0 hj0 hm0
 refine jm ?_
 cases a0 with
 | nil=>
   have hb:=W0 (C:=Node.cells) hl0 hj0
   refine kr [1000000,2000002] ?_
   refine qo hb ?_
   refine kr [1000000,2000002] ?_
   refine qzr [(8,(.sl 1 false (t8.map ic)))] [2] rfl (quc qek rfl rfl rfl qx1) rfl rfl ?_
   refine W6 ?_
   refine kr [1000000,2000002] ?_
   obtain ⟨x7,hx,h⟩:=bind_some h
   have he_x7:=hx
   refine qoz env rfl rfl rfl rfl (q2n hx) (qyt hx) ?_
   refine kr [1000000,2000002] ?_
   refine qit (x':=(Row.mk x7.Parent x7.Kind x7.Text x7.Gaps t8)) (fo:=4) he_x7 Zy rfl rfl rfl rfl rfl rfl rfl ?_
   refine kr [1000000,2000002] ?_
   cases h
   exact jt env rfl rfl (tS [none] (yv rfl rfl zy) (y4 (jk (qe (q3o Zy (by simp only [Ca]) rfl) rfl) (by simp)) (by simp)))
 | cons x_0 a0=>
   obtain ⟨hb,hx0,hd0,hk0,hw0⟩:=Y7 (C:=Node.cells) hl0 hm0
   refine kr [1000000,2000002] ?_
   refine qn hb ?_
   refine kr [1000000,2000002] ?_
   refine Y5 env rfl rfl rfl rfl (m:=j0) rfl (qdj hx0 (Node.cells_eq x_0)) ?_
   refine kr [1000000,2000002] ?_
   obtain ⟨x8,hx,h⟩:=bind_some h
   have he_x8:=hx
   refine qoz env rfl rfl rfl rfl (q2n hx) (qyt hx) ?_
   refine kr [1000000,2000002] ?_
   refine qit (x':=(t0.length:Int)) (fo:=0) he_x8 qek rfl rfl rfl rfl rfl rfl rfl ?_
   refine kr [1000000,2000002] ?_
   obtain ⟨x9,hx,h⟩:=bind_some h
   refine qr (ACalls.ghost (e:=69) (AC.g9 (qed _ _ _ _ hx) [0,4] [4,6])) ?_
   refine kr [1000000,2000002] ?_
   exact zx (by kernel_rfl) (qoq [some 4,none,some 2] rfl rfl rfl (by simp only [hw0];simp <;> (repeat' apply Bz) <;> first | rfl | exact fun x a _ h=>(Zy.all a x h).2 | exact fun x a _ h=>(qek.all a x h).2) (qcr Zy rfl rfl (qkw rfl (qcr qek rfl rfl ql0)))) (qa4 _ _ _ _ _ _ h l0 hd0 hk0 hm0)
def qdf (a0:(List Row)) (a1:Node) (a2:Int):Option ((List Row)):=
 Q3 a1.gaps >>=fun x1=>
 app 80 a0 ([(Row.mk a2 a1.kind a1.text x1 ([]:(List Int)))]) >>=fun x2=>
 if (decide (((a1.kids.map Node.cells).length:Int)=(0:Int)))=true then
  some x2
 else
  mkz 8 ((a1.kids.map Node.cells).length:Int) (0:Int) >>=fun x3=>
  ur a1.kids 0 x2 (a0.length:Int) x3
@[reducible] def qpv (a0:(List Row)) (a1:Node) (a2:Int) (r:(List Row)):Prop:=
  AC Tryz.prog G 59 [(.bs 5 0 0 0 a0.length),(.agg (zl a1)),(.int .i64 a2)] 1 [(0, .row 69 (a0.map Row.cells).flatten)] (.sl 5 false (r.map Row.cells)) 1 [(0, .row 69 [])]
theorem qp7:PC3 qpv qdf:=fun a0 a1 a2 r h=>by
 rw [qdf.eq_def] at h
 refine ⟨?_,(Qp Zy rfl ky),(ka Zy jd),(qes kw),(W3 jd),rfl,rfl,rfl,rfl⟩
 refine Qf (T:=tt) (N:=58) (rs:= [.tmp 6]) (fun vs w=>by simp) Tryz.func59 rfl rfl rfl (by kernel_rfl) (by kernel_rfl) ?_
 refine kr [1000000,2000002] ?_
 obtain ⟨x1,hx,h⟩:=bind_some h
 refine qk (qkj _ _ hx) ?_
 refine kr [1000000,2000002] ?_
 obtain ⟨x2,hx,h⟩:=bind_some h
 have hp_x2:=ju hx (by simp)
 have hr_x2:=hx
 refine qsy (C:=Row.cells) env hx rfl rfl rfl (by simp) (fun _=>rfl) rfl rfl rfl rfl rfl (by decide) rfl rfl rfl ?_
 refine kr [1000000,2000002] ?_
 refine qw1 0 2 69 (cs':=(x2.map Row.cells).flatten) rfl rfl (qq0 hr_x2 (J6 (Q7 _) (J6 (Q7 _) (J6 (Q7 _) (J6 (Q7 _) (J6 (qq1 (.inr rfl)) qvq)))))) ?_
 refine W6 ?_
 refine kr [1000000,2000002] ?_
 refine qd (fun hb=> ?_) (fun hb=> ?_)
 ·replace h:=qu hb h
  refine kr [1000000,2000002] ?_
  cases h
  exact jt env rfl rfl (tS [none] (yv rfl rfl zy) (y4 (jk (qe (z8 Zy rfl) rfl) (by simp)) (by simp)))
 replace h:=qv hb h
 refine kr [1000000,2000002] ?_
 obtain ⟨x3,hx,h⟩:=bind_some h
 refine q77 (C:=ic) env hx rfl rfl rfl rfl rfl rfl rfl rfl rfl rfl ?_
 refine kr [1000000,2000002] ?_
 refine qev 35 rfl (fun hm=> ?_)
 exact jb (by kernel_rfl) lQ (qa4 _ _ _ _ _ _ h a1.kids rfl (Az _) (Y9 hm))
def qdv (a0:Node):Option ((List Row)):=
 qdf ([]:List Row) a0 (-1:Int) >>=fun x1=>
 some x1
@[reducible] def qtn (a0:Node) (r:(List Row)):Prop:=
  Fn Tryz.prog G 35 [(.agg (zl a0))] (.sl 5 false (r.map Row.cells))
theorem qtz:PC1 qtn qdv:=fun a0 r h=>by
 rw [qdv.eq_def] at h
 refine zg (T:=tt) (N:=5) (rs:= [.tmp 2]) (fun vs w=>by simp) Tryz.func35 rfl rfl rfl rfl (by kernel_rfl) (z7 rfl) (ze _ rfl) ?_
 refine kr [] ?_
 obtain ⟨x1,hx,h⟩:=bind_some h
 refine qr (ACalls.ghost (e:=69) (ACalls.wkg (AC.go (objs:= [(0, .var 45 (zl a0)),(1, .row 69 (([]:List Row).map Row.cells).flatten)]) (xs:= [(.bs 5 1 1 0 ([]:List Row).length),(.agg (zl a0)),(.int .i64 (-1:Int))]) (qp7 _ _ _ _ hx) [1] [1] rfl rfl rfl rfl rfl rfl rfl rfl rfl) (qt (zq rfl) (qt (za _) (qt (za _) jh))) (z6 _))) ?_
 refine kr [] ?_
 cases h
 exact kf
def Zr (a0:(List Row)) (a1:Int):Option (BA × Bool):=
 ix a0 a1 >>=fun x1=>
 if (decide (x1.Parent < (0:Int)))=true then
  some ((⟨#[]⟩:BA),false)
 else
  ix a0 x1.Parent >>=fun x2=>
  if (!decide (x2.Kind=(7:Int)))=true then
   some ((⟨#[]⟩:BA),false)
  else
   ix a0 x1.Parent >>=fun x3=>
   some (x3.Text,true)
@[reducible] def qn5 (a0:(List Row)) (a1:Int) (r:BA × Bool):Prop:=
  Fn Tryz.prog G 36 [(.sl 5 false (a0.map Row.cells)),(.int .i64 a1)] (.tup [(.str r.1),(.bool r.2)])
theorem qgg:PC2 qn5 Zr:=fun a0 a1 r h=>by
 rw [Zr.eq_def] at h
 refine zg (T:=tt) (N:=27) (rs:= [.tmp 4, .tmp 5]) (fun vs w=>by simp) Tryz.func36 rfl rfl rfl rfl (by kernel_rfl) (z7 rfl) (ze _ rfl) ?_
 refine kr [] ?_
 obtain ⟨x1,hx,h⟩:=bind_some h
 refine ja env hx rfl rfl rfl rfl rfl ?_
 refine kr [] ?_
 refine qw (fun hb=> ?_) (fun hb=> ?_)
 ·replace h:=qv hb h
  refine kr [] ?_
  obtain ⟨x2,hx,h⟩:=bind_some h
  refine ja env hx rfl rfl rfl rfl rfl ?_
  refine kr [] ?_
  refine qd (fun hb=> ?_) (fun hb=> ?_)
  ·replace h:=qu hb h
   refine kr [] ?_
   cases h
   exact kf
  replace h:=qv hb h
  refine kr [] ?_
  obtain ⟨x3,hx,h⟩:=bind_some h
  refine ja env hx rfl rfl rfl rfl rfl ?_
  refine kr [] ?_
  cases h
  exact kf
 replace h:=qu hb h
 refine kr [] ?_
 cases h
 exact kf
def F_project_function_l0 (t0:(List Row)) (t5:Int):Option BA:=
 if (decide ((0:Int)≤t5))=true then
  ix t0 t5 >>=fun x2=>
  if (!decide (x2.Kind=(2:Int)))=true then
   ix t0 t5 >>=fun x3=>
   F_project_function_l0 (qa t0) x3.Parent
  else
   Zr (qa t0) (qa t5) >>=fun x4=>
   if x4.2=true then
    cat x4.1 (⟨#[46]⟩:BA) >>=fun x5=>
    ix t0 t5 >>=fun x6=>
    cat x5 x6.Text >>=fun x7=>
    some x7
   else
    ix t0 t5 >>=fun x8=>
    some x8.Text
 else
  some (⟨#[]⟩:BA)
 partial_fixpoint
@[reducible] def qbe (t0:(List Row)) (t5:Int) (r:BA):Prop:=
  Ok Tryz.prog G tt 46 0 (Ret Tryz.prog [.tmp 4] (fun y H=>Told Tryz.prog G H y (.str r))) (.again (je [] Tryz.f37 0).1 (je [] Tryz.f37 0).2 (.n (.sl 5 false (t0.map Row.cells)) (.n .undef .z (.n (.int .i64 t5) .z .z)) .z) 0 [])
theorem Yx:PC2 qbe F_project_function_l0:=by
 refine F_project_function_l0.partial_correctness qbe (fun F_project_function_l0 Yx t0 t5 r h=> ?_)
 unfold qa at h
 refine jm ?_
 refine kr [] ?_
 refine qd (fun hb=> ?_) (fun hb=> ?_)
 ·replace h:=qu hb h
  refine kr [] ?_
  obtain ⟨x2,hx,h⟩:=bind_some h
  refine ja env hx rfl rfl rfl rfl rfl ?_
  refine kr [] ?_
  refine qd (fun hb=> ?_) (fun hb=> ?_)
  ·replace h:=qu hb h
   refine kr [] ?_
   obtain ⟨x3,hx,h⟩:=bind_some h
   refine ja env hx rfl rfl rfl rfl rfl ?_
   refine kr [] ?_
   exact zx (by kernel_rfl) lA (Yx _ _ _ h)
  replace h:=qv hb h
  refine kr [] ?_
  obtain ⟨x4,hx,h⟩:=bind_some h
  refine qk (qgg _ _ _ hx) ?_
  refine kr [] ?_
  refine qd (fun hb=> ?_) (fun hb=> ?_)
  ·replace h:=qu hb h
   refine kr [] ?_
   obtain ⟨x5,hx,h⟩:=bind_some h
   refine q3h env hx rfl rfl ?_
   refine kr [] ?_
   obtain ⟨x6,hx,h⟩:=bind_some h
   refine ja env hx rfl rfl rfl rfl rfl ?_
   refine kr [] ?_
   obtain ⟨x7,hx,h⟩:=bind_some h
   refine q3h env hx rfl rfl ?_
   refine kr [] ?_
   cases h
   exact kf
  replace h:=qv hb h
  refine kr [] ?_
  obtain ⟨x8,hx,h⟩:=bind_some h
  refine ja env hx rfl rfl rfl rfl rfl ?_
  refine kr [] ?_
  cases h
  exact kf
 replace h:=qv hb h
 refine kr [] ?_
 cases h
 exact kf
def Qx (a0:(List Row)) (a1:Int):Option BA:=
 ix a0 a1 >>=fun x1=>
 F_project_function_l0 a0 x1.Parent
@[reducible] def qkf (a0:(List Row)) (a1:Int) (r:BA):Prop:=
  Fn Tryz.prog G 37 [(.sl 5 false (a0.map Row.cells)),(.int .i64 a1)] (.str r)
theorem qds:PC2 qkf Qx:=fun a0 a1 r h=>by
 rw [Qx.eq_def] at h
 refine zg (T:=tt) (N:=46) (rs:= [.tmp 4]) (fun vs w=>by simp) Tryz.func37 rfl rfl rfl rfl (by kernel_rfl) (z7 rfl) (ze _ rfl) ?_
 refine kr [] ?_
 obtain ⟨x1,hx,h⟩:=bind_some h
 refine ja env hx rfl rfl rfl rfl rfl ?_
 refine kr [] ?_
 exact jb (by kernel_rfl) lA (Yx _ _ _ h)
mutual
def wo (a0:(List Unit)) (j0:Nat) (t3:(List (Int × Int))) (t4:(List Decl)):Option ((List Decl)):=
 match a0 with
 | []=>
   some t4
 | x_0::a0=>
   if x_0.Broken=true then
    ue (qa a0) (qa j0) (qa t3) (qa t4)
   else
    qdv x_0.Tree >>=fun x2=>
    jp (qa a0) (qa j0) (qa x2) 0 (qa t3) (qa t4) ((j0:Nat):Int) (qa x2)
 partial_fixpoint
def ue (a0:(List Unit)) (j0:Nat) (t3:(List (Int × Int))) (t4:(List Decl)):Option ((List Decl)):=
 wo (qa a0) (j0+1) (qa t3) (qa t4)
 partial_fixpoint
def jp (a0:(List Unit)) (j0:Nat) (a1:(List Row)) (j1:Nat) (t3:(List (Int × Int))) (t4:(List Decl)) (t5:Int) (t7:(List Row)):Option ((List Decl)):=
 match a1 with
 | []=>
   ue (qa a0) (qa j0) (qa t3) (qa t4)
 | x_1 ::a1=>
   if (!(mhas t3 x_1.Kind))=true then
    wq (qa a0) (qa j0) (qa a1) (qa j1) (qa t3) (qa t4) (qa t5) (qa t7)
   else
    Zr (qa t7) ((j1:Nat):Int) >>=fun x3=>
    if x3.2=true then
     if (decide ((mget t3 x_1.Kind)=(1:Int)))=true then
      y6 (qa a0) (qa j0) (qa a1) (qa j1) (qa t3) (qa t4) (qa t5) (qa t7) ((j1:Nat):Int) (mget t3 x_1.Kind) (Decl.mk (4:Int) x3.1 x_1.Text (Ref.mk t5 ((j1:Nat):Int)))
     else
      y6 (qa a0) (qa j0) (qa a1) (qa j1) (qa t3) (qa t4) (qa t5) (qa t7) ((j1:Nat):Int) (mget t3 x_1.Kind) (Decl.mk (mget t3 x_1.Kind) (⟨#[]⟩) x_1.Text (Ref.mk t5 ((j1:Nat):Int)))
    else
     y6 (qa a0) (qa j0) (qa a1) (qa j1) (qa t3) (qa t4) (qa t5) (qa t7) ((j1:Nat):Int) (mget t3 x_1.Kind) (Decl.mk (mget t3 x_1.Kind) (⟨#[]⟩) x_1.Text (Ref.mk t5 ((j1:Nat):Int)))
 partial_fixpoint
def wq (a0:(List Unit)) (j0:Nat) (a1:(List Row)) (j1:Nat) (t3:(List (Int × Int))) (t4:(List Decl)) (t5:Int) (t7:(List Row)):Option ((List Decl)):=
 jp (qa a0) (qa j0) (qa a1) (j1+1) (qa t3) (qa t4) (qa t5) (qa t7)
 partial_fixpoint
def y6 (a0:(List Unit)) (j0:Nat) (a1:(List Row)) (j1:Nat) (t3:(List (Int × Int))) (t4:(List Decl)) (t5:Int) (t7:(List Row)) (t8:Int) (t10:Int) (o2:Decl):Option ((List Decl)):=
 if (decide (t10=(5:Int)))=true then
  Qx (qa t7) (qa t8) >>=fun x5=>
  wx (qa a0) (qa j0) (qa a1) (qa j1) (qa t3) (qa t4) (qa t5) (qa t7) (Decl.mk o2.Kind x5 o2.Name o2.At)
 else
  if (decide (t10=(6:Int)))=true then
   Qx (qa t7) (qa t8) >>=fun x4=>
   wx (qa a0) (qa j0) (qa a1) (qa j1) (qa t3) (qa t4) (qa t5) (qa t7) (Decl.mk o2.Kind x4 o2.Name o2.At)
  else
   wx (qa a0) (qa j0) (qa a1) (qa j1) (qa t3) (qa t4) (qa t5) (qa t7) (qa o2)
 partial_fixpoint
def wx (a0:(List Unit)) (j0:Nat) (a1:(List Row)) (j1:Nat) (t3:(List (Int × Int))) (t4:(List Decl)) (t5:Int) (t7:(List Row)) (o2:Decl):Option ((List Decl)):=
 app 56 t4 ([o2]) >>=fun x6=>
 wq (qa a0) (qa j0) (qa a1) (qa j1) (qa t3) (qa x6) (qa t5) (qa t7)
 partial_fixpoint
end
@[reducible] def Wm (a0:(List Unit)) (j0:Nat) (t3:(List (Int × Int))) (t4:(List Decl)) (r:(List Decl)):Prop:=
  ∀(l0:List Unit),l0.drop j0=a0→j0≤l0.length→l0.length≤9223372036854775807→Ok Tryz.prog G tt 82 0 (Ret Tryz.prog [.tmp 2] (fun y H=>Told Tryz.prog G H y (.sl 5 false (r.map Decl.cells)))) (.again (je [1000001,1000003,61,70] Tryz.f19 0).1 (je [1000001,1000003,61,70] Tryz.f19 0).2 (.n .undef (.n .undef (.n (.mp .i64 .i64 t3) .z .z) (.n .undef (.n .undef (.n (.int .i64 ((l0.map Unit.cells).length:Int)) .z .z) .z) .z)) (.n .undef (.n (.bs 5 0 0 0 t4.length) (.n .undef (.n (.sl 7 false (l0.map Unit.cells)) .z .z) .z) .z) (.n .undef (.n .undef (.n (.int .i64 ((j0:Nat):Int)) .z .z) .z) .z))) 1 [(0, .row 34 (t4.map Decl.cells).flatten)])
@[reducible] def Wo (a0:(List Unit)) (j0:Nat) (t3:(List (Int × Int))) (t4:(List Decl)) (r:(List Decl)):Prop:=
  ∀(l0:List Unit),l0.drop (j0+1)=a0→j0+1≤l0.length→l0.length≤9223372036854775807→Ok Tryz.prog G tt 82 0 (Ret Tryz.prog [.tmp 2] (fun y H=>Told Tryz.prog G H y (.sl 5 false (r.map Decl.cells)))) (.go [] (qb0 [1000001,1000003,61,70] Tryz.f19 1) [] (.n .undef (.n .undef (.n (.mp .i64 .i64 t3) .z .z) (.n .undef (.n .undef (.n (.int .i64 ((l0.map Unit.cells).length:Int)) .z .z) .z) .z)) (.n .undef (.n (.bs 5 0 0 0 t4.length) (.n .undef (.n (.sl 7 false (l0.map Unit.cells)) .z .z) .z) .z) (.n .undef (.n .undef (.n (.int .i64 ((j0:Nat):Int)) .z .z) .z) .z))) 2 [(0, .row 34 (t4.map Decl.cells).flatten)])
@[reducible] def Wl (a0:(List Unit)) (j0:Nat) (a1:(List Row)) (j1:Nat) (t3:(List (Int × Int))) (t4:(List Decl)) (t5:Int) (t7:(List Row)) (r:(List Decl)):Prop:=
  ∀(l0:List Unit),l0.drop (j0+1)=a0→j0+1≤l0.length→l0.length≤9223372036854775807→∀(l1:List Row),l1.drop j1=a1→j1≤l1.length→l1.length≤9223372036854775807→Ok Tryz.prog G tt 82 0 (Ret Tryz.prog [.tmp 2] (fun y H=>Told Tryz.prog G H y (.sl 5 false (r.map Decl.cells)))) (.again (je [1000001,1000003,61,70] Tryz.f19 1).1 (je [1000001,1000003,61,70] Tryz.f19 1).2 (.n .undef (.n .undef (.n (.mp .i64 .i64 t3) (.n (.sl 5 false (t7.map Row.cells)) .z .z) .z) (.n (.int .i64 t5) (.n .undef (.n (.int .i64 ((l0.map Unit.cells).length:Int)) .z .z) .z) (.n .undef .z (.n (.int .i64 ((l1.map Row.cells).length:Int)) .z .z)))) (.n .undef (.n (.bs 5 0 0 0 t4.length) (.n .undef (.n (.sl 7 false (l0.map Unit.cells)) .z .z) .z) (.n .undef .z (.n (.sl 5 false (l1.map Row.cells)) .z .z))) (.n .undef (.n .undef (.n (.int .i64 ((j0:Nat):Int)) .z .z) .z) (.n .undef .z (.n (.int .i64 ((j1:Nat):Int)) .z .z))))) 2 [(0, .row 34 (t4.map Decl.cells).flatten)])
@[reducible] def Wn (a0:(List Unit)) (j0:Nat) (a1:(List Row)) (j1:Nat) (t3:(List (Int × Int))) (t4:(List Decl)) (t5:Int) (t7:(List Row)) (r:(List Decl)):Prop:=
  ∀(l0:List Unit),l0.drop (j0+1)=a0→j0+1≤l0.length→l0.length≤9223372036854775807→∀(l1:List Row),l1.drop (j1+1)=a1→j1+1≤l1.length→l1.length≤9223372036854775807→Ok Tryz.prog G tt 82 0 (Ret Tryz.prog [.tmp 2] (fun y H=>Told Tryz.prog G H y (.sl 5 false (r.map Decl.cells)))) (.go [] (qb0 [1000001,1000003,61,70] Tryz.f19 3) [] (.n .undef (.n .undef (.n (.mp .i64 .i64 t3) (.n (.sl 5 false (t7.map Row.cells)) .z .z) .z) (.n (.int .i64 t5) (.n .undef (.n (.int .i64 ((l0.map Unit.cells).length:Int)) .z .z) .z) (.n .undef .z (.n (.int .i64 ((l1.map Row.cells).length:Int)) .z .z)))) (.n .undef (.n (.bs 5 0 0 0 t4.length) (.n .undef (.n (.sl 7 false (l0.map Unit.cells)) .z .z) .z) (.n .undef .z (.n (.sl 5 false (l1.map Row.cells)) .z .z))) (.n .undef (.n .undef (.n (.int .i64 ((j0:Nat):Int)) .z .z) .z) (.n .undef .z (.n (.int .i64 ((j1:Nat):Int)) .z .z))))) 3 [(0, .row 34 (t4.map Decl.cells).flatten)])
@[reducible] def K3 (a0:(List Unit)) (j0:Nat) (a1:(List Row)) (j1:Nat) (t3:(List (Int × Int))) (t4:(List Decl)) (t5:Int) (t7:(List Row)) (t8:Int) (t10:Int) (o2:Decl) (r:(List Decl)):Prop:=
  ∀(l0:List Unit),l0.drop (j0+1)=a0→j0+1≤l0.length→l0.length≤9223372036854775807→∀(l1:List Row),l1.drop (j1+1)=a1→j1+1≤l1.length→l1.length≤9223372036854775807→Ok Tryz.prog G tt 82 0 (Ret Tryz.prog [.tmp 2] (fun y H=>Told Tryz.prog G H y (.sl 5 false (r.map Decl.cells)))) (.go [] (vf [1000001,1000003,61,70] Tryz.f19 61) [] (.n .undef (.n .undef (.n (.mp .i64 .i64 t3) (.n (.sl 5 false (t7.map Row.cells)) .z .z) .z) (.n (.int .i64 t5) (.n .undef (.n (.int .i64 ((l0.map Unit.cells).length:Int)) .z .z) .z) (.n .undef .z (.n (.int .i64 ((l1.map Row.cells).length:Int)) .z .z)))) (.n .undef (.n (.bs 5 0 0 0 t4.length) (.n (.int .i64 t8) (.n (.sl 7 false (l0.map Unit.cells)) .z .z) .z) (.n (.ptr 2 3 0) .z (.n (.sl 5 false (l1.map Row.cells)) .z .z))) (.n .undef (.n (.int .i64 t10) (.n (.int .i64 ((j0:Nat):Int)) .z .z) .z) (.n .undef .z (.n (.int .i64 ((j1:Nat):Int)) .z .z))))) 4 [(0, .row 34 (t4.map Decl.cells).flatten),(2, .dead),(3, .var 34 (Decl.cells o2))])
@[reducible] def K2 (a0:(List Unit)) (j0:Nat) (a1:(List Row)) (j1:Nat) (t3:(List (Int × Int))) (t4:(List Decl)) (t5:Int) (t7:(List Row)) (o2:Decl) (r:(List Decl)):Prop:=
  ∀(l0:List Unit),l0.drop (j0+1)=a0→j0+1≤l0.length→l0.length≤9223372036854775807→∀(l1:List Row),l1.drop (j1+1)=a1→j1+1≤l1.length→l1.length≤9223372036854775807→Ok Tryz.prog G tt 82 0 (Ret Tryz.prog [.tmp 2] (fun y H=>Told Tryz.prog G H y (.sl 5 false (r.map Decl.cells)))) (.go [] (vf [1000001,1000003,61,70] Tryz.f19 70) [] (.n .undef (.n .undef (.n (.mp .i64 .i64 t3) (.n (.sl 5 false (t7.map Row.cells)) .z .z) .z) (.n (.int .i64 t5) (.n .undef (.n (.int .i64 ((l0.map Unit.cells).length:Int)) .z .z) .z) (.n .undef .z (.n (.int .i64 ((l1.map Row.cells).length:Int)) .z .z)))) (.n .undef (.n (.bs 5 0 0 0 t4.length) (.n .undef (.n (.sl 7 false (l0.map Unit.cells)) .z .z) .z) (.n (.ptr 2 3 0) .z (.n (.sl 5 false (l1.map Row.cells)) .z .z))) (.n .undef (.n .undef (.n (.int .i64 ((j0:Nat):Int)) .z .z) .z) (.n .undef .z (.n (.int .i64 ((j1:Nat):Int)) .z .z))))) 4 [(0, .row 34 (t4.map Decl.cells).flatten),(2, .dead),(3, .var 34 (Decl.cells o2))])
theorem uw:PC4 Wm wo∧PC8 Wl jp∧PC11 K3 y6∧PC9 K2 wx∧PC8 Wn wq∧PC4 Wo ue:=by
 refine wo.mutual_partial_correctness Wm Wl K3 K2 Wn Wo (fun jp ue Yb Yd a0 j0 t3 t4 r h=> ?_) (fun y6 wq ue Jt Yc Yd a0 j0 a1 j1 t3 t4 t5 t7 r h=> ?_) (fun wx Js a0 j0 a1 j1 t3 t4 t5 t7 t8 t10 o2 r h=> ?_) (fun wq Yc a0 j0 a1 j1 t3 t4 t5 t7 o2 r h=> ?_) (fun jp Yb a0 j0 a1 j1 t3 t4 t5 t7 r h=> ?_) (fun wo Wq a0 j0 t3 t4 r h=> ?_)
 ·unfold qa at h
  intro l0 hl0 hj0 hm0
  refine jm ?_
  cases a0 with
  | nil=>
    have hb:=W0 (C:=Unit.cells) hl0 hj0
    refine kr [1000001,1000003,61,70] ?_
    refine qo hb ?_
    refine kr [1000001,1000003,61,70] ?_
    cases h
    exact zb env rfl rfl (zt (qud (q5 (z8 qad rfl) (by simp)) (by simp)))
  | cons x_0 a0=>
    obtain ⟨hb,hx0,hd0,hk0,hw0⟩:=Y7 (C:=Unit.cells) hl0 hm0
    refine kr [1000001,1000003,61,70] ?_
    refine qn hb ?_
    refine kr [1000001,1000003,61,70] ?_
    refine Y5 env rfl rfl rfl rfl (m:=j0) rfl (qdj hx0 rfl) ?_
    refine kr [1000001,1000003,61,70] ?_
    refine qd (fun hb=> ?_) (fun hb=> ?_)
    ·replace h:=qu hb h
     refine kr [1000001,1000003,61,70] ?_
     exact q6 (by kernel_rfl) rfl lA (Yd _ _ _ _ _ h l0 hd0 hk0 hm0)
    replace h:=qv hb h
    refine kr [1000001,1000003,61,70] ?_
    obtain ⟨x2,hx,h⟩:=bind_some h
    refine qk (qtz _ _ hx) ?_
    refine kr [1000001,1000003,61,70] ?_
    refine qev 28 rfl (fun hm=> ?_)
    exact jb (by kernel_rfl) lA (Yb _ _ _ _ _ _ _ _ _ h l0 hd0 hk0 hm0 x2 rfl (Az _) (Y9 hm))
 ·unfold qa at h
  intro l0 hd0 hk0 hm0
  have hw0:=qdd hk0 hm0
  intro l1 hl1 hj1 hm1
  refine jm ?_
  cases a1 with
  | nil=>
    have hb:=W0 (C:=Row.cells) hl1 hj1
    refine kr [1000001,1000003,61,70] ?_
    refine qo hb ?_
    refine kr [1000001,1000003,61,70] ?_
    exact q6 (by kernel_rfl) rfl lA (Yd _ _ _ _ _ h l0 hd0 hk0 hm0)
  | cons x_1 a1=>
    obtain ⟨hb,hx1,hd1,hk1,hw1⟩:=Y7 (C:=Row.cells) hl1 hm1
    refine kr [1000001,1000003,61,70] ?_
    refine qn hb ?_
    refine kr [1000001,1000003,61,70] ?_
    refine Y5 env rfl rfl rfl rfl (m:=j1) rfl (qdj hx1 rfl) ?_
    refine kr [1000001,1000003,61,70] ?_
    refine zb9 env rfl rfl (by kernel_rfl) ?_
    refine kr [1000001,1000003,61,70] ?_
    refine qd (fun hb=> ?_) (fun hb=> ?_)
    ·replace h:=qu hb h
     refine kr [1000001,1000003,61,70] ?_
     exact q6 (by kernel_rfl) rfl lA (Yc _ _ _ _ _ _ _ _ _ h l0 hd0 hk0 hm0 l1 hd1 hk1 hm1)
    replace h:=qv hb h
    refine kr [1000001,1000003,61,70] ?_
    obtain ⟨x3,hx,h⟩:=bind_some h
    refine qk (qgg _ _ _ hx) ?_
    refine kr [1000001,1000003,61,70] ?_
    refine qq (fun hb=> ?_) (fun hb=> ?_)
    ·replace h:=qu hb h
     refine kr [1000001,1000003,61,70] ?_
     refine qd (fun hb=> ?_) (fun hb=> ?_)
     ·replace h:=qu hb h
      refine kr [1000001,1000003,61,70] ?_
      exact q6 (by kernel_rfl) rfl lA (Jt _ _ _ _ _ _ _ _ _ _ _ _ h l0 hd0 hk0 hm0 l1 hd1 hk1 hm1)
     replace h:=qv hb h
     refine kr [1000001,1000003,61,70] ?_
     exact q6 (by kernel_rfl) rfl lA (Jt _ _ _ _ _ _ _ _ _ _ _ _ h l0 hd0 hk0 hm0 l1 hd1 hk1 hm1)
    replace h:=qv hb h
    refine kr [1000001,1000003,61,70] ?_
    exact q6 (by kernel_rfl) rfl lA (Jt _ _ _ _ _ _ _ _ _ _ _ _ h l0 hd0 hk0 hm0 l1 hd1 hk1 hm1)
 ·unfold qa at h
  intro l0 hd0 hk0 hm0
  have hw0:=qdd hk0 hm0
  intro l1 hd1 hk1 hm1
  have hw1:=qdd hk1 hm1
  refine kr [1000001,1000003,61,70] ?_
  refine qw (fun hb=> ?_) (fun hb=> ?_)
  ·replace h:=qv hb h
   refine kr [1000001,1000003,61,70] ?_
   refine qd (fun hb=> ?_) (fun hb=> ?_)
   ·replace h:=qu hb h
    refine kr [1000001,1000003,61,70] ?_
    obtain ⟨x4,hx,h⟩:=bind_some h
    refine qk (qds _ _ _ hx) ?_
    refine kr [1000001,1000003,61,70] ?_
    exact q6 (by kernel_rfl) rfl lA (Js _ _ _ _ _ _ _ _ _ _ h l0 hd0 hk0 hm0 l1 hd1 hk1 hm1)
   replace h:=qv hb h
   refine kr [1000001,1000003,61,70] ?_
   exact q6 (by kernel_rfl) rfl lA (Js _ _ _ _ _ _ _ _ _ _ h l0 hd0 hk0 hm0 l1 hd1 hk1 hm1)
  replace h:=qu hb h
  refine kr [1000001,1000003,61,70] ?_
  obtain ⟨x5,hx,h⟩:=bind_some h
  refine qk (qds _ _ _ hx) ?_
  refine kr [1000001,1000003,61,70] ?_
  exact q6 (by kernel_rfl) rfl lA (Js _ _ _ _ _ _ _ _ _ _ h l0 hd0 hk0 hm0 l1 hd1 hk1 hm1)
 ·unfold qa at h
  intro l0 hd0 hk0 hm0
  have hw0:=qdd hk0 hm0
  intro l1 hd1 hk1 hm1
  have hw1:=qdd hk1 hm1
  refine kr [1000001,1000003,61,70] ?_
  obtain ⟨x6,hx,h⟩:=bind_some h
  have hp_x6:=ju hx (by simp)
  refine y3 (C:=Decl.cells) env hx rfl rfl (by simp) (fun _=>rfl) rfl rfl rfl rfl rfl (by decide) rfl rfl rfl ?_
  refine kr [1000001,1000003,61,70] ?_
  exact q6 (by kernel_rfl) rfl lA (Yc _ _ _ _ _ _ _ _ _ h l0 hd0 hk0 hm0 l1 hd1 hk1 hm1)
 ·unfold qa at h
  intro l0 hd0 hk0 hm0
  have hw0:=qdd hk0 hm0
  intro l1 hd1 hk1 hm1
  have hw1:=qdd hk1 hm1
  refine kr [1000001,1000003,61,70] ?_
  exact zx (by kernel_rfl) (qf9 (by simp only [hw1];simp <;> (repeat' apply Bz) <;> first | rfl | exact fun x a _ h=>(qad.all a x h).2) (by simp <;> (repeat' apply Bz) <;> first | rfl | exact fun x a _ h=>(qad.all a x h).2)) (Yb _ _ _ _ _ _ _ _ _ h l0 hd0 hk0 hm0 l1 hd1 hk1 hm1)
 unfold qa at h
 intro l0 hd0 hk0 hm0
 have hw0:=qdd hk0 hm0
 refine kr [1000001,1000003,61,70] ?_
 exact zx (by kernel_rfl) (qf9 (by simp only [hw0];simp <;> (repeat' apply Bz) <;> first | rfl | exact fun x a _ h=>(qad.all a x h).2) (by simp <;> (repeat' apply Bz) <;> first | rfl | exact fun x a _ h=>(qad.all a x h).2)) (Wq _ _ _ _ _ h l0 hd0 hk0 hm0)
theorem Wq:PC4 Wm wo:=uw.1
theorem Yb:PC8 Wl jp:=uw.2.1
theorem Jt:PC11 K3 y6:=uw.2.2.1
theorem Js:PC9 K2 wx:=uw.2.2.2.1
theorem Yc:PC8 Wn wq:=uw.2.2.2.2.1
theorem Yd:PC4 Wo ue:=uw.2.2.2.2.2
def J2 (a0:(List Unit)):Option ((List Decl)):=
 qej >>=fun x1=>
 wo a0 0 x1 ([]:List Decl)
@[reducible] def qn6 (a0:(List Unit)) (r:(List Decl)):Prop:=
  Fn Tryz.prog G 19 [(.sl 7 false (a0.map Unit.cells))] (.sl 5 false (r.map Decl.cells))
theorem qgh:PC1 qn6 J2:=fun a0 r h=>by
 rw [J2.eq_def] at h
 refine zg (T:=tt) (N:=82) (rs:= [.tmp 2]) (fun vs w=>by simp) Tryz.func19 rfl rfl rfl rfl (by kernel_rfl) (z7 rfl) (ze _ rfl) ?_
 refine kr [1000001,1000003,61,70] ?_
 obtain ⟨x1,hx,h⟩:=bind_some h
 refine qk (qob _ hx) ?_
 refine kr [1000001,1000003,61,70] ?_
 refine qox 4 _ 5 34 rfl rfl ?_
 refine qev 16 rfl (fun hm=> ?_)
 exact jb (by kernel_rfl) lA (Wq _ _ _ _ _ h a0 rfl (Az _) (Y9 hm))
mutual
def w6 (a0:(List Decl)) (t1:Int) (t2:BA) (t3:BA):Option (Decl × Bool):=
 match a0 with
 | []=>
   some ((Decl.mk 0 (⟨#[]⟩) (⟨#[]⟩) (Ref.mk 0 0)),false)
 | x_0 ::a0=>
   if (decide (x_0.Kind=t1))=true then
    if (decide (x_0.Owner=t2))=true then
     if (decide (x_0.Name=t3))=true then
      some (x_0,true)
     else
      ud (qa a0) (qa t1) (qa t2) (qa t3)
    else
     ud (qa a0) (qa t1) (qa t2) (qa t3)
   else
    ud (qa a0) (qa t1) (qa t2) (qa t3)
 partial_fixpoint
def ud (a0:(List Decl)) (t1:Int) (t2:BA) (t3:BA):Option (Decl × Bool):=
 w6 (qa a0) (qa t1) (qa t2) (qa t3)
 partial_fixpoint
end
@[reducible] def qag (a0:(List Decl)) (t1:Int) (t2:BA) (t3:BA) (r:Decl × Bool):Prop:=
  ∀(l0:List Decl) (j0:Nat),l0.drop j0=a0→j0≤l0.length→l0.length≤9223372036854775807→Ok Tryz.prog G tt 38 0 (Ret Tryz.prog [.cell 8 34, .tmp 9] (fun y H=>Told Tryz.prog G H y (.tup [(.agg (Decl.cells r.1)),(.bool r.2)]))) (.again (je [34] Tryz.f16 0).1 (je [34] Tryz.f16 0).2 (.n .undef (.n (.int .i64 t1) (.n (.str t3) (.n .undef (.n (.int .i64 ((j0:Nat):Int)) .z .z) .z) .z) (.n .undef .z (.n (.sl 5 false (l0.map Decl.cells)) .z .z))) (.n (.str t2) (.n .undef (.n (.ptr 0 0 0) .z .z) .z) (.n .undef .z (.n (.int .i64 ((l0.map Decl.cells).length:Int)) .z .z)))) 1 [(0, .var 34 [(.int .i64 0),(.str ⟨#[]⟩),(.str ⟨#[]⟩),(.int .i64 0),(.int .i64 0)])])
@[reducible] def Wk (a0:(List Decl)) (t1:Int) (t2:BA) (t3:BA) (r:Decl × Bool):Prop:=
  ∀(l0:List Decl) (j0:Nat),l0.drop (j0+1)=a0→j0+1≤l0.length→l0.length≤9223372036854775807→Ok Tryz.prog G tt 38 0 (Ret Tryz.prog [.cell 8 34, .tmp 9] (fun y H=>Told Tryz.prog G H y (.tup [(.agg (Decl.cells r.1)),(.bool r.2)]))) (.go [] (vf [34] Tryz.f16 34) [] (.n .undef (.n (.int .i64 t1) (.n (.str t3) (.n .undef (.n (.int .i64 ((j0:Nat):Int)) .z .z) .z) .z) (.n .undef .z (.n (.sl 5 false (l0.map Decl.cells)) .z .z))) (.n (.str t2) (.n .undef (.n (.ptr 0 0 0) .z .z) .z) (.n .undef .z (.n (.int .i64 ((l0.map Decl.cells).length:Int)) .z .z)))) 2 [(0, .var 34 [(.int .i64 0),(.str ⟨#[]⟩),(.str ⟨#[]⟩),(.int .i64 0),(.int .i64 0)])])
theorem qcq:PC4 qag w6∧PC4 Wk ud:=by
 refine w6.mutual_partial_correctness qag Wk (fun ud Ya a0 t1 t2 t3 r h=> ?_) (fun w6 qaj a0 t1 t2 t3 r h=> ?_)
 ·unfold qa at h
  intro l0 j0 hl0 hj0 hm0
  refine jm ?_
  cases a0 with
  | nil=>
    have hb:=W0 (C:=Decl.cells) hl0 hj0
    refine kr [34] ?_
    refine qo hb ?_
    refine kr [34] ?_
    cases h
    exact kf
  | cons x_0 a0=>
    obtain ⟨hb,hx0,hd0,hk0,hw0⟩:=Y7 (C:=Decl.cells) hl0 hm0
    refine kr [34] ?_
    refine qn hb ?_
    refine kr [34] ?_
    refine Y5 env rfl rfl rfl rfl (m:=j0) rfl (qdj hx0 rfl) ?_
    refine kr [34] ?_
    refine qq (fun hb=> ?_) (fun hb=> ?_)
    ·replace h:=qu hb h
     refine kr [34] ?_
     refine qq (fun hb=> ?_) (fun hb=> ?_)
     ·replace h:=qu hb h
      refine kr [34] ?_
      refine qd (fun hb=> ?_) (fun hb=> ?_)
      ·replace h:=qu hb h
       refine kr [34] ?_
       cases h
       exact kf
      replace h:=qv hb h
      refine kr [34] ?_
      exact q6 (by kernel_rfl) rfl lA (Ya _ _ _ _ _ h l0 j0 hd0 hk0 hm0)
     replace h:=qv hb h
     refine kr [34] ?_
     exact q6 (by kernel_rfl) rfl lA (Ya _ _ _ _ _ h l0 j0 hd0 hk0 hm0)
    replace h:=qv hb h
    refine kr [34] ?_
    exact q6 (by kernel_rfl) rfl lA (Ya _ _ _ _ _ h l0 j0 hd0 hk0 hm0)
 unfold qa at h
 intro l0 j0 hd0 hk0 hm0
 have hw0:=qdd hk0 hm0
 refine kr [34] ?_
 exact zx (by kernel_rfl) (qf9 (by simp only [hw0];simp <;> (repeat' apply Bz) <;> first | rfl) (by simp <;> (repeat' apply Bz) <;> first | rfl)) (qaj _ _ _ _ _ h l0 (j0+1) hd0 hk0 hm0)
theorem qaj:PC4 qag w6:=qcq.1
theorem Ya:PC4 Wk ud:=qcq.2
def Y1 (a0:(List Unit)) (a1:Int) (a2:BA) (a3:BA):Option (Decl × Bool):=
 J2 a0 >>=fun x1=>
 w6 x1 a1 a2 a3
@[reducible] def qo3 (a0:(List Unit)) (a1:Int) (a2:BA) (a3:BA) (r:Decl × Bool):Prop:=
  Fn Tryz.prog G 16 [(.sl 7 false (a0.map Unit.cells)),(.int .i64 a1),(.str a2),(.str a3)] (.tup [(.agg (Decl.cells r.1)),(.bool r.2)])
theorem qhv:PC4 qo3 Y1:=fun a0 a1 a2 a3 r h=>by
 rw [Y1.eq_def] at h
 refine zg (T:=tt) (N:=38) (rs:= [.cell 8 34, .tmp 9]) (fun vs w=>by simp) Tryz.func16 rfl rfl rfl rfl (by kernel_rfl) (z7 rfl) (ze _ rfl) ?_
 refine kr [34] ?_
 obtain ⟨x1,hx,h⟩:=bind_some h
 refine qk (qgh _ _ hx) ?_
 refine kr [34] ?_
 refine qev 13 rfl (fun hm=> ?_)
 exact jb (by kernel_rfl) lA (qaj _ _ _ _ _ h x1 0 rfl (Az _) (Y9 hm))
def qbk  : Option Bool:=
 Jp ([(File.mk (⟨#[97]⟩:BA) (⟨#[99,108,97,115,115,32,67,32,123,32,102,110,32,109,40,97,32,105,110,116,41,32,105,110,116,32,123,32,108,101,116,32,98,32,61,32,97,59,32,114,101,116,117,114,110,32,98,59,32,125,32,125,10]⟩:BA)),(File.mk (⟨#[98]⟩:BA) (⟨#[102,110]⟩:BA))]) >>=fun x1=>
 J2 x1.1 >>=fun x2=>
 Y1 x1.1 (6:Int) (⟨#[67,46,109]⟩:BA) (⟨#[98]⟩:BA) >>=fun x3=>
 Y1 x1.1 (1:Int) (⟨#[]⟩:BA) (⟨#[109]⟩:BA) >>=fun x4=>
 if (decide (x1.2=(0:Int)))=true then
  if (decide (((x1.1.map Unit.cells).length:Int)=(2:Int)))=true then
   ix x1.1 (0:Int) >>=fun x5=>
   if (!x5.Broken)=true then
    ix x1.1 (1:Int) >>=fun x6=>
    if x6.Broken=true then
     if (decide (((x2.map Decl.cells).length:Int)=(4:Int)))=true then
      ix x2 (1:Int) >>=fun x7=>
      if (decide (x7.Kind=(4:Int)))=true then
       ix x2 (1:Int) >>=fun x8=>
       if (decide (x8.Owner=(⟨#[67]⟩:BA)))=true then
        ix x2 (2:Int) >>=fun x9=>
        if (decide (x9.Owner=(⟨#[67,46,109]⟩:BA)))=true then
         if x3.2=true then
          ix x2 (3:Int) >>=fun x10=>
          if (decide (x3.1.Kind=x10.Kind) && (decide (x3.1.Owner=x10.Owner) && (decide (x3.1.Name=x10.Name) && (decide (x3.1.At.Unit=x10.At.Unit) && (decide (x3.1.At.Node=x10.At.Node) && true)))))=true then
           if (!x4.2)=true then
            Zs ([(File.mk (⟨#[98]⟩:BA) (⟨#[]⟩)),(File.mk (⟨#[97]⟩:BA) (⟨#[]⟩))]) >>=fun x11=>
            some (decide (x11=(14:Int)))
           else
            some false
          else
           some false
         else
          some false
        else
         some false
       else
        some false
      else
       some false
     else
      some false
    else
     some false
   else
    some false
  else
   some false
 else
  some false
@[reducible] def qty  (r:Bool):Prop:=
  Fn Tryz.prog G 9 [] (.bool r)
theorem qls :PC0 qty qbk:=fun  r h=>by
 rw [qbk.eq_def] at h
 refine zg (T:=tt) (N:=94) (rs:= [.tmp 0]) (fun vs w=>by simp) Tryz.func9 rfl rfl rfl rfl (by kernel_rfl) (z7 rfl) (ze _ rfl) ?_
 refine kr [] ?_
 obtain ⟨x1,hx,h⟩:=bind_some h
 refine qk (Fn.wk (qhu _ _ hx) (Ze (qxw (.inl rfl)) qjm)) ?_
 refine kr [] ?_
 obtain ⟨x2,hx,h⟩:=bind_some h
 refine qk (qgh _ _ hx) ?_
 refine kr [] ?_
 obtain ⟨x3,hx,h⟩:=bind_some h
 refine qk (qhv _ _ _ _ _ hx) ?_
 refine kr [] ?_
 obtain ⟨x4,hx,h⟩:=bind_some h
 refine qk (qhv _ _ _ _ _ hx) ?_
 refine kr [] ?_
 refine qq (fun hb=> ?_) (fun hb=> ?_)
 ·replace h :=qu hb h
  refine kr [] ?_
  refine qq (fun hb=> ?_) (fun hb=> ?_)
  ·replace h :=qu hb h
   refine kr [] ?_
   obtain ⟨x5,hx,h⟩:=bind_some h
   refine ja env hx rfl rfl rfl rfl rfl ?_
   refine kr [] ?_
   refine qq (fun hb=> ?_) (fun hb=> ?_)
   ·replace h:=qu hb h
    refine kr [] ?_
    obtain ⟨x6,hx,h⟩:=bind_some h
    refine ja env hx rfl rfl rfl rfl rfl ?_
    refine kr [] ?_
    refine qq (fun hb=> ?_) (fun hb=> ?_)
    ·replace h:=qu hb h
     refine kr [] ?_
     refine qq (fun hb=> ?_) (fun hb=> ?_)
     ·replace h:=qu hb h
      refine kr [] ?_
      obtain ⟨x7,hx,h⟩:=bind_some h
      refine ja env hx rfl rfl rfl rfl rfl ?_
      refine kr [] ?_
      refine qq (fun hb=> ?_) (fun hb=> ?_)
      ·replace h:=qu hb h
       refine kr [] ?_
       obtain ⟨x8,hx,h⟩:=bind_some h
       refine ja env hx rfl rfl rfl rfl rfl ?_
       refine kr [] ?_
       refine qq (fun hb=> ?_) (fun hb=> ?_)
       ·replace h:=qu hb h
        refine kr [] ?_
        obtain ⟨x9,hx,h⟩:=bind_some h
        refine ja env hx rfl rfl rfl rfl rfl ?_
        refine kr [] ?_
        refine qq (fun hb=> ?_) (fun hb=> ?_)
        ·replace h:=qu hb h
         refine kr [] ?_
         refine qq (fun hb=> ?_) (fun hb=> ?_)
         ·replace h:=qu hb h
          refine kr [] ?_
          obtain ⟨x10,hx,h⟩:=bind_some h
          refine ja env hx rfl rfl rfl rfl rfl ?_
          refine kr [] ?_
          refine qq (fun hb=> ?_) (fun hb=> ?_)
          ·replace h:=qu hb h
           refine kr [] ?_
           refine qq (fun hb=> ?_) (fun hb=> ?_)
           ·replace h:=qu hb h
            refine kr [] ?_
            obtain ⟨x11,hx,h⟩:=bind_some h
            refine qk (Fn.wk (qb6 _ _ hx) (Ze (qxw (.inl rfl)) qjm)) ?_
            refine kr [] ?_
            cases h
            exact kf
           replace h:=qv hb h
           refine kr [] ?_
           cases h
           exact kf
          replace h:=qv hb h
          refine kr [] ?_
          cases h
          exact kf
         replace h:=qv hb h
         refine kr [] ?_
         cases h
         exact kf
        replace h:=qv hb h
        refine kr [] ?_
        cases h
        exact kf
       replace h:=qv hb h
       refine kr [] ?_
       cases h
       exact kf
      replace h:=qv hb h
      refine kr [] ?_
      cases h
      exact kf
     replace h:=qv hb h
     refine kr [] ?_
     cases h
     exact kf
    replace h:=qv hb h
    refine kr [] ?_
    cases h
    exact kf
   replace h:=qv hb h
   refine kr [] ?_
   cases h
   exact kf
  replace h:=qv hb h
  refine kr [] ?_
  cases h
  exact kf
 replace h:=qv hb h
 refine kr [] ?_
 cases h
 exact kf
def qd0 (a0:Int):Option Bool:=
 if (decide ((97:Int)≤a0))=true then
  if (decide (a0≤(122:Int)))=true then
   some true
  else
   if (decide ((65:Int)≤a0))=true then
    if (decide (a0≤(90:Int)))=true then
     some true
    else
     some (decide (a0=(95:Int)))
   else
    some (decide (a0=(95:Int)))
 else
  if (decide ((65:Int)≤a0))=true then
   if (decide (a0≤(90:Int)))=true then
    some true
   else
    some (decide (a0=(95:Int)))
  else
   some (decide (a0=(95:Int)))
@[reducible] def qtv (a0:Int) (r:Bool):Prop:=
  Fn Tryz.prog G 89 [(.int .u8 a0)] (.bool r)
theorem qt5:PC1 qtv qd0:=fun a0 r h=>by
 rw [qd0.eq_def] at h
 refine zg (T:=tt) (N:=21) (rs:= [.tmp 2]) (fun vs w=>by simp) Tryz.func89 rfl rfl rfl rfl (by kernel_rfl) (z7 rfl) (ze _ rfl) ?_
 refine kr [] ?_
 refine qq (fun hb=> ?_) (fun hb=> ?_)
 ·replace h:=qu hb h
  refine kr [] ?_
  refine qw (fun hb=> ?_) (fun hb=> ?_)
  ·replace h:=qv hb h
   refine kr [] ?_
   refine qq (fun hb=> ?_) (fun hb=> ?_)
   ·replace h:=qu hb h
    refine kr [] ?_
    refine qw (fun hb=> ?_) (fun hb=> ?_)
    ·replace h:=qv hb h
     refine kr [] ?_
     cases h
     exact kf
    replace h:=qu hb h
    refine kr [] ?_
    cases h
    exact kf
   replace h:=qv hb h
   refine kr [] ?_
   cases h
   exact kf
  replace h:=qu hb h
  refine kr [] ?_
  cases h
  exact kf
 replace h:=qv hb h
 refine kr [] ?_
 refine qq (fun hb=> ?_) (fun hb=> ?_)
 ·replace h:=qu hb h
  refine kr [] ?_
  refine qw (fun hb=> ?_) (fun hb=> ?_)
  ·replace h:=qv hb h
   refine kr [] ?_
   cases h
   exact kf
  replace h:=qu hb h
  refine kr [] ?_
  cases h
  exact kf
 replace h:=qv hb h
 refine kr [] ?_
 cases h
 exact kf
def qfz (a0:Int):Option Bool:=
 if (decide ((48:Int)≤a0))=true then
  some (decide (a0≤(57:Int)))
 else
  some false
@[reducible] def qw6 (a0:Int) (r:Bool):Prop:=
  Fn Tryz.prog G 90 [(.int .u8 a0)] (.bool r)
theorem qxd:PC1 qw6 qfz:=fun a0 r h=>by
 rw [qfz.eq_def] at h
 refine zg (T:=tt) (N:=9) (rs:= [.tmp 2]) (fun vs w=>by simp) Tryz.func90 rfl rfl rfl rfl (by kernel_rfl) (z7 rfl) (ze _ rfl) ?_
 refine kr [] ?_
 refine qq (fun hb=> ?_) (fun hb=> ?_)
 ·replace h:=qu hb h
  refine kr [] ?_
  cases h
  exact kf
 replace h:=qv hb h
 refine kr [] ?_
 cases h
 exact kf
mutual
def Ja (t0:BA) (t3:Int):Option Bool:=
 if (decide (t3 < (t0.size:Int)))=true then
  sx t0 t3 >>=fun x1=>
  qd0 (qa x1) >>=fun x2=>
  if (!x2)=true then
   sx t0 t3 >>=fun x3=>
   qfz (qa x3) >>=fun x4=>
   if (!x4)=true then
    sx t0 t3 >>=fun x5=>
    if (!decide (x5=(45:Int)))=true then
     sx t0 t3 >>=fun x6=>
     if (!decide (x6=(46:Int)))=true then
      some false
     else
      Q6 (qa t0) (qa t3)
    else
     Q6 (qa t0) (qa t3)
   else
    Q6 (qa t0) (qa t3)
  else
   Q6 (qa t0) (qa t3)
 else
  some true
 partial_fixpoint
def Q6 (t0:BA) (t3:Int):Option Bool:=
 Ja (qa t0) (IntKind.i64.wrap (t3+(1:Int)))
 partial_fixpoint
end
@[reducible] def qfo (t0:BA) (t3:Int) (r:Bool):Prop:=
  Ok Tryz.prog G tt 44 0 (Ret Tryz.prog [.tmp 2] (fun y H=>Told Tryz.prog G H y (.bool r))) (.again (je [43] Tryz.f57 0).1 (je [43] Tryz.f57 0).2 (.n (.str t0) (.n .undef (.n (.int .i64 t3) .z .z) .z) .z) 0 [])
@[reducible] def qeb (t0:BA) (t3:Int) (r:Bool):Prop:=
  Ok Tryz.prog G tt 44 0 (Ret Tryz.prog [.tmp 2] (fun y H=>Told Tryz.prog G H y (.bool r))) (.go [] (vf [43] Tryz.f57 43) [] (.n (.str t0) (.n .undef (.n (.int .i64 t3) .z .z) .z) .z) 0 [])
theorem qh6:PC2 qfo Ja∧PC2 qeb Q6:=by
 refine Ja.mutual_partial_correctness qfo qeb (fun Q6 Ku t0 t3 r h=> ?_) (fun Ja qfv t0 t3 r h=> ?_)
 ·unfold qa at h
  refine jm ?_
  refine kr [43] ?_
  refine qd (fun hb=> ?_) (fun hb=> ?_)
  ·replace h:=qu hb h
   refine kr [43] ?_
   obtain ⟨x1,hx,h⟩:=bind_some h
   refine Zz env hx rfl rfl rfl rfl ?_
   refine kr [43] ?_
   obtain ⟨x2,hx,h⟩:=bind_some h
   refine qk (qt5 _ _ hx) ?_
   refine kr [43] ?_
   refine qq (fun hb=> ?_) (fun hb=> ?_)
   ·replace h:=qu hb h
    refine kr [43] ?_
    obtain ⟨x3,hx,h⟩:=bind_some h
    refine Zz env hx rfl rfl rfl rfl ?_
    refine kr [43] ?_
    obtain ⟨x4,hx,h⟩:=bind_some h
    refine qk (qxd _ _ hx) ?_
    refine kr [43] ?_
    refine qq (fun hb=> ?_) (fun hb=> ?_)
    ·replace h:=qu hb h
     refine kr [43] ?_
     obtain ⟨x5,hx,h⟩:=bind_some h
     refine Zz env hx rfl rfl rfl rfl ?_
     refine kr [43] ?_
     refine qq (fun hb=> ?_) (fun hb=> ?_)
     ·replace h:=qu hb h
      refine kr [43] ?_
      obtain ⟨x6,hx,h⟩:=bind_some h
      refine Zz env hx rfl rfl rfl rfl ?_
      refine kr [43] ?_
      refine qd (fun hb=> ?_) (fun hb=> ?_)
      ·replace h:=qu hb h
       refine kr [43] ?_
       cases h
       exact kf
      replace h:=qv hb h
      refine kr [43] ?_
      exact q6 (by kernel_rfl) rfl lA (Ku _ _ _ h)
     replace h:=qv hb h
     refine kr [43] ?_
     exact q6 (by kernel_rfl) rfl lA (Ku _ _ _ h)
    replace h:=qv hb h
    refine kr [43] ?_
    exact q6 (by kernel_rfl) rfl lA (Ku _ _ _ h)
   replace h:=qv hb h
   refine kr [43] ?_
   exact q6 (by kernel_rfl) rfl lA (Ku _ _ _ h)
  replace h:=qv hb h
  refine kr [43] ?_
  cases h
  exact kf
 unfold qa at h
 refine kr [43] ?_
 exact zx (by kernel_rfl) lA (qfv _ _ _ h)
theorem qfv:PC2 qfo Ja:=qh6.1
theorem Ku:PC2 qeb Q6:=qh6.2
def qe5 (a0:BA):Option Bool:=
 if (decide (a0=(⟨#[]⟩:BA)))=true then
  some false
 else
  if (decide (a0=(⟨#[46]⟩:BA)))=true then
   some false
  else
   if (decide (a0=(⟨#[46,46]⟩:BA)))=true then
    some false
   else
    Ja a0 (0:Int)
@[reducible] def qz0 (a0:BA) (r:Bool):Prop:=
  Fn Tryz.prog G 57 [(.str a0)] (.bool r)
theorem qpq:PC1 qz0 qe5:=fun a0 r h=>by
 rw [qe5.eq_def] at h
 refine zg (T:=tt) (N:=44) (rs:= [.tmp 2]) (fun vs w=>by simp) Tryz.func57 rfl rfl rfl rfl (by kernel_rfl) (z7 rfl) (ze _ rfl) ?_
 refine kr [43] ?_
 refine qw (fun hb=> ?_) (fun hb=> ?_)
 ·replace h:=qv hb h
  refine kr [43] ?_
  refine qw (fun hb=> ?_) (fun hb=> ?_)
  ·replace h:=qv hb h
   refine kr [43] ?_
   refine qd (fun hb=> ?_) (fun hb=> ?_)
   ·replace h:=qu hb h
    refine kr [43] ?_
    cases h
    exact kf
   replace h:=qv hb h
   refine kr [43] ?_
   exact jb (by kernel_rfl) lA (qfv _ _ _ h)
  replace h:=qu hb h
  refine kr [43] ?_
  cases h
  exact kf
 replace h:=qu hb h
 refine kr [43] ?_
 cases h
 exact kf
mutual
def Jb (t0:BA) (t3:Int) (t4:Int):Option Bool:=
 if (decide (t4 < (t0.size:Int)))=true then
  sx t0 t4 >>=fun x1=>
  if (decide (x1=(47:Int)))=true then
   ssub t0 t3 t4 >>=fun x2=>
   qe5 (qa x2) >>=fun x3=>
   if (!x3)=true then
    some false
   else
    Yo (qa t0) (IntKind.i64.wrap (t4+(1:Int))) (qa t4)
  else
   Yo (qa t0) (qa t3) (qa t4)
 else
  ssub t0 t3 (t0.size:Int) >>=fun x4=>
  qe5 (qa x4) >>=fun x5=>
  some x5
 partial_fixpoint
def Yo (t0:BA) (t3:Int) (t4:Int):Option Bool:=
 Jb (qa t0) (qa t3) (IntKind.i64.wrap (t4+(1:Int)))
 partial_fixpoint
end
@[reducible] def qfp (t0:BA) (t3:Int) (t4:Int) (r:Bool):Prop:=
  Ok Tryz.prog G tt 35 0 (Ret Tryz.prog [.tmp 2] (fun y H=>Told Tryz.prog G H y (.bool r))) (.again (je [22] Tryz.f32 0).1 (je [22] Tryz.f32 0).2 (.n (.str t0) (.n .undef (.n (.int .i64 t3) .z .z) .z) (.n .undef (.n (.int .i64 t4) .z .z) .z)) 0 [])
@[reducible] def qec (t0:BA) (t3:Int) (t4:Int) (r:Bool):Prop:=
  Ok Tryz.prog G tt 35 0 (Ret Tryz.prog [.tmp 2] (fun y H=>Told Tryz.prog G H y (.bool r))) (.go [] (vf [22] Tryz.f32 22) [] (.n (.str t0) (.n .undef (.n (.int .i64 t3) .z .z) .z) (.n .undef (.n (.int .i64 t4) .z .z) .z)) 0 [])
theorem qh7:PC3 qfp Jb∧PC3 qec Yo:=by
 refine Jb.mutual_partial_correctness qfp qec (fun Yo qeg t0 t3 t4 r h=> ?_) (fun Jb qfw t0 t3 t4 r h=> ?_)
 ·unfold qa at h
  refine jm ?_
  refine kr [22] ?_
  refine qd (fun hb=> ?_) (fun hb=> ?_)
  ·replace h:=qu hb h
   refine kr [22] ?_
   obtain ⟨x1,hx,h⟩:=bind_some h
   refine Zz env hx rfl rfl rfl rfl ?_
   refine kr [22] ?_
   refine qd (fun hb=> ?_) (fun hb=> ?_)
   ·replace h:=qu hb h
    refine kr [22] ?_
    obtain ⟨x2,hx,h⟩:=bind_some h
    refine Yw env hx rfl rfl rfl rfl rfl ?_
    refine kr [22] ?_
    obtain ⟨x3,hx,h⟩:=bind_some h
    refine qk (qpq _ _ hx) ?_
    refine kr [22] ?_
    refine qd (fun hb=> ?_) (fun hb=> ?_)
    ·replace h:=qu hb h
     refine kr [22] ?_
     cases h
     exact kf
    replace h:=qv hb h
    refine kr [22] ?_
    exact q6 (by kernel_rfl) rfl lA (qeg _ _ _ _ h)
   replace h:=qv hb h
   refine kr [22] ?_
   exact q6 (by kernel_rfl) rfl lA (qeg _ _ _ _ h)
  replace h:=qv hb h
  refine kr [22] ?_
  obtain ⟨x4,hx,h⟩:=bind_some h
  refine Yw env hx rfl rfl rfl rfl rfl ?_
  refine kr [22] ?_
  obtain ⟨x5,hx,h⟩:=bind_some h
  refine qk (qpq _ _ hx) ?_
  refine kr [22] ?_
  cases h
  exact kf
 unfold qa at h
 refine kr [22] ?_
 exact zx (by kernel_rfl) lA (qfw _ _ _ _ h)
theorem qfw:PC3 qfp Jb:=qh7.1
theorem qeg:PC3 qec Yo:=qh7.2
def qh3 (a0:BA):Option Bool:=
 if (decide ((a0.size:Int) < (1:Int)))=true then
  some false
 else
  if (decide ((64:Int) < (a0.size:Int)))=true then
   some false
  else
   Jb a0 (0:Int) (0:Int)
@[reducible] def qz1 (a0:BA) (r:Bool):Prop:=
  Fn Tryz.prog G 32 [(.str a0)] (.bool r)
theorem qz6:PC1 qz1 qh3:=fun a0 r h=>by
 rw [qh3.eq_def] at h
 refine zg (T:=tt) (N:=35) (rs:= [.tmp 2]) (fun vs w=>by simp) Tryz.func32 rfl rfl rfl rfl (by kernel_rfl) (z7 rfl) (ze _ rfl) ?_
 refine kr [22] ?_
 refine qw (fun hb=> ?_) (fun hb=> ?_)
 ·replace h:=qv hb h
  refine kr [22] ?_
  refine qd (fun hb=> ?_) (fun hb=> ?_)
  ·replace h:=qu hb h
   refine kr [22] ?_
   cases h
   exact kf
  replace h:=qv hb h
  refine kr [22] ?_
  exact jb (by kernel_rfl) lA (qfw _ _ _ _ h)
 replace h:=qu hb h
 refine kr [22] ?_
 cases h
 exact kf
def u6 (t0:(List File)) (t5:Int):Option Int:=
 if (decide (t5 < ((t0.map File.cells).length:Int)))=true then
  ix t0 t5 >>=fun x5=>
  if (decide ((65536:Int) < (x5.Text.size:Int)))=true then
   some (3:Int)
  else
   u6 (qa t0) (IntKind.i64.wrap (t5+(1:Int)))
 else
  some (0:Int)
 partial_fixpoint
@[reducible] def qhp (t0:(List File)) (t5:Int) (r:Int):Prop:=
  Ok Tryz.prog G tt 53 0 (Ret Tryz.prog [.tmp 2] (fun y H=>Told Tryz.prog G H y (.int .i64 r))) (.again (je [] Tryz.f13 2).1 (je [] Tryz.f13 2).2 (.n (.sl 2 false (t0.map File.cells)) (.n .undef .z (.n (.int .i64 t5) .z .z)) .z) 0 [])
theorem qc7:PC2 qhp u6:=by
 refine u6.partial_correctness qhp (fun u6 qc7 t0 t5 r h=> ?_)
 unfold qa at h
 refine jm ?_
 refine kr [] ?_
 refine qd (fun hb=> ?_) (fun hb=> ?_)
 ·replace h:=qu hb h
  refine kr [] ?_
  obtain ⟨x5,hx,h⟩:=bind_some h
  refine ja env hx rfl rfl rfl rfl rfl ?_
  refine kr [] ?_
  refine qd (fun hb=> ?_) (fun hb=> ?_)
  ·replace h:=qu hb h
   refine kr [] ?_
   cases h
   exact kf
  replace h:=qv hb h
  refine kr [] ?_
  exact zx (by kernel_rfl) lA (qc7 _ _ _ h)
 replace h:=qv hb h
 refine kr [] ?_
 cases h
 exact kf
def ui (t0:(List File)) (t4:Int):Option Int:=
 if (decide (t4 < ((t0.map File.cells).length:Int)))=true then
  ix t0 (IntKind.i64.wrap (t4 - (1:Int))) >>=fun x3=>
  ix t0 t4 >>=fun x4=>
  if (!Op.bytesLess x3.Path.toList x4.Path.toList)=true then
   some (14:Int)
  else
   ui (qa t0) (IntKind.i64.wrap (t4+(1:Int)))
 else
  u6 (qa t0) (0:Int)
 partial_fixpoint
@[reducible] def qhq (t0:(List File)) (t4:Int) (r:Int):Prop:=
  Ok Tryz.prog G tt 53 0 (Ret Tryz.prog [.tmp 2] (fun y H=>Told Tryz.prog G H y (.int .i64 r))) (.again (je [] Tryz.f13 1).1 (je [] Tryz.f13 1).2 (.n (.sl 2 false (t0.map File.cells)) .z (.n .undef (.n (.int .i64 t4) .z .z) .z)) 0 [])
theorem qc8:PC2 qhq ui:=by
 refine ui.partial_correctness qhq (fun ui qc8 t0 t4 r h=> ?_)
 unfold qa at h
 refine jm ?_
 refine kr [] ?_
 refine qd (fun hb=> ?_) (fun hb=> ?_)
 ·replace h:=qu hb h
  refine kr [] ?_
  obtain ⟨x3,hx,h⟩:=bind_some h
  refine ja env hx rfl rfl rfl rfl rfl ?_
  refine kr [] ?_
  obtain ⟨x4,hx,h⟩:=bind_some h
  refine ja env hx rfl rfl rfl rfl rfl ?_
  refine kr [] ?_
  refine qd (fun hb=> ?_) (fun hb=> ?_)
  ·replace h:=qu hb h
   refine kr [] ?_
   cases h
   exact kf
  replace h:=qv hb h
  refine kr [] ?_
  exact zx (by kernel_rfl) lA (qc8 _ _ _ h)
 replace h:=qv hb h
 refine kr [] ?_
 exact jb (by kernel_rfl) lA (qc7 _ _ _ h)
def Zc (t0:(List File)) (t3:Int):Option Int:=
 if (decide (t3 < ((t0.map File.cells).length:Int)))=true then
  ix t0 t3 >>=fun x1=>
  qh3 x1.Path >>=fun x2=>
  if (!x2)=true then
   some (4:Int)
  else
   Zc (qa t0) (IntKind.i64.wrap (t3+(1:Int)))
 else
  ui (qa t0) (1:Int)
 partial_fixpoint
@[reducible] def qhr (t0:(List File)) (t3:Int) (r:Int):Prop:=
  Ok Tryz.prog G tt 53 0 (Ret Tryz.prog [.tmp 2] (fun y H=>Told Tryz.prog G H y (.int .i64 r))) (.again (je [] Tryz.f13 0).1 (je [] Tryz.f13 0).2 (.n (.sl 2 false (t0.map File.cells)) (.n .undef (.n (.int .i64 t3) .z .z) .z) .z) 0 [])
theorem qc9:PC2 qhr Zc:=by
 refine Zc.partial_correctness qhr (fun Zc qc9 t0 t3 r h=> ?_)
 unfold qa at h
 refine jm ?_
 refine kr [] ?_
 refine qd (fun hb=> ?_) (fun hb=> ?_)
 ·replace h:=qu hb h
  refine kr [] ?_
  obtain ⟨x1,hx,h⟩:=bind_some h
  refine ja env hx rfl rfl rfl rfl rfl ?_
  refine kr [] ?_
  obtain ⟨x2,hx,h⟩:=bind_some h
  refine qk (qz6 _ _ hx) ?_
  refine kr [] ?_
  refine qd (fun hb=> ?_) (fun hb=> ?_)
  ·replace h:=qu hb h
   refine kr [] ?_
   cases h
   exact kf
  replace h:=qv hb h
  refine kr [] ?_
  exact zx (by kernel_rfl) lA (qc9 _ _ _ h)
 replace h:=qv hb h
 refine kr [] ?_
 exact jb (by kernel_rfl) lA (qc8 _ _ _ h)
def qbj (a0:(List File)):Option Int:=
 if (decide ((32:Int) < ((a0.map File.cells).length:Int)))=true then
  some (3:Int)
 else
  Zc a0 (0:Int)
@[reducible] def qtw (a0:(List File)) (r:Int):Prop:=
  Fn Tryz.prog G 13 [(.sl 2 false (a0.map File.cells))] (.int .i64 r)
theorem qlr:PC1 qtw qbj:=fun a0 r h=>by
 rw [qbj.eq_def] at h
 refine zg (T:=tt) (N:=53) (rs:= [.tmp 2]) (fun vs w=>by simp) Tryz.func13 rfl rfl rfl rfl (by kernel_rfl) (z7 rfl) (ze _ rfl) ?_
 refine kr [] ?_
 refine qd (fun hb=> ?_) (fun hb=> ?_)
 ·replace h:=qu hb h
  refine kr [] ?_
  cases h
  exact kf
 replace h:=qv hb h
 refine kr [] ?_
 exact jb (by kernel_rfl) lA (qc9 _ _ _ h)
def Jq (a0:Int):Option Bool:=
 if (decide ((48:Int)≤a0))=true then
  some (decide (a0≤(57:Int)))
 else
  some false
@[reducible] def qw5 (a0:Int) (r:Bool):Prop:=
  Fn Tryz.prog G 166 [(.int .u8 a0)] (.bool r)
theorem qaa:PC1 qw5 Jq:=fun a0 r h=>by
 rw [Jq.eq_def] at h
 refine zg (T:=tt) (N:=9) (rs:= [.tmp 2]) (fun vs w=>by simp) Tryz.func166 rfl rfl rfl rfl (by kernel_rfl) (z7 rfl) (ze _ rfl) ?_
 refine kr [] ?_
 refine qq (fun hb=> ?_) (fun hb=> ?_)
 ·replace h:=qu hb h
  refine kr [] ?_
  cases h
  exact kf
 replace h:=qv hb h
 refine kr [] ?_
 cases h
 exact kf
def Ww (a0:Int):Option Bool:=
 if (decide ((97:Int)≤a0))=true then
  if (decide (a0≤(122:Int)))=true then
   some true
  else
   if (decide ((65:Int)≤a0))=true then
    if (decide (a0≤(90:Int)))=true then
     some true
    else
     Jq a0 >>=fun x1=>
     if x1=true then
      some true
     else
      some (decide (a0=(95:Int)))
   else
    Jq a0 >>=fun x2=>
    if x2=true then
     some true
    else
     some (decide (a0=(95:Int)))
 else
  if (decide ((65:Int)≤a0))=true then
   if (decide (a0≤(90:Int)))=true then
    some true
   else
    Jq a0 >>=fun x3=>
    if x3=true then
     some true
    else
     some (decide (a0=(95:Int)))
  else
   Jq a0 >>=fun x4=>
   if x4=true then
    some true
   else
    some (decide (a0=(95:Int)))
@[reducible] def qtu (a0:Int) (r:Bool):Prop:=
  Fn Tryz.prog G 163 [(.int .u8 a0)] (.bool r)
theorem qlq:PC1 qtu Ww:=fun a0 r h=>by
 rw [Ww.eq_def] at h
 refine zg (T:=tt) (N:=25) (rs:= [.tmp 2]) (fun vs w=>by simp) Tryz.func163 rfl rfl rfl rfl (by kernel_rfl) (z7 rfl) (ze _ rfl) ?_
 refine kr [] ?_
 refine qq (fun hb=> ?_) (fun hb=> ?_)
 ·replace h:=qu hb h
  refine kr [] ?_
  refine qw (fun hb=> ?_) (fun hb=> ?_)
  ·replace h:=qv hb h
   refine kr [] ?_
   refine qq (fun hb=> ?_) (fun hb=> ?_)
   ·replace h:=qu hb h
    refine kr [] ?_
    refine qw (fun hb=> ?_) (fun hb=> ?_)
    ·replace h:=qv hb h
     refine kr [] ?_
     obtain ⟨x1,hx,h⟩:=bind_some h
     refine qk (qaa _ _ hx) ?_
     refine kr [] ?_
     refine qw (fun hb=> ?_) (fun hb=> ?_)
     ·replace h:=qv hb h
      refine kr [] ?_
      cases h
      exact kf
     replace h:=qu hb h
     refine kr [] ?_
     cases h
     exact kf
    replace h:=qu hb h
    refine kr [] ?_
    cases h
    exact kf
   replace h:=qv hb h
   refine kr [] ?_
   obtain ⟨x2,hx,h⟩:=bind_some h
   refine qk (qaa _ _ hx) ?_
   refine kr [] ?_
   refine qw (fun hb=> ?_) (fun hb=> ?_)
   ·replace h:=qv hb h
    refine kr [] ?_
    cases h
    exact kf
   replace h:=qu hb h
   refine kr [] ?_
   cases h
   exact kf
  replace h:=qu hb h
  refine kr [] ?_
  cases h
  exact kf
 replace h:=qv hb h
 refine kr [] ?_
 refine qq (fun hb=> ?_) (fun hb=> ?_)
 ·replace h:=qu hb h
  refine kr [] ?_
  refine qw (fun hb=> ?_) (fun hb=> ?_)
  ·replace h:=qv hb h
   refine kr [] ?_
   obtain ⟨x3,hx,h⟩:=bind_some h
   refine qk (qaa _ _ hx) ?_
   refine kr [] ?_
   refine qw (fun hb=> ?_) (fun hb=> ?_)
   ·replace h:=qv hb h
    refine kr [] ?_
    cases h
    exact kf
   replace h:=qu hb h
   refine kr [] ?_
   cases h
   exact kf
  replace h:=qu hb h
  refine kr [] ?_
  cases h
  exact kf
 replace h:=qv hb h
 refine kr [] ?_
 obtain ⟨x4,hx,h⟩:=bind_some h
 refine qk (qaa _ _ hx) ?_
 refine kr [] ?_
 refine qw (fun hb=> ?_) (fun hb=> ?_)
 ·replace h:=qv hb h
  refine kr [] ?_
  cases h
  exact kf
 replace h:=qu hb h
 refine kr [] ?_
 cases h
 exact kf
def Y6 (t5:Int):Option Int:=
 some t5
@[reducible] def qts (t5:Int) (r:Int):Prop:=
  Ok Tryz.prog G tt 20 0 (Ret Tryz.prog [.tmp 4] (fun y H=>Told Tryz.prog G H y (.int .i64 r))) (.go [] (qb0 [1000000] Tryz.f165 0) [] (.n .undef (.n .undef .z (.n (.int .i64 t5) .z .z)) .z) 0 [])
theorem qlp:PC1 qts Y6:=fun t5 r h=>by
 rw [Y6.eq_def] at h
 refine kr [1000000] ?_
 cases h
 exact kf
def Yg (t0:BA) (t5:Int):Option Int:=
 if (decide (t5 < (t0.size:Int)))=true then
  sx t0 t5 >>=fun x1=>
  Ww (qa x1) >>=fun x2=>
  if x2=true then
   Yg (qa t0) (IntKind.i64.wrap (t5+(1:Int)))
  else
   Y6 (qa t5)
 else
  Y6 (qa t5)
 partial_fixpoint
@[reducible] def qlm (t0:BA) (t5:Int) (r:Int):Prop:=
  Ok Tryz.prog G tt 20 0 (Ret Tryz.prog [.tmp 4] (fun y H=>Told Tryz.prog G H y (.int .i64 r))) (.again (je [1000000] Tryz.f165 0).1 (je [1000000] Tryz.f165 0).2 (.n (.str t0) (.n .undef .z (.n (.int .i64 t5) .z .z)) .z) 0 [])
theorem qgx:PC2 qlm Yg:=by
 refine Yg.partial_correctness qlm (fun Yg qgx t0 t5 r h=> ?_)
 unfold qa at h
 refine jm ?_
 refine kr [1000000] ?_
 refine qq (fun hb=> ?_) (fun hb=> ?_)
 ·replace h:=qu hb h
  refine kr [1000000] ?_
  obtain ⟨x1,hx,h⟩:=bind_some h
  refine Zz env hx rfl rfl rfl rfl ?_
  refine kr [1000000] ?_
  obtain ⟨x2,hx,h⟩:=bind_some h
  refine qk (qlq _ _ hx) ?_
  refine kr [1000000] ?_
  refine qd (fun hb=> ?_) (fun hb=> ?_)
  ·replace h:=qu hb h
   refine kr [1000000] ?_
   exact zx (by kernel_rfl) lA (qgx _ _ _ h)
  replace h:=qv hb h
  refine kr [1000000] ?_
  exact q6 (by kernel_rfl) rfl lA (qlp _ _ h)
 replace h:=qv hb h
 refine kr [1000000] ?_
 exact q6 (by kernel_rfl) rfl lA (qlp _ _ h)
def qog (a0:BA) (a1:Int):Option Int:=
 Yg a0 a1
@[reducible] def q1o (a0:BA) (a1:Int) (r:Int):Prop:=
  Fn Tryz.prog G 165 [(.str a0),(.int .i64 a1)] (.int .i64 r)
theorem q1p:PC2 q1o qog:=fun a0 a1 r h=>by
 rw [qog.eq_def] at h
 refine zg (T:=tt) (N:=20) (rs:= [.tmp 4]) (fun vs w=>by simp) Tryz.func165 rfl rfl rfl rfl (by kernel_rfl) (z7 rfl) (ze _ rfl) ?_
 refine kr [1000000] ?_
 exact jb (by kernel_rfl) lA (qgx _ _ _ h)
def uk (t0:BA) (t3:Int) (t4:Int):Option Bool:=
 if (decide (t4 < (t0.size:Int)))=true then
  sx t0 t4 >>=fun x2=>
  Jq (qa x2) >>=fun x3=>
  if (!x3)=true then
   some false
  else
   sx t0 t4 >>=fun x4=>
   uk (qa t0) (IntKind.i64.wrap ((IntKind.i64.wrap ((IntKind.i64.wrap (t3*(10:Int)))+(IntKind.i64.wrap x4))) - (48:Int))) (IntKind.i64.wrap (t4+(1:Int)))
 else
  some (decide (t3≤(1000000000000:Int)))
 partial_fixpoint
@[reducible] def qge (t0:BA) (t3:Int) (t4:Int) (r:Bool):Prop:=
  Ok Tryz.prog G tt 44 0 (Ret Tryz.prog [.tmp 2] (fun y H=>Told Tryz.prog G H y (.bool r))) (.again (je [] Tryz.f167 0).1 (je [] Tryz.f167 0).2 (.n (.str t0) (.n .undef (.n (.int .i64 t3) .z .z) .z) (.n .undef (.n (.int .i64 t4) .z .z) .z)) 0 [])
theorem Wb:PC3 qge uk:=by
 refine uk.partial_correctness qge (fun uk Wb t0 t3 t4 r h=> ?_)
 unfold qa at h
 refine jm ?_
 refine kr [] ?_
 refine qd (fun hb=> ?_) (fun hb=> ?_)
 ·replace h:=qu hb h
  refine kr [] ?_
  obtain ⟨x2,hx,h⟩:=bind_some h
  refine Zz env hx rfl rfl rfl rfl ?_
  refine kr [] ?_
  obtain ⟨x3,hx,h⟩:=bind_some h
  refine qk (qaa _ _ hx) ?_
  refine kr [] ?_
  refine qd (fun hb=> ?_) (fun hb=> ?_)
  ·replace h:=qu hb h
   refine kr [] ?_
   cases h
   exact kf
  replace h:=qv hb h
  refine kr [] ?_
  obtain ⟨x4,hx,h⟩:=bind_some h
  refine Zz env hx rfl rfl rfl rfl ?_
  refine kr [] ?_
  exact zx (by kernel_rfl) lA (Wb _ _ _ _ h)
 replace h:=qv hb h
 refine kr [] ?_
 cases h
 exact kf
def qch (a0:BA):Option Bool:=
 if (decide ((a0.size:Int)=(0:Int)))=true then
  some false
 else
  if (decide ((13:Int) < (a0.size:Int)))=true then
   some false
  else
   if (decide ((1:Int) < (a0.size:Int)))=true then
    sx a0 (0:Int) >>=fun x1=>
    if (decide (x1=(48:Int)))=true then
     some false
    else
     uk a0 (0:Int) (0:Int)
   else
    uk a0 (0:Int) (0:Int)
@[reducible] def qs3 (a0:BA) (r:Bool):Prop:=
  Fn Tryz.prog G 167 [(.str a0)] (.bool r)
theorem qs9:PC1 qs3 qch:=fun a0 r h=>by
 rw [qch.eq_def] at h
 refine zg (T:=tt) (N:=44) (rs:= [.tmp 2]) (fun vs w=>by simp) Tryz.func167 rfl rfl rfl rfl (by kernel_rfl) (z7 rfl) (ze _ rfl) ?_
 refine kr [] ?_
 refine qw (fun hb=> ?_) (fun hb=> ?_)
 ·replace h:=qv hb h
  refine kr [] ?_
  refine qw (fun hb=> ?_) (fun hb=> ?_)
  ·replace h:=qv hb h
   refine kr [] ?_
   refine qq (fun hb=> ?_) (fun hb=> ?_)
   ·replace h:=qu hb h
    refine kr [] ?_
    obtain ⟨x1,hx,h⟩:=bind_some h
    refine Zz env hx rfl rfl rfl rfl ?_
    refine kr [] ?_
    refine qd (fun hb=> ?_) (fun hb=> ?_)
    ·replace h:=qu hb h
     refine kr [] ?_
     cases h
     exact kf
    replace h:=qv hb h
    refine kr [] ?_
    exact jb (by kernel_rfl) lA (Wb _ _ _ _ h)
   replace h:=qv hb h
   refine kr [] ?_
   exact jb (by kernel_rfl) lA (Wb _ _ _ _ h)
  replace h:=qu hb h
  refine kr [] ?_
  cases h
  exact kf
 replace h:=qu hb h
 refine kr [] ?_
 cases h
 exact kf
def Z9 (t0:Int) (t3:BA) (t4:Int):Option Bool:=
 if (decide (t4 < (t3.size:Int)))=true then
  sx t3 t4 >>=fun x1=>
  if (decide (x1=t0))=true then
   some true
  else
   Z9 (qa t0) (qa t3) (IntKind.i64.wrap (t4+(1:Int)))
 else
  some false
 partial_fixpoint
@[reducible] def qki (t0:Int) (t3:BA) (t4:Int) (r:Bool):Prop:=
  Ok Tryz.prog G tt 16 0 (Ret Tryz.prog [.tmp 2] (fun y H=>Told Tryz.prog G H y (.bool r))) (.again (je [] Tryz.f168 0).1 (je [] Tryz.f168 0).2 (.n (.int .u8 t0) (.n .undef (.n (.str t3) .z .z) .z) (.n .undef (.n (.int .i64 t4) .z .z) .z)) 0 [])
theorem qfu:PC3 qki Z9:=by
 refine Z9.partial_correctness qki (fun Z9 qfu t0 t3 t4 r h=> ?_)
 unfold qa at h
 refine jm ?_
 refine kr [] ?_
 refine qd (fun hb=> ?_) (fun hb=> ?_)
 ·replace h:=qu hb h
  refine kr [] ?_
  obtain ⟨x1,hx,h⟩:=bind_some h
  refine Zz env hx rfl rfl rfl rfl ?_
  refine kr [] ?_
  refine qd (fun hb=> ?_) (fun hb=> ?_)
  ·replace h:=qu hb h
   refine kr [] ?_
   cases h
   exact kf
  replace h:=qv hb h
  refine kr [] ?_
  exact zx (by kernel_rfl) lA (qfu _ _ _ _ h)
 replace h:=qv hb h
 refine kr [] ?_
 cases h
 exact kf
def qh1 (a0:Int):Option Bool:=
 Z9 a0 (⟨#[40,41,123,125,44,59,58,46,61,60,43,45,42,47,33,38,124]⟩:BA) (0:Int)
@[reducible] def qzz (a0:Int) (r:Bool):Prop:=
  Fn Tryz.prog G 168 [(.int .u8 a0)] (.bool r)
theorem qz5:PC1 qzz qh1:=fun a0 r h=>by
 rw [qh1.eq_def] at h
 refine zg (T:=tt) (N:=16) (rs:= [.tmp 2]) (fun vs w=>by simp) Tryz.func168 rfl rfl rfl rfl (by kernel_rfl) (z7 rfl) (ze _ rfl) ?_
 refine kr [] ?_
 exact jb (by kernel_rfl) lA (qfu _ _ _ _ h)
def uj (t1:Int):Option (Int × Int):=
 some ((IntKind.i64.wrap (t1+(1:Int))),(3:Int))
@[reducible] def qp6 (t1:Int) (r:Int × Int):Prop:=
  Ok Tryz.prog G tt 84 0 (Ret Tryz.prog [.tmp 4, .tmp 5] (fun y H=>Told Tryz.prog G H y (.tup [(.int .i64 r.1),(.int .i64 r.2)]))) (.go [] (vf [79] Tryz.f134 79) [] (.n .undef (.n (.int .i64 t1) .z .z) .z) 0 [])
theorem vc:PC1 qp6 uj:=fun t1 r h=>by
 rw [uj.eq_def] at h
 refine kr [79] ?_
 cases h
 exact kf
def qe4 (a0:BA) (a1:Int):Option (Int × Int):=
 if (decide ((a0.size:Int)≤a1))=true then
  some (a1,(0:Int))
 else
  sx a0 a1 >>=fun x1=>
  Ww x1 >>=fun x2=>
  if x2=true then
   qog a0 a1 >>=fun x3=>
   sx a0 a1 >>=fun x4=>
   Jq x4 >>=fun x5=>
   if x5=true then
    ssub a0 a1 x3 >>=fun x6=>
    qch x6 >>=fun x7=>
    if x7=true then
     some (x3,(2:Int))
    else
     some (a1,(0:Int))
   else
    if (decide ((IntKind.i64.wrap (x3 - a1))≤(32:Int)))=true then
     some (x3,(1:Int))
    else
     some (a1,(0:Int))
  else
   sx a0 a1 >>=fun x8=>
   qh1 x8 >>=fun x9=>
   if (!x9)=true then
    some (a1,(0:Int))
   else
    sx a0 a1 >>=fun x10=>
    if (decide (x10=(47:Int)))=true then
     if (decide ((IntKind.i64.wrap (a1+(1:Int))) < (a0.size:Int)))=true then
      sx a0 (IntKind.i64.wrap (a1+(1:Int))) >>=fun x11=>
      if (decide (x11=(47:Int)))=true then
       some (a1,(0:Int))
      else
       sx a0 a1 >>=fun x12=>
       if (decide (x12=(61:Int)))=true then
        if (decide ((IntKind.i64.wrap (a1+(1:Int))) < (a0.size:Int)))=true then
         sx a0 (IntKind.i64.wrap (a1+(1:Int))) >>=fun x13=>
         if (decide (x13=(61:Int)))=true then
          some ((IntKind.i64.wrap (a1+(2:Int))),(3:Int))
         else
          uj a1
        else
         uj a1
       else
        uj a1
     else
      sx a0 a1 >>=fun x14=>
      if (decide (x14=(61:Int)))=true then
       if (decide ((IntKind.i64.wrap (a1+(1:Int))) < (a0.size:Int)))=true then
        sx a0 (IntKind.i64.wrap (a1+(1:Int))) >>=fun x15=>
        if (decide (x15=(61:Int)))=true then
         some ((IntKind.i64.wrap (a1+(2:Int))),(3:Int))
        else
         uj a1
       else
        uj a1
      else
       uj a1
    else
     sx a0 a1 >>=fun x16=>
     if (decide (x16=(61:Int)))=true then
      if (decide ((IntKind.i64.wrap (a1+(1:Int))) < (a0.size:Int)))=true then
       sx a0 (IntKind.i64.wrap (a1+(1:Int))) >>=fun x17=>
       if (decide (x17=(61:Int)))=true then
        some ((IntKind.i64.wrap (a1+(2:Int))),(3:Int))
       else
        uj a1
      else
       uj a1
     else
      uj a1
@[reducible] def qzy (a0:BA) (a1:Int) (r:Int × Int):Prop:=
  Fn Tryz.prog G 134 [(.str a0),(.int .i64 a1)] (.tup [(.int .i64 r.1),(.int .i64 r.2)])
theorem qz4:PC2 qzy qe4:=fun a0 a1 r h=>by
 rw [qe4.eq_def] at h
 refine zg (T:=tt) (N:=84) (rs:= [.tmp 4, .tmp 5]) (fun vs w=>by simp) Tryz.func134 rfl rfl rfl rfl (by kernel_rfl) (z7 rfl) (ze _ rfl) ?_
 refine kr [79] ?_
 refine qd (fun hb=> ?_) (fun hb=> ?_)
 ·replace h:=qu hb h
  refine kr [79] ?_
  cases h
  exact kf
 replace h:=qv hb h
 refine kr [79] ?_
 obtain ⟨x1,hx,h⟩:=bind_some h
 refine Zz env hx rfl rfl rfl rfl ?_
 refine kr [79] ?_
 obtain ⟨x2,hx,h⟩:=bind_some h
 refine qk (qlq _ _ hx) ?_
 refine kr [79] ?_
 refine qd (fun hb=> ?_) (fun hb=> ?_)
 ·replace h:=qu hb h
  refine kr [79] ?_
  obtain ⟨x3,hx,h⟩:=bind_some h
  refine qk (q1p _ _ _ hx) ?_
  refine kr [79] ?_
  obtain ⟨x4,hx,h⟩:=bind_some h
  refine Zz env hx rfl rfl rfl rfl ?_
  refine kr [79] ?_
  obtain ⟨x5,hx,h⟩:=bind_some h
  refine qk (qaa _ _ hx) ?_
  refine kr [79] ?_
  refine qd (fun hb=> ?_) (fun hb=> ?_)
  ·replace h:=qu hb h
   refine kr [79] ?_
   obtain ⟨x6,hx,h⟩:=bind_some h
   refine Yw env hx rfl rfl rfl rfl rfl ?_
   refine kr [79] ?_
   obtain ⟨x7,hx,h⟩:=bind_some h
   refine qk (qs9 _ _ hx) ?_
   refine kr [79] ?_
   refine qd (fun hb=> ?_) (fun hb=> ?_)
   ·replace h:=qu hb h
    refine kr [79] ?_
    cases h
    exact kf
   replace h:=qv hb h
   refine kr [79] ?_
   cases h
   exact kf
  replace h:=qv hb h
  refine kr [79] ?_
  refine qd (fun hb=> ?_) (fun hb=> ?_)
  ·replace h:=qu hb h
   refine kr [79] ?_
   cases h
   exact kf
  replace h:=qv hb h
  refine kr [79] ?_
  cases h
  exact kf
 replace h:=qv hb h
 refine kr [79] ?_
 obtain ⟨x8,hx,h⟩:=bind_some h
 refine Zz env hx rfl rfl rfl rfl ?_
 refine kr [79] ?_
 obtain ⟨x9,hx,h⟩:=bind_some h
 refine qk (qz5 _ _ hx) ?_
 refine kr [79] ?_
 refine qw (fun hb=> ?_) (fun hb=> ?_)
 ·replace h:=qv hb h
  refine kr [79] ?_
  obtain ⟨x10,hx,h⟩:=bind_some h
  refine Zz env hx rfl rfl rfl rfl ?_
  refine kr [79] ?_
  refine qq (fun hb=> ?_) (fun hb=> ?_)
  ·replace h:=qu hb h
   refine kr [79] ?_
   refine qq (fun hb=> ?_) (fun hb=> ?_)
   ·replace h:=qu hb h
    refine kr [79] ?_
    obtain ⟨x11,hx,h⟩:=bind_some h
    refine Zz env hx rfl rfl rfl rfl ?_
    refine kr [79] ?_
    refine qd (fun hb=> ?_) (fun hb=> ?_)
    ·replace h:=qu hb h
     refine kr [79] ?_
     cases h
     exact kf
    replace h:=qv hb h
    refine kr [79] ?_
    obtain ⟨x12,hx,h⟩:=bind_some h
    refine Zz env hx rfl rfl rfl rfl ?_
    refine kr [79] ?_
    refine qq (fun hb=> ?_) (fun hb=> ?_)
    ·replace h:=qu hb h
     refine kr [79] ?_
     refine qq (fun hb=> ?_) (fun hb=> ?_)
     ·replace h:=qu hb h
      refine kr [79] ?_
      obtain ⟨x13,hx,h⟩:=bind_some h
      refine Zz env hx rfl rfl rfl rfl ?_
      refine kr [79] ?_
      refine qd (fun hb=> ?_) (fun hb=> ?_)
      ·replace h:=qu hb h
       refine kr [79] ?_
       cases h
       exact kf
      replace h:=qv hb h
      refine kr [79] ?_
      exact q6 (by kernel_rfl) rfl lA (vc _ _ h)
     replace h:=qv hb h
     refine kr [79] ?_
     exact q6 (by kernel_rfl) rfl lA (vc _ _ h)
    replace h:=qv hb h
    refine kr [79] ?_
    exact q6 (by kernel_rfl) rfl lA (vc _ _ h)
   replace h:=qv hb h
   refine kr [79] ?_
   obtain ⟨x14,hx,h⟩:=bind_some h
   refine Zz env hx rfl rfl rfl rfl ?_
   refine kr [79] ?_
   refine qq (fun hb=> ?_) (fun hb=> ?_)
   ·replace h:=qu hb h
    refine kr [79] ?_
    refine qq (fun hb=> ?_) (fun hb=> ?_)
    ·replace h:=qu hb h
     refine kr [79] ?_
     obtain ⟨x15,hx,h⟩:=bind_some h
     refine Zz env hx rfl rfl rfl rfl ?_
     refine kr [79] ?_
     refine qd (fun hb=> ?_) (fun hb=> ?_)
     ·replace h:=qu hb h
      refine kr [79] ?_
      cases h
      exact kf
     replace h:=qv hb h
     refine kr [79] ?_
     exact q6 (by kernel_rfl) rfl lA (vc _ _ h)
    replace h:=qv hb h
    refine kr [79] ?_
    exact q6 (by kernel_rfl) rfl lA (vc _ _ h)
   replace h:=qv hb h
   refine kr [79] ?_
   exact q6 (by kernel_rfl) rfl lA (vc _ _ h)
  replace h:=qv hb h
  refine kr [79] ?_
  obtain ⟨x16,hx,h⟩:=bind_some h
  refine Zz env hx rfl rfl rfl rfl ?_
  refine kr [79] ?_
  refine qq (fun hb=> ?_) (fun hb=> ?_)
  ·replace h:=qu hb h
   refine kr [79] ?_
   refine qq (fun hb=> ?_) (fun hb=> ?_)
   ·replace h:=qu hb h
    refine kr [79] ?_
    obtain ⟨x17,hx,h⟩:=bind_some h
    refine Zz env hx rfl rfl rfl rfl ?_
    refine kr [79] ?_
    refine qd (fun hb=> ?_) (fun hb=> ?_)
    ·replace h:=qu hb h
     refine kr [79] ?_
     cases h
     exact kf
    replace h:=qv hb h
    refine kr [79] ?_
    exact q6 (by kernel_rfl) rfl lA (vc _ _ h)
   replace h:=qv hb h
   refine kr [79] ?_
   exact q6 (by kernel_rfl) rfl lA (vc _ _ h)
  replace h:=qv hb h
  refine kr [79] ?_
  exact q6 (by kernel_rfl) rfl lA (vc _ _ h)
 replace h:=qu hb h
 refine kr [79] ?_
 cases h
 exact kf
def Qe (t0:BA) (t5:(List Token)) (t6:Int):Option ((List Token) × Int × Int):=
 if (decide (t6≤(t0.size:Int)))=true then
  qh2 (qa t0) (qa t6) >>=fun x1=>
  if (decide ((t0.size:Int)≤x1))=true then
   ssub t0 t6 (t0.size:Int) >>=fun x2=>
   app 48 t5 ([(Token.mk (4:Int) x2 (⟨#[]⟩) (t0.size:Int))]) >>=fun x3=>
   some (x3,(0:Int),(0:Int))
  else
   qe4 (qa t0) (qa x1) >>=fun x4=>
   if (decide (x4.2=(0:Int)))=true then
    some (([]:(List Token)),(1:Int),x1)
   else
    ssub t0 t6 x1 >>=fun x5=>
    ssub t0 x1 x4.1 >>=fun x6=>
    app 48 t5 ([(Token.mk x4.2 x5 x6 x1)]) >>=fun x7=>
    Qe (qa t0) (qa x7) x4.1
 else
  some (t5,(0:Int),(0:Int))
 partial_fixpoint
@[reducible] def qho (t0:BA) (t5:(List Token)) (t6:Int) (r:(List Token) × Int × Int):Prop:=
  Ok Tryz.prog G tt 59 0 (Ret Tryz.prog [.tmp 2, .tmp 3, .tmp 4] (fun y H=>Told Tryz.prog G H y (.tup [(.sl 4 false (r.1.map Token.cells)),(.int .i64 r.2.1),(.int .i64 r.2.2)]))) (.again (je [] Tryz.f100 0).1 (je [] Tryz.f100 0).2 (.n (.str t0) (.n .undef .z (.n (.bs 4 0 0 0 t5.length) .z .z)) (.n .undef .z (.n (.int .i64 t6) .z .z))) 1 [(0, .row 118 (t5.map Token.cells).flatten)])
theorem qc6:PC3 qho Qe:=by
 refine Qe.partial_correctness qho (fun Qe qc6 t0 t5 t6 r h=> ?_)
 unfold qa at h
 refine jm ?_
 refine kr [] ?_
 refine qd (fun hb=> ?_) (fun hb=> ?_)
 ·replace h:=qu hb h
  refine kr [] ?_
  obtain ⟨x1,hx,h⟩:=bind_some h
  refine qk (q1q _ _ _ hx) ?_
  refine kr [] ?_
  refine qd (fun hb=> ?_) (fun hb=> ?_)
  ·replace h:=qu hb h
   refine kr [] ?_
   obtain ⟨x2,hx,h⟩:=bind_some h
   refine Yw env hx rfl rfl rfl rfl rfl ?_
   refine kr [] ?_
   obtain ⟨x3,hx,h⟩:=bind_some h
   have hp_x3:=ju hx (by simp)
   refine y3 (C:=Token.cells) env hx rfl rfl (by simp) (fun _=>rfl) rfl rfl rfl rfl rfl (by decide) rfl rfl rfl ?_
   refine kr [] ?_
   cases h
   exact zb env rfl rfl (zt (zw (qc (q5 (z8 Wj rfl) (by simp)) (qc (q5 (qj rfl) (by simp)) (qc (q5 (qj rfl) (by simp)) zk)))))
  replace h:=qv hb h
  refine kr [] ?_
  obtain ⟨x4,hx,h⟩:=bind_some h
  refine qk (qz4 _ _ _ hx) ?_
  refine kr [] ?_
  refine qd (fun hb=> ?_) (fun hb=> ?_)
  ·replace h:=qu hb h
   refine kr [] ?_
   cases h
   exact zb env rfl rfl (zt (zw (qc (q5 (q4 (.inr rfl)) (by simp)) (qc (q5 (qj rfl) (by simp)) (qc (q5 (qj rfl) (by simp)) zk)))))
  replace h:=qv hb h
  refine kr [] ?_
  obtain ⟨x5,hx,h⟩:=bind_some h
  refine Yw env hx rfl rfl rfl rfl rfl ?_
  refine kr [] ?_
  obtain ⟨x6,hx,h⟩:=bind_some h
  refine Yw env hx rfl rfl rfl rfl rfl ?_
  refine kr [] ?_
  obtain ⟨x7,hx,h⟩:=bind_some h
  have hp_x7:=ju hx (by simp)
  refine y3 (C:=Token.cells) env hx rfl rfl (by simp) (fun _=>rfl) rfl rfl rfl rfl rfl (by decide) rfl rfl rfl ?_
  refine kr [] ?_
  exact zx (by kernel_rfl) lA (qc6 _ _ _ _ h)
 replace h:=qv hb h
 refine kr [] ?_
 cases h
 exact zb env rfl rfl (zt (zw (qc (q5 (z8 Wj rfl) (by simp)) (qc (q5 (qj rfl) (by simp)) (qc (q5 (qj rfl) (by simp)) zk)))))
def qdz (a0:BA):Option ((List Token) × Int × Int):=
 if (decide ((65536:Int) < (a0.size:Int)))=true then
  some (([]:(List Token)),(3:Int),(0:Int))
 else
  Qe a0 ([]:List Token) (0:Int)
@[reducible] def qtt (a0:BA) (r:(List Token) × Int × Int):Prop:=
  Fn Tryz.prog G 100 [(.str a0)] (.tup [(.sl 4 false (r.1.map Token.cells)),(.int .i64 r.2.1),(.int .i64 r.2.2)])
theorem qt4:PC1 qtt qdz:=fun a0 r h=>by
 rw [qdz.eq_def] at h
 refine zg (T:=tt) (N:=59) (rs:= [.tmp 2, .tmp 3, .tmp 4]) (fun vs w=>by simp) Tryz.func100 rfl rfl rfl rfl (by kernel_rfl) (z7 rfl) (ze _ rfl) ?_
 refine kr [] ?_
 refine qd (fun hb=> ?_) (fun hb=> ?_)
 ·replace h:=qu hb h
  refine kr [] ?_
  cases h
  exact zb env rfl rfl (zt (zw (qc (q5 (q4 (.inr rfl)) (by simp)) (qc (q5 (qj rfl) (by simp)) (qc (q5 (qj rfl) (by simp)) zk)))))
 replace h:=qv hb h
 refine kr [] ?_
 refine qox 5 _ 4 118 rfl rfl ?_
 exact jb (by kernel_rfl) lA (qc6 _ _ _ _ h)
def qdx (a0:BA):Option ((List Token) × Int × Int):=
 if (decide ((65536:Int) < (a0.size:Int)))=true then
  some (([]:(List Token)),(3:Int),(0:Int))
 else
  qdz a0 >>=fun x1=>
  some (x1.1,x1.2.1,x1.2.2)
@[reducible] def qtq (a0:BA) (r:(List Token) × Int × Int):Prop:=
  Fn Tryz.prog G 66 [(.str a0)] (.tup [(.sl 4 false (r.1.map Token.cells)),(.int .i64 r.2.1),(.int .i64 r.2.2)])
theorem qt2:PC1 qtq qdx:=fun a0 r h=>by
 rw [qdx.eq_def] at h
 refine zg (T:=tt) (N:=13) (rs:= [.tmp 2, .tmp 3, .tmp 4]) (fun vs w=>by simp) Tryz.func66 rfl rfl rfl rfl (by kernel_rfl) (z7 rfl) (ze _ rfl) ?_
 refine kr [] ?_
 refine qd (fun hb=> ?_) (fun hb=> ?_)
 ·replace h:=qu hb h
  refine kr [] ?_
  cases h
  exact zb env rfl rfl (zt (zw (qc (q5 (q4 (.inr rfl)) (by simp)) (qc (q5 (qj rfl) (by simp)) (qc (q5 (qj rfl) (by simp)) zk)))))
 replace h:=qv hb h
 refine kr [] ?_
 obtain ⟨x1,hx,h⟩:=bind_some h
 refine qk (qt4 _ _ hx) ?_
 refine kr [] ?_
 cases h
 exact kf
def yg (a0:(List Token)) (a1:Int) (a2:BA):Option Bool:=
 ix a0 a1 >>=fun x1=>
 some (decide (x1.Text=a2))
@[reducible] def q46 (a0:(List Token)) (a1:Int) (a2:BA) (r:Bool):Prop:=
  Fn Tryz.prog G 101 [(.sl 4 false (a0.map Token.cells)),(.int .i64 a1),(.str a2)] (.bool r)
theorem j5:PC3 q46 yg:=fun a0 a1 a2 r h=>by
 rw [yg.eq_def] at h
 refine zg (T:=tt) (N:=14) (rs:= [.tmp 6]) (fun vs w=>by simp) Tryz.func101 rfl rfl rfl rfl (by kernel_rfl) (z7 rfl) (ze _ rfl) ?_
 refine kr [] ?_
 obtain ⟨x1,hx,h⟩:=bind_some h
 refine ja env hx rfl rfl rfl rfl rfl ?_
 refine kr [] ?_
 cases h
 exact kf
def qac (a0:(List Token)) (a1:Int):Option Bool:=
 ix a0 a1 >>=fun x1=>
 if (decide (x1.Kind=(1:Int)))=true then
  ix a0 a1 >>=fun x2=>
  qmr x2.Text >>=fun x3=>
  some x3
 else
  some false
@[reducible] def qzv (a0:(List Token)) (a1:Int) (r:Bool):Prop:=
  Fn Tryz.prog G 169 [(.sl 4 false (a0.map Token.cells)),(.int .i64 a1)] (.bool r)
theorem qdu:PC2 qzv qac:=fun a0 a1 r h=>by
 rw [qac.eq_def] at h
 refine zg (T:=tt) (N:=19) (rs:= [.tmp 4]) (fun vs w=>by simp) Tryz.func169 rfl rfl rfl rfl (by kernel_rfl) (z7 rfl) (ze _ rfl) ?_
 refine kr [] ?_
 obtain ⟨x1,hx,h⟩:=bind_some h
 refine ja env hx rfl rfl rfl rfl rfl ?_
 refine kr [] ?_
 refine qq (fun hb=> ?_) (fun hb=> ?_)
 ·replace h:=qu hb h
  refine kr [] ?_
  obtain ⟨x2,hx,h⟩:=bind_some h
  refine ja env hx rfl rfl rfl rfl rfl ?_
  refine kr [] ?_
  obtain ⟨x3,hx,h⟩:=bind_some h
  refine qk (qxe _ _ hx) ?_
  refine kr [] ?_
  cases h
  exact kf
 replace h:=qv hb h
 refine kr [] ?_
 cases h
 exact kf
def qa6 (a0:(List Token)) (a1:Int):Option (Node × Int × Bool):=
 qac a0 a1 >>=fun x1=>
 if (!x1)=true then
  some ((Node.mk 0 (⟨#[]⟩) ([]:LB) ([]:LN)),a1,false)
 else
  ix a0 a1 >>=fun x2=>
  ix a0 a1 >>=fun x3=>
  some ((Node.mk (5:Int) x2.Text ([x3.Lead]) ([]:LN)),(IntKind.i64.wrap (a1+(1:Int))),true)
@[reducible] def qw2 (a0:(List Token)) (a1:Int) (r:Node × Int × Bool):Prop:=
  Fn Tryz.prog G 137 [(.sl 4 false (a0.map Token.cells)),(.int .i64 a1)] (.tup [(.agg (zl r.1)),(.int .i64 r.2.1),(.bool r.2.2)])
theorem qod:PC2 qw2 qa6:=fun a0 a1 r h=>by
 rw [qa6.eq_def] at h
 refine zg (T:=tt) (N:=27) (rs:= [.cell 4 45, .tmp 5, .tmp 6]) (fun vs w=>by simp) Tryz.func137 rfl rfl rfl rfl (by kernel_rfl) (z7 rfl) (ze _ rfl) ?_
 refine kr [] ?_
 obtain ⟨x1,hx,h⟩:=bind_some h
 refine qk (qdu _ _ _ hx) ?_
 refine kr [] ?_
 refine qd (fun hb=> ?_) (fun hb=> ?_)
 ·replace h:=qu hb h
  refine kr [] ?_
  cases h
  exact zb env rfl rfl (zt (zw (qc (jo (qb (qj rfl) (qb (q8 rfl) (qb (q4 (.inr rfl)) (qb (q4 (.inr rfl)) jc))))) (qc (q5 (qj rfl) (by simp)) (qc (q5 (zf rfl) (by simp)) zk)))))
 replace h:=qv hb h
 refine kr [] ?_
 obtain ⟨x2,hx,h⟩:=bind_some h
 refine ja env hx rfl rfl rfl rfl rfl ?_
 refine kr [] ?_
 obtain ⟨x3,hx,h⟩:=bind_some h
 refine ja env hx rfl rfl rfl rfl rfl ?_
 refine kr [] ?_
 cases h
 exact zb env rfl rfl (zt (zw (qc (jo (qb (qj rfl) (qb (q8 rfl) (qb (q4 (.inl rfl)) (qb (q4 (.inr rfl)) jc))))) (qc (q5 (qj rfl) (by simp)) (qc (q5 (zf rfl) (by simp)) zk)))))
def Y2 (t0:(List Token)) (t1:Int) (o1_0:Int) (o1_1:BA) (o1_2:LB) (o1_3:LN):Option (Node × Int × Bool):=
 ix t0 t1 >>=fun x9=>
 app 16 o1_2 ([x9.Lead]) >>=fun x10=>
 some ((Node.mk o1_0 o1_1 x10 o1_3),(IntKind.i64.wrap (t1+(1:Int))),true)
@[reducible] def qo4 (t0:(List Token)) (t1:Int) (o1_0:Int) (o1_1:BA) (o1_2:LB) (o1_3:LN) (r:Node × Int × Bool):Prop:=
  Ok Tryz.prog G tt 122 0 (Ret Tryz.prog [.cell 4 45, .tmp 5, .tmp 6] (fun y H=>Told Tryz.prog G H y (.tup [(.agg (zl r.1)),(.int .i64 r.2.1),(.bool r.2.2)]))) (.go [] (qb0 [1000000,40,44,2000019,2000020] Tryz.f136 0) [] (.n (.sl 4 false (t0.map Token.cells)) (.n (.int .i64 t1) (.n .undef (.n (.ptr 1 1 0) .z .z) .z) .z) (.n .undef (.n (.ptr 0 0 0) .z .z) .z)) 4 [(0, .var 45 [(.int .i64 0),(.str ⟨#[]⟩),(.sl 0 true []),(.sl 0 true [])]),(1, .var 45 [(.int .i64 o1_0),(.str o1_1),(.bs 1 2 2 0 o1_2.length),(.bs 4 3 3 0 o1_3.length)]),(2, .row 9 (o1_2.map sc).flatten),(3, .row 45 (o1_3.map Node.cells).flatten)])
theorem qhx:PC6 qo4 Y2:=fun t0 t1 o1_0 o1_1 o1_2 o1_3 r h=>by
 rw [Y2.eq_def] at h
 refine kr [1000000,40,44,2000019,2000020] ?_
 obtain ⟨x9,hx,h⟩:=bind_some h
 refine ja env hx rfl rfl rfl rfl rfl ?_
 refine kr [1000000,40,44,2000019,2000020] ?_
 obtain ⟨x10,hx,h⟩:=bind_some h
 have hp_x10:=ju hx (by simp)
 refine y3 (C:=sc) env hx rfl rfl (by simp) (fun _=>rfl) rfl rfl rfl rfl rfl (by decide) rfl rfl rfl ?_
 refine kr [1000000,40,44,2000019,2000020] ?_
 cases h
 exact zb env rfl rfl (zt (zw (qc (jo (qb (qj rfl) (qb (q8 rfl) (qb (z8 yx rfl) (qb (z8 zo rfl) jc))))) (qc (q5 (qj rfl) (by simp)) (qc (q5 (zf rfl) (by simp)) zk)))))
mutual
def Qb (t0:(List Token)) (t1:Int) (o1_0:Int) (o1_1:BA) (o1_2:LB) (o1_3:LN):Option (Node × Int × Bool):=
 yg (qa t0) (qa t1) (⟨#[41]⟩:BA) >>=fun x4=>
 if (!x4)=true then
  J4 (qa t0) (qa t1) (qa o1_0) (qa o1_1) (qa o1_2) (qa o1_3)
 else
  if (decide ((0:Int) < (o1_3.length:Int)))=true then
   J4 (qa t0) (qa t1) (qa o1_0) (qa o1_1) (qa o1_2) (qa o1_3)
  else
   Y2 (qa t0) (qa t1) (qa o1_0) (qa o1_1) (qa o1_2) (qa o1_3)
 partial_fixpoint
def J4 (t0:(List Token)) (t1:Int) (o1_0:Int) (o1_1:BA) (o1_2:LB) (o1_3:LN):Option (Node × Int × Bool):=
 if (decide ((0:Int) < (o1_3.length:Int)))=true then
  yg (qa t0) (qa t1) (⟨#[41]⟩:BA) >>=fun x5=>
  if x5=true then
   Y2 (qa t0) (qa t1) (qa o1_0) (qa o1_1) (qa o1_2) (qa o1_3)
  else
   yg (qa t0) (qa t1) (⟨#[44]⟩:BA) >>=fun x6=>
   if (!x6)=true then
    some ((Node.mk 0 (⟨#[]⟩) ([]:LB) ([]:LN)),t1,false)
   else
    ix t0 t1 >>=fun x7=>
    app 16 o1_2 ([x7.Lead]) >>=fun x8=>
    Zu (qa t0) (IntKind.i64.wrap (t1+(1:Int))) (qa o1_0) (qa o1_1) (qa x8) (qa o1_3)
 else
  Zu (qa t0) (qa t1) (qa o1_0) (qa o1_1) (qa o1_2) (qa o1_3)
 partial_fixpoint
def Zu (t0:(List Token)) (t1:Int) (o1_0:Int) (o1_1:BA) (o1_2:LB) (o1_3:LN):Option (Node × Int × Bool):=
 qac (qa t0) (qa t1) >>=fun x11=>
 if (!x11)=true then
  some ((Node.mk 0 (⟨#[]⟩) ([]:LB) ([]:LN)),t1,false)
 else
  ix t0 t1 >>=fun x12=>
  ix t0 t1 >>=fun x13=>
  qa6 (qa t0) (IntKind.i64.wrap (t1+(1:Int))) >>=fun x14=>
  if (!x14.2.2)=true then
   some ((Node.mk 0 (⟨#[]⟩) ([]:LB) ([]:LN)),x14.2.1,false)
  else
   app 72 ([]:LN) ([x14.1]) >>=fun x15=>
   app 72 o1_3 ([(Node.mk (4:Int) x12.Text ([x13.Lead]) x15)]) >>=fun x16=>
   Qb (qa t0) x14.2.1 (qa o1_0) (qa o1_1) (qa o1_2) (qa x16)
 partial_fixpoint
end
@[reducible] def qc1 (t0:(List Token)) (t1:Int) (o1_0:Int) (o1_1:BA) (o1_2:LB) (o1_3:LN) (r:Node × Int × Bool):Prop:=
  Ok Tryz.prog G tt 122 0 (Ret Tryz.prog [.cell 4 45, .tmp 5, .tmp 6] (fun y H=>Told Tryz.prog G H y (.tup [(.agg (zl r.1)),(.int .i64 r.2.1),(.bool r.2.2)]))) (.again (je [1000000,40,44,2000019,2000020] Tryz.f136 0).1 (je [1000000,40,44,2000019,2000020] Tryz.f136 0).2 (.n (.sl 4 false (t0.map Token.cells)) (.n (.int .i64 t1) (.n .undef (.n (.ptr 1 1 0) .z .z) .z) .z) (.n .undef (.n (.ptr 0 0 0) .z .z) .z)) 4 [(0, .var 45 [(.int .i64 0),(.str ⟨#[]⟩),(.sl 0 true []),(.sl 0 true [])]),(1, .var 45 [(.int .i64 o1_0),(.str o1_1),(.bs 1 2 2 0 o1_2.length),(.bs 4 3 3 0 o1_3.length)]),(2, .row 9 (o1_2.map sc).flatten),(3, .row 45 (o1_3.map Node.cells).flatten)])
@[reducible] def qb5 (t0:(List Token)) (t1:Int) (o1_0:Int) (o1_1:BA) (o1_2:LB) (o1_3:LN) (r:Node × Int × Bool):Prop:=
  Ok Tryz.prog G tt 122 0 (Ret Tryz.prog [.cell 4 45, .tmp 5, .tmp 6] (fun y H=>Told Tryz.prog G H y (.tup [(.agg (zl r.1)),(.int .i64 r.2.1),(.bool r.2.2)]))) (.go [] (vf [1000000,40,44,2000019,2000020] Tryz.f136 40) [] (.n (.sl 4 false (t0.map Token.cells)) (.n (.int .i64 t1) (.n .undef (.n (.ptr 1 1 0) .z .z) .z) .z) (.n .undef (.n (.ptr 0 0 0) .z .z) .z)) 4 [(0, .var 45 [(.int .i64 0),(.str ⟨#[]⟩),(.sl 0 true []),(.sl 0 true [])]),(1, .var 45 [(.int .i64 o1_0),(.str o1_1),(.bs 1 2 2 0 o1_2.length),(.bs 4 3 3 0 o1_3.length)]),(2, .row 9 (o1_2.map sc).flatten),(3, .row 45 (o1_3.map Node.cells).flatten)])
@[reducible] def qb4 (t0:(List Token)) (t1:Int) (o1_0:Int) (o1_1:BA) (o1_2:LB) (o1_3:LN) (r:Node × Int × Bool):Prop:=
  Ok Tryz.prog G tt 122 0 (Ret Tryz.prog [.cell 4 45, .tmp 5, .tmp 6] (fun y H=>Told Tryz.prog G H y (.tup [(.agg (zl r.1)),(.int .i64 r.2.1),(.bool r.2.2)]))) (.go [] (vf [1000000,40,44,2000019,2000020] Tryz.f136 44) [] (.n (.sl 4 false (t0.map Token.cells)) (.n (.int .i64 t1) (.n .undef (.n (.ptr 1 1 0) .z .z) .z) .z) (.n .undef (.n (.ptr 0 0 0) .z .z) .z)) 5 [(0, .var 45 [(.int .i64 0),(.str ⟨#[]⟩),(.sl 0 true []),(.sl 0 true [])]),(1, .var 45 [(.int .i64 o1_0),(.str o1_1),(.bs 1 2 4 0 o1_2.length),(.bs 4 3 3 0 o1_3.length)]),(4, .row 9 (o1_2.map sc).flatten),(3, .row 45 (o1_3.map Node.cells).flatten)])
theorem qa8:PC6 qc1 Qb∧PC6 qb5 J4∧PC6 qb4 Zu:=by
 refine Qb.mutual_partial_correctness qc1 qb5 qb4 (fun J4 qca t0 t1 o1_0 o1_1 o1_2 o1_3 r h=> ?_) (fun Zu qb9 t0 t1 o1_0 o1_1 o1_2 o1_3 r h=> ?_) (fun Qb qc5 t0 t1 o1_0 o1_1 o1_2 o1_3 r h=> ?_)
 ·unfold qa at h
  refine jm ?_
  refine kr [1000000,40,44,2000019,2000020] ?_
  obtain ⟨x4,hx,h⟩:=bind_some h
  refine qk (j5 _ _ _ _ hx) ?_
  refine kr [1000000,40,44,2000019,2000020] ?_
  refine qw (fun hb=> ?_) (fun hb=> ?_)
  ·replace h:=qv hb h
   refine kr [1000000,40,44,2000019,2000020] ?_
   refine qd (fun hb=> ?_) (fun hb=> ?_)
   ·replace h:=qu hb h
    refine kr [1000000,40,44,2000019,2000020] ?_
    exact q6 (by kernel_rfl) rfl lA (qca _ _ _ _ _ _ _ h)
   replace h:=qv hb h
   refine kr [1000000,40,44,2000019,2000020] ?_
   exact q6 (by kernel_rfl) rfl lA (qhx _ _ _ _ _ _ _ h)
  replace h:=qu hb h
  refine kr [1000000,40,44,2000019,2000020] ?_
  exact q6 (by kernel_rfl) rfl lA (qca _ _ _ _ _ _ _ h)
 ·unfold qa at h
  refine kr [1000000,40,44,2000019,2000020] ?_
  refine qd (fun hb=> ?_) (fun hb=> ?_)
  ·replace h:=qu hb h
   refine kr [1000000,40,44,2000019,2000020] ?_
   obtain ⟨x5,hx,h⟩:=bind_some h
   refine qk (j5 _ _ _ _ hx) ?_
   refine kr [1000000,40,44,2000019,2000020] ?_
   refine qd (fun hb=> ?_) (fun hb=> ?_)
   ·replace h:=qu hb h
    refine kr [1000000,40,44,2000019,2000020] ?_
    exact q6 (by kernel_rfl) rfl lA (qhx _ _ _ _ _ _ _ h)
   replace h:=qv hb h
   refine kr [1000000,40,44,2000019,2000020] ?_
   obtain ⟨x6,hx,h⟩:=bind_some h
   refine qk (j5 _ _ _ _ hx) ?_
   refine kr [1000000,40,44,2000019,2000020] ?_
   refine qd (fun hb=> ?_) (fun hb=> ?_)
   ·replace h:=qu hb h
    refine kr [1000000,40,44,2000019,2000020] ?_
    cases h
    exact zb env rfl rfl (zt (zw (qc (jo (qb (qj rfl) (qb (q8 rfl) (qb (q4 (.inr rfl)) (qb (q4 (.inr rfl)) jc))))) (qc (q5 (qj rfl) (by simp)) (qc (q5 (zf rfl) (by simp)) zk)))))
   replace h:=qv hb h
   refine kr [1000000,40,44,2000019,2000020] ?_
   obtain ⟨x7,hx,h⟩:=bind_some h
   refine ja env hx rfl rfl rfl rfl rfl ?_
   refine kr [1000000,40,44,2000019,2000020] ?_
   obtain ⟨x8,hx,h⟩:=bind_some h
   have hp_x8:=ju hx (by simp)
   refine y3 (C:=sc) env hx rfl rfl (by simp) (fun _=>rfl) rfl rfl rfl rfl rfl (by decide) rfl rfl rfl ?_
   refine kr [1000000,40,44,2000019,2000020] ?_
   exact q6 (by kernel_rfl) rfl lA (qb9 _ _ _ _ _ _ _ h)
  replace h:=qv hb h
  refine kr [1000000,40,44,2000019,2000020] ?_
  exact q6 (by kernel_rfl) rfl lA (qb9 _ _ _ _ _ _ _ h)
 unfold qa at h
 refine kr [1000000,40,44,2000019,2000020] ?_
 obtain ⟨x11,hx,h⟩:=bind_some h
 refine qk (qdu _ _ _ hx) ?_
 refine kr [1000000,40,44,2000019,2000020] ?_
 refine qd (fun hb=> ?_) (fun hb=> ?_)
 ·replace h:=qu hb h
  refine kr [1000000,40,44,2000019,2000020] ?_
  cases h
  exact zb env rfl rfl (zt (zw (qc (jo (qb (qj rfl) (qb (q8 rfl) (qb (q4 (.inr rfl)) (qb (q4 (.inr rfl)) jc))))) (qc (q5 (qj rfl) (by simp)) (qc (q5 (zf rfl) (by simp)) zk)))))
 replace h:=qv hb h
 refine kr [1000000,40,44,2000019,2000020] ?_
 obtain ⟨x12,hx,h⟩:=bind_some h
 refine ja env hx rfl rfl rfl rfl rfl ?_
 refine kr [1000000,40,44,2000019,2000020] ?_
 obtain ⟨x13,hx,h⟩:=bind_some h
 refine ja env hx rfl rfl rfl rfl rfl ?_
 refine kr [1000000,40,44,2000019,2000020] ?_
 obtain ⟨x14,hx,h⟩:=bind_some h
 refine qk (qod _ _ _ hx) ?_
 refine kr [1000000,40,44,2000019,2000020] ?_
 refine qd (fun hb=> ?_) (fun hb=> ?_)
 ·replace h:=qu hb h
  refine kr [1000000,40,44,2000019,2000020] ?_
  cases h
  exact zb env rfl rfl (zt (zw (qc (jo (qb (qj rfl) (qb (q8 rfl) (qb (q4 (.inr rfl)) (qb (q4 (.inr rfl)) jc))))) (qc (q5 (qj rfl) (by simp)) (qc (q5 (zf rfl) (by simp)) zk)))))
 replace h:=qv hb h
 refine kr [1000000,40,44,2000019,2000020] ?_
 obtain ⟨x15,hx,h⟩:=bind_some h
 have hp_x15:=ju hx (by simp)
 refine W7 (C:=Node.cells) env hx rfl (.inr rfl) (show _=AV.sl _ _ (List.map Node.cells [x14.1]) from (by simp only [Ay,AN,Node.cells_eq];rfl)) (by simp) rfl rfl rfl rfl rfl (by decide) rfl rfl ?_
 refine kr [1000000,40,44,2000019,2000020] ?_
 refine Qg 4 3 6 zo rfl rfl rfl rfl rfl rfl ?_
 refine W6 ?_
 refine kr [1000000,40,44,2000019,2000020] ?_
 obtain ⟨x16,hx,h⟩:=bind_some h
 have hp_x16:=ju hx (by simp)
 have hr_x16:=hx
 refine qsy (C:=Node.cells) env hx rfl rfl rfl (by simp) Node.cells_len rfl rfl rfl rfl rfl (by decide) rfl rfl rfl ?_
 refine kr [1000000,40,44,2000019,2000020] ?_
 refine qw1 3 8 45 (cs':=(x16.map Node.cells).flatten) rfl rfl (qq0 hr_x16 (by simp only [Ay,AN,Node.cells_eq];exact (J6 (Q7 _) (J6 (Q7 _) (J6 (qq1 (.inl rfl)) (J6 (Q7 _) qvq)))))) ?_
 refine W6 ?_
 refine kr [1000000,40,44,2000019,2000020] ?_
 exact zx (by kernel_rfl) lA (qc5 _ _ _ _ _ _ _ h)
theorem qc5:PC6 qc1 Qb:=qa8.1
theorem qca:PC6 qb5 J4:=qa8.2.1
theorem qb9:PC6 qb4 Zu:=qa8.2.2
def qbi (a0:(List Token)) (a1:Int):Option (Node × Int × Bool):=
 yg a0 a1 (⟨#[40]⟩:BA) >>=fun x1=>
 if (!x1)=true then
  some ((Node.mk 0 (⟨#[]⟩) ([]:LB) ([]:LN)),a1,false)
 else
  ix a0 a1 >>=fun x2=>
  app 16 ([]:LB) ([x2.Lead]) >>=fun x3=>
  Qb a0 (IntKind.i64.wrap (a1+(1:Int))) (3:Int) (⟨#[]⟩) x3 ([]:LN)
@[reducible] def qtr (a0:(List Token)) (a1:Int) (r:Node × Int × Bool):Prop:=
  Fn Tryz.prog G 136 [(.sl 4 false (a0.map Token.cells)),(.int .i64 a1)] (.tup [(.agg (zl r.1)),(.int .i64 r.2.1),(.bool r.2.2)])
theorem qt3:PC2 qtr qbi:=fun a0 a1 r h=>by
 rw [qbi.eq_def] at h
 refine zg (T:=tt) (N:=122) (rs:= [.cell 4 45, .tmp 5, .tmp 6]) (fun vs w=>by simp) Tryz.func136 rfl rfl rfl rfl (by kernel_rfl) (z7 rfl) (ze _ rfl) ?_
 refine kr [1000000,40,44,2000019,2000020] ?_
 obtain ⟨x1,hx,h⟩:=bind_some h
 refine qk (j5 _ _ _ _ hx) ?_
 refine kr [1000000,40,44,2000019,2000020] ?_
 refine qd (fun hb=> ?_) (fun hb=> ?_)
 ·replace h:=qu hb h
  refine kr [1000000,40,44,2000019,2000020] ?_
  cases h
  exact zb env rfl rfl (zt (zw (qc (jo (qb (qj rfl) (qb (q8 rfl) (qb (q4 (.inr rfl)) (qb (q4 (.inr rfl)) jc))))) (qc (q5 (qj rfl) (by simp)) (qc (q5 (zf rfl) (by simp)) zk)))))
 replace h:=qv hb h
 refine kr [1000000,40,44,2000019,2000020] ?_
 obtain ⟨x2,hx,h⟩:=bind_some h
 refine ja env hx rfl rfl rfl rfl rfl ?_
 refine kr [1000000,40,44,2000019,2000020] ?_
 obtain ⟨x3,hx,h⟩:=bind_some h
 have hp_x3:=ju hx (by simp)
 refine W7 (C:=sc) env hx rfl (.inr rfl) rfl (by simp) rfl rfl rfl rfl rfl (by decide) rfl rfl ?_
 refine kr [1000000,40,44,2000019,2000020] ?_
 refine qk8 1 3 4 45 rfl rfl rfl ?_
 exact jb (by kernel_rfl) lA (qc5 _ _ _ _ _ _ _ h)
def qfy (a0:BA):Option Int:=
 if (decide (a0=(⟨#[124]⟩:BA)))=true then
  some (1:Int)
 else
  if (decide (a0=(⟨#[38]⟩:BA)))=true then
   some (2:Int)
  else
   if (decide (a0=(⟨#[61,61]⟩:BA)))=true then
    some (3:Int)
   else
    if (decide (a0=(⟨#[60]⟩:BA)))=true then
     some (3:Int)
    else
     if (decide (a0=(⟨#[43]⟩:BA)))=true then
      some (4:Int)
     else
      if (decide (a0=(⟨#[45]⟩:BA)))=true then
       some (4:Int)
      else
       if (decide (a0=(⟨#[42]⟩:BA)))=true then
        some (5:Int)
       else
        if (decide (a0=(⟨#[47]⟩:BA)))=true then
         some (5:Int)
        else
         some (0:Int)
@[reducible] def qw3 (a0:BA) (r:Int):Prop:=
  Fn Tryz.prog G 188 [(.str a0)] (.int .i64 r)
theorem qxa:PC1 qw3 qfy:=fun a0 r h=>by
 rw [qfy.eq_def] at h
 refine zg (T:=tt) (N:=17) (rs:= [.tmp 2]) (fun vs w=>by simp) Tryz.func188 rfl rfl rfl rfl (by kernel_rfl) (z7 rfl) (ze _ rfl) ?_
 refine kr [] ?_
 refine qd (fun hb=> ?_) (fun hb=> ?_)
 ·replace h:=qu hb h
  refine kr [] ?_
  cases h
  exact kf
 replace h:=qv hb h
 refine kr [] ?_
 refine qd (fun hb=> ?_) (fun hb=> ?_)
 ·replace h:=qu hb h
  refine kr [] ?_
  cases h
  exact kf
 replace h:=qv hb h
 refine kr [] ?_
 refine qd (fun hb=> ?_) (fun hb=> ?_)
 ·replace h:=qu hb h
  refine kr [] ?_
  cases h
  exact kf
 replace h:=qv hb h
 refine kr [] ?_
 refine qd (fun hb=> ?_) (fun hb=> ?_)
 ·replace h:=qu hb h
  refine kr [] ?_
  cases h
  exact kf
 replace h:=qv hb h
 refine kr [] ?_
 refine qd (fun hb=> ?_) (fun hb=> ?_)
 ·replace h:=qu hb h
  refine kr [] ?_
  cases h
  exact kf
 replace h:=qv hb h
 refine kr [] ?_
 refine qd (fun hb=> ?_) (fun hb=> ?_)
 ·replace h:=qu hb h
  refine kr [] ?_
  cases h
  exact kf
 replace h:=qv hb h
 refine kr [] ?_
 refine qd (fun hb=> ?_) (fun hb=> ?_)
 ·replace h:=qu hb h
  refine kr [] ?_
  cases h
  exact kf
 replace h:=qv hb h
 refine kr [] ?_
 refine qd (fun hb=> ?_) (fun hb=> ?_)
 ·replace h:=qu hb h
  refine kr [] ?_
  cases h
  exact kf
 replace h:=qv hb h
 refine kr [] ?_
 cases h
 exact kf
def wt (t0:(List Token)) (t1:Int) (t2:LB) (t9:LB) (t10:Int):Option (LB × Int × Bool):=
 if (decide (t10 < ((t2.map sc).length:Int)))=true then
  ix t2 t10 >>=fun x1=>
  if (decide (x1=(⟨#[]⟩:BA)))=true then
   qac (qa t0) (qa t1) >>=fun x2=>
   if (!x2)=true then
    some (([]:LB),t1,false)
   else
    ix t2 t10 >>=fun x3=>
    if (!decide (x3=(⟨#[]⟩:BA)))=true then
     ix t2 t10 >>=fun x4=>
     yg (qa t0) (qa t1) (qa x4) >>=fun x5=>
     if (!x5)=true then
      some (([]:LB),t1,false)
     else
      ix t0 t1 >>=fun x6=>
      app 16 t9 ([x6.Lead]) >>=fun x7=>
      wt (qa t0) (IntKind.i64.wrap (t1+(1:Int))) (qa t2) (qa x7) (IntKind.i64.wrap (t10+(1:Int)))
    else
     ix t0 t1 >>=fun x8=>
     app 16 t9 ([x8.Lead]) >>=fun x9=>
     wt (qa t0) (IntKind.i64.wrap (t1+(1:Int))) (qa t2) (qa x9) (IntKind.i64.wrap (t10+(1:Int)))
  else
   ix t2 t10 >>=fun x10=>
   if (!decide (x10=(⟨#[]⟩:BA)))=true then
    ix t2 t10 >>=fun x11=>
    yg (qa t0) (qa t1) (qa x11) >>=fun x12=>
    if (!x12)=true then
     some (([]:LB),t1,false)
    else
     ix t0 t1 >>=fun x13=>
     app 16 t9 ([x13.Lead]) >>=fun x14=>
     wt (qa t0) (IntKind.i64.wrap (t1+(1:Int))) (qa t2) (qa x14) (IntKind.i64.wrap (t10+(1:Int)))
   else
    ix t0 t1 >>=fun x15=>
    app 16 t9 ([x15.Lead]) >>=fun x16=>
    wt (qa t0) (IntKind.i64.wrap (t1+(1:Int))) (qa t2) (qa x16) (IntKind.i64.wrap (t10+(1:Int)))
 else
  some (t9,t1,true)
 partial_fixpoint
@[reducible] def qgd (t0:(List Token)) (t1:Int) (t2:LB) (t9:LB) (t10:Int) (r:LB × Int × Bool):Prop:=
  Ok Tryz.prog G tt 58 1 (Ret Tryz.prog [.tmp 6, .tmp 7, .tmp 8] (fun y H=>Qq Tryz.prog G 1 H y (.tup [(.bs 1 0 1 0 r.1.length),(.int .i64 r.2.1),(.bool r.2.2)]) ⟨2, [(1, .row 9 (r.1.map sc).flatten)]⟩)) (.again (je [] Tryz.f135 0).1 (je [] Tryz.f135 0).2 (.n (.sl 4 false (t0.map Token.cells)) (.n (.int .i64 t1) .z (.n .undef (.n (.bs 1 1 1 0 t9.length) .z .z) .z)) (.n (.sl 1 false (t2.map sc)) .z (.n .undef (.n (.int .i64 t10) .z .z) .z))) 2 [(0, .dead),(1, .row 9 (t9.map sc).flatten)])
theorem Zi:PC5 qgd wt:=by
 refine wt.partial_correctness qgd (fun wt Zi t0 t1 t2 t9 t10 r h=> ?_)
 unfold qa at h
 refine jm ?_
 refine kr [] ?_
 refine qd (fun hb=> ?_) (fun hb=> ?_)
 ·replace h:=qu hb h
  refine kr [] ?_
  obtain ⟨x1,hx,h⟩:=bind_some h
  refine ja env hx rfl rfl rfl rfl rfl ?_
  refine kr [] ?_
  refine qq (fun hb=> ?_) (fun hb=> ?_)
  ·replace h:=qu hb h
   refine kr [] ?_
   obtain ⟨x2,hx,h⟩:=bind_some h
   refine qk (qdu _ _ _ hx) ?_
   refine kr [] ?_
   refine qw (fun hb=> ?_) (fun hb=> ?_)
   ·replace h:=qv hb h
    refine kr [] ?_
    obtain ⟨x3,hx,h⟩:=bind_some h
    refine ja env hx rfl rfl rfl rfl rfl ?_
    refine kr [] ?_
    refine qq (fun hb=> ?_) (fun hb=> ?_)
    ·replace h:=qu hb h
     refine kr [] ?_
     obtain ⟨x4,hx,h⟩:=bind_some h
     refine ja env hx rfl rfl rfl rfl rfl ?_
     refine kr [] ?_
     obtain ⟨x5,hx,h⟩:=bind_some h
     refine qk (j5 _ _ _ _ hx) ?_
     refine kr [] ?_
     refine qd (fun hb=> ?_) (fun hb=> ?_)
     ·replace h:=qu hb h
      refine kr [] ?_
      cases h
      exact jt env rfl rfl (tS [none] (yv rfl rfl zy) (wm (zi (jk (qg2 rfl rfl) (by simp)) (zi (jk (qe (qj rfl) rfl) (by simp)) (zi (jk (qe (zf rfl) rfl) (by simp)) ke)))))
     replace h:=qv hb h
     refine kr [] ?_
     obtain ⟨x6,hx,h⟩:=bind_some h
     refine ja env hx rfl rfl rfl rfl rfl ?_
     refine kr [] ?_
     obtain ⟨x7,hx,h⟩:=bind_some h
     have hp_x7:=ju hx (by simp)
     refine y3 (C:=sc) env hx rfl rfl (by simp) (fun _=>rfl) rfl rfl rfl rfl rfl (by decide) rfl rfl rfl ?_
     refine kr [] ?_
     exact zx (by kernel_rfl) lQ (Zi _ _ _ _ _ _ h)
    replace h:=qv hb h
    refine kr [] ?_
    obtain ⟨x8,hx,h⟩:=bind_some h
    refine ja env hx rfl rfl rfl rfl rfl ?_
    refine kr [] ?_
    obtain ⟨x9,hx,h⟩:=bind_some h
    have hp_x9:=ju hx (by simp)
    refine y3 (C:=sc) env hx rfl rfl (by simp) (fun _=>rfl) rfl rfl rfl rfl rfl (by decide) rfl rfl rfl ?_
    refine kr [] ?_
    exact zx (by kernel_rfl) lQ (Zi _ _ _ _ _ _ h)
   replace h:=qu hb h
   refine kr [] ?_
   cases h
   exact jt env rfl rfl (tS [none] (yv rfl rfl zy) (wm (zi (jk (qg2 rfl rfl) (by simp)) (zi (jk (qe (qj rfl) rfl) (by simp)) (zi (jk (qe (zf rfl) rfl) (by simp)) ke)))))
  replace h:=qv hb h
  refine kr [] ?_
  obtain ⟨x10,hx,h⟩:=bind_some h
  refine ja env hx rfl rfl rfl rfl rfl ?_
  refine kr [] ?_
  refine qq (fun hb=> ?_) (fun hb=> ?_)
  ·replace h:=qu hb h
   refine kr [] ?_
   obtain ⟨x11,hx,h⟩:=bind_some h
   refine ja env hx rfl rfl rfl rfl rfl ?_
   refine kr [] ?_
   obtain ⟨x12,hx,h⟩:=bind_some h
   refine qk (j5 _ _ _ _ hx) ?_
   refine kr [] ?_
   refine qd (fun hb=> ?_) (fun hb=> ?_)
   ·replace h:=qu hb h
    refine kr [] ?_
    cases h
    exact jt env rfl rfl (tS [none] (yv rfl rfl zy) (wm (zi (jk (qg2 rfl rfl) (by simp)) (zi (jk (qe (qj rfl) rfl) (by simp)) (zi (jk (qe (zf rfl) rfl) (by simp)) ke)))))
   replace h:=qv hb h
   refine kr [] ?_
   obtain ⟨x13,hx,h⟩:=bind_some h
   refine ja env hx rfl rfl rfl rfl rfl ?_
   refine kr [] ?_
   obtain ⟨x14,hx,h⟩:=bind_some h
   have hp_x14:=ju hx (by simp)
   refine y3 (C:=sc) env hx rfl rfl (by simp) (fun _=>rfl) rfl rfl rfl rfl rfl (by decide) rfl rfl rfl ?_
   refine kr [] ?_
   exact zx (by kernel_rfl) lQ (Zi _ _ _ _ _ _ h)
  replace h:=qv hb h
  refine kr [] ?_
  obtain ⟨x15,hx,h⟩:=bind_some h
  refine ja env hx rfl rfl rfl rfl rfl ?_
  refine kr [] ?_
  obtain ⟨x16,hx,h⟩:=bind_some h
  have hp_x16:=ju hx (by simp)
  refine y3 (C:=sc) env hx rfl rfl (by simp) (fun _=>rfl) rfl rfl rfl rfl rfl (by decide) rfl rfl rfl ?_
  refine kr [] ?_
  exact zx (by kernel_rfl) lQ (Zi _ _ _ _ _ _ h)
 replace h:=qv hb h
 refine kr [] ?_
 cases h
 exact jt env rfl rfl (tS [some 1] (sR yx zy) (wm (zi (jk (qm4 rfl rfl rfl) (by simp)) (zi (jk (qe (qj rfl) rfl) (by simp)) (zi (jk (qe (zf rfl) rfl) (by simp)) ke)))))
def vd (a0:(List Token)) (a1:Int) (a2:LB):Option (LB × Int × Bool):=
 wt a0 a1 a2 ([]:LB) (0:Int)
@[reducible] def qs0 (a0:(List Token)) (a1:Int) (a2:LB) (r:LB × Int × Bool):Prop:=
  AC Tryz.prog G 135 [(.sl 4 false (a0.map Token.cells)),(.int .i64 a1),(.sl 1 false (a2.map sc))] 1 [(0, .row 9 [])] (.tup [(.bs 1 0 1 0 r.1.length),(.int .i64 r.2.1),(.bool r.2.2)]) 2 [(1, .row 9 (r.1.map sc).flatten)]
theorem Yz:PC3 qs0 vd:=fun a0 a1 a2 r h=>by
 rw [vd.eq_def] at h
 refine ⟨?_,(qqm rfl ky),(W3 jd),(Ys yx kw),(ka yx jd),rfl,rfl,rfl,rfl⟩
 refine Qf (T:=tt) (N:=58) (rs:= [.tmp 6, .tmp 7, .tmp 8]) (fun vs w=>by simp) Tryz.func135 rfl rfl rfl (by kernel_rfl) (by kernel_rfl) ?_
 refine kr [] ?_
 refine qox 9 _ 1 9 rfl rfl ?_
 exact jb (by kernel_rfl) lQ (Zi _ _ _ _ _ _ h)
def Qj (t0:(List Token)) (t1:Int) (o1_0:Int) (o1_1:BA) (o1_2:LB) (o1_3:LN):Option (Node × Int × Bool):=
 ix t0 t1 >>=fun x48=>
 app 16 o1_2 ([x48.Lead]) >>=fun x49=>
 some ((Node.mk o1_0 o1_1 x49 o1_3),(IntKind.i64.wrap (t1+(1:Int))),true)
@[reducible] def qji (t0:(List Token)) (t1:Int) (o1_0:Int) (o1_1:BA) (o1_2:LB) (o1_3:LN) (r:Node × Int × Bool):Prop:=
  Ok Tryz.prog G tt 93 1 (Ret Tryz.prog [.cell 6 45, .tmp 7, .tmp 8] (fun y H=>Qq Tryz.prog G 1 H y (.tup [(.agg (zl r.1)),(.int .i64 r.2.1),(.bool r.2.2)]) ⟨1, [(0, .row 45 [])]⟩)) (.go [] (qb0 [1000000,38,40] Tryz.f198 0) [] (.n (.sl 4 false (t0.map Token.cells)) (.n (.int .i64 t1) .z (.n (.ptr 1 1 0) .z .z)) (.n .undef .z (.n (.ptr 2 2 0) .z .z))) 6 [(5, .row 45 (o1_3.map Node.cells).flatten),(1, .var 45 [(.int .i64 o1_0),(.str o1_1),(.bs 1 3 3 0 o1_2.length),(.bs 4 0 5 0 o1_3.length)]),(2, .var 45 [(.int .i64 0),(.str ⟨#[]⟩),(.sl 0 true []),(.sl 0 true [])]),(3, .row 9 (o1_2.map sc).flatten)])
theorem qcp:PC6 qji Qj:=fun t0 t1 o1_0 o1_1 o1_2 o1_3 r h=>by
 rw [Qj.eq_def] at h
 refine kr [1000000,38,40] ?_
 obtain ⟨x48,hx,h⟩:=bind_some h
 refine ja env hx rfl rfl rfl rfl rfl ?_
 refine kr [1000000,38,40] ?_
 obtain ⟨x49,hx,h⟩:=bind_some h
 have hp_x49:=ju hx (by simp)
 refine y3 (C:=sc) env hx rfl rfl (by simp) (fun _=>rfl) rfl rfl rfl rfl rfl (by decide) rfl rfl rfl ?_
 refine kr [1000000,38,40] ?_
 cases h
 exact jt env rfl rfl (tS [none] (yv rfl rfl zy) (wm (zi (jz (qm (qe (qj rfl) rfl) (qm (qe (q8 rfl) rfl) (qm (qe (z8 yx rfl) rfl) (qm (qe (z8 zo rfl) rfl) jy))))) (zi (jk (qe (qj rfl) rfl) (by simp)) (zi (jk (qe (zf rfl) rfl) (by simp)) ke)))))
def Qi (t0:(List Token)) (t1:Int) (o2_0:Int) (o2_1:BA) (o2_2:LB) (o2_3:LN):Option (Node × Int × Bool):=
 ix t0 t1 >>=fun x54=>
 app 16 o2_2 ([x54.Lead]) >>=fun x55=>
 some ((Node.mk o2_0 o2_1 x55 o2_3),(IntKind.i64.wrap (t1+(1:Int))),true)
@[reducible] def qjh (t0:(List Token)) (t1:Int) (o2_0:Int) (o2_1:BA) (o2_2:LB) (o2_3:LN) (r:Node × Int × Bool):Prop:=
  Ok Tryz.prog G tt 93 2 (Ret Tryz.prog [.cell 6 45, .tmp 7, .tmp 8] (fun y H=>Qq Tryz.prog G 2 H y (.tup [(.agg (zl r.1)),(.int .i64 r.2.1),(.bool r.2.2)]) ⟨2, [(0, .row 9 []),(1, .row 45 [])]⟩)) (.go [] (qb0 [1000000,38,40] Tryz.f198 0) [] (.n (.sl 4 false (t0.map Token.cells)) (.n (.int .i64 t1) .z (.n (.ptr 2 2 0) .z .z)) (.n .undef .z (.n (.ptr 3 3 0) .z .z))) 9 [(7, .row 9 (o2_2.map sc).flatten),(8, .row 45 (o2_3.map Node.cells).flatten),(2, .var 45 [(.int .i64 o2_0),(.str o2_1),(.bs 1 0 7 0 o2_2.length),(.bs 4 1 8 0 o2_3.length)]),(3, .var 45 [(.int .i64 0),(.str ⟨#[]⟩),(.sl 0 true []),(.sl 0 true [])])])
theorem qco:PC6 qjh Qi:=fun t0 t1 o2_0 o2_1 o2_2 o2_3 r h=>by
 rw [Qi.eq_def] at h
 refine kr [1000000,38,40] ?_
 obtain ⟨x54,hx,h⟩:=bind_some h
 refine ja env hx rfl rfl rfl rfl rfl ?_
 refine kr [1000000,38,40] ?_
 obtain ⟨x55,hx,h⟩:=bind_some h
 have hp_x55:=ju hx (by simp)
 refine y3 (C:=sc) env hx rfl rfl (by simp) (fun _=>rfl) rfl rfl rfl rfl rfl (by decide) rfl rfl rfl ?_
 refine kr [1000000,38,40] ?_
 cases h
 exact jt env rfl rfl (tS [none,none] (yv rfl rfl (yv rfl rfl zy)) (wm (zi (jz (qm (qe (qj rfl) rfl) (qm (qe (q8 rfl) rfl) (qm (qe (z8 yx rfl) rfl) (qm (qe (z8 zo rfl) rfl) jy))))) (zi (jk (qe (qj rfl) rfl) (by simp)) (zi (jk (qe (zf rfl) rfl) (by simp)) ke)))))
def qdg (t12:Int) (t13:Bool) (o1:Node):Option (Node × Int × Bool):=
 some (o1,t12,t13)
@[reducible] def qp2 (t12:Int) (t13:Bool) (o1:Node) (r:Node × Int × Bool):Prop:=
  Ok Tryz.prog G tt 108 0 (Ret Tryz.prog [.cell 4 45, .tmp 5, .tmp 6] (fun y H=>Told Tryz.prog G H y (.tup [(.agg (zl r.1)),(.int .i64 r.2.1),(.bool r.2.2)]))) (.go [] (qb0 [1000000] Tryz.f187 0) [] (.n .undef (.n .undef (.n .undef .z (.n (.ptr 1 1 0) .z .z)) (.n .undef .z (.n (.bool t13) .z .z))) (.n .undef (.n (.ptr 0 0 0) .z (.n (.int .i64 t12) .z .z)) .z)) 2 [(0, .var 45 [(.int .i64 0),(.str ⟨#[]⟩),(.sl 0 true []),(.sl 0 true [])]),(1, .var 45 (zl o1))])
theorem qi9:PC3 qp2 qdg:=fun t12 t13 o1 r h=>by
 rw [qdg.eq_def] at h
 refine kr [1000000] ?_
 cases h
 exact kf
def Y3 (t10:Int) (o1:Node):Option (Node × Int × Bool):=
 some (o1,t10,true)
@[reducible] def qo6 (t10:Int) (o1:Node) (r:Node × Int × Bool):Prop:=
  Ok Tryz.prog G tt 89 0 (Ret Tryz.prog [.cell 6 45, .tmp 7, .tmp 8] (fun y H=>Told Tryz.prog G H y (.tup [(.agg (zl r.1)),(.int .i64 r.2.1),(.bool r.2.2)]))) (.go [] (qb0 [1000000] Tryz.f171 0) [] (.n .undef (.n .undef .z (.n .undef (.n (.ptr 1 1 0) .z .z) .z)) (.n .undef .z (.n (.ptr 0 0 0) (.n (.int .i64 t10) .z .z) .z))) 6 [(0, .var 45 [(.int .i64 0),(.str ⟨#[]⟩),(.sl 0 true []),(.sl 0 true [])]),(1, .var 45 (zl o1))])
theorem qhz:PC2 qo6 Y3:=fun t10 o1 r h=>by
 rw [Y3.eq_def] at h
 refine kr [1000000] ?_
 cases h
 exact kf
mutual
def yd (a0:(List Token)) (a1:Int) (a2:Int):Option (Node × Int × Bool):=
 if (decide ((5:Int) < a2))=true then
  Ym (qa a0) (qa a1) >>=fun x1=>
  some (x1.1,x1.2.1,x1.2.2)
 else
  yd (qa a0) (qa a1) (IntKind.i64.wrap (a2+(1:Int))) >>=fun x2=>
  if (!x2.2.2)=true then
   some ((Node.mk 0 (⟨#[]⟩) ([]:LB) ([]:LN)),x2.2.1,false)
  else
   Qd (qa a0) (qa a2) x2.2.1 x2.1
 partial_fixpoint
def Ym (a0:(List Token)) (a1:Int):Option (Node × Int × Bool):=
 yg (qa a0) (qa a1) (⟨#[45]⟩:BA) >>=fun x3=>
 if x3=true then
  Ym (qa a0) (IntKind.i64.wrap (a1+(1:Int))) >>=fun x10=>
  if (!x10.2.2)=true then
   some ((Node.mk 0 (⟨#[]⟩) ([]:LB) ([]:LN)),x10.2.1,false)
  else
   ix a0 a1 >>=fun x11=>
   ix a0 a1 >>=fun x12=>
   app 72 ([]:LN) ([x10.1]) >>=fun x13=>
   some ((Node.mk (25:Int) x11.Text ([x12.Lead]) x13),x10.2.1,true)
 else
  yg (qa a0) (qa a1) (⟨#[33]⟩:BA) >>=fun x4=>
  if x4=true then
   Ym (qa a0) (IntKind.i64.wrap (a1+(1:Int))) >>=fun x5=>
   if (!x5.2.2)=true then
    some ((Node.mk 0 (⟨#[]⟩) ([]:LB) ([]:LN)),x5.2.1,false)
   else
    ix a0 a1 >>=fun x6=>
    ix a0 a1 >>=fun x7=>
    app 72 ([]:LN) ([x5.1]) >>=fun x8=>
    some ((Node.mk (25:Int) x6.Text ([x7.Lead]) x8),x5.2.1,true)
  else
   Kp (qa a0) (qa a1) >>=fun x9=>
   wl (qa a0) x9.2.1 x9.2.2 x9.1
 partial_fixpoint
def Kp (a0:(List Token)) (a1:Int):Option (Node × Int × Bool):=
 ix a0 a1 >>=fun x14=>
 if (decide (x14.Kind=(2:Int)))=true then
  some ((Node.mk (17:Int) x14.Text ([x14.Lead]) ([]:LN)),(IntKind.i64.wrap (a1+(1:Int))),true)
 else
  if (decide (x14.Text=(⟨#[116,114,117,101]⟩:BA)))=true then
   some ((Node.mk (18:Int) x14.Text ([x14.Lead]) ([]:LN)),(IntKind.i64.wrap (a1+(1:Int))),true)
  else
   if (decide (x14.Text=(⟨#[102,97,108,115,101]⟩:BA)))=true then
    some ((Node.mk (18:Int) x14.Text ([x14.Lead]) ([]:LN)),(IntKind.i64.wrap (a1+(1:Int))),true)
   else
    if (decide (x14.Text=(⟨#[115,101,108,102]⟩:BA)))=true then
     some ((Node.mk (23:Int) x14.Text ([x14.Lead]) ([]:LN)),(IntKind.i64.wrap (a1+(1:Int))),true)
    else
     if (decide (x14.Text=(⟨#[110,101,119]⟩:BA)))=true then
      vd (qa a0) (qa a1) ([(⟨#[110,101,119]⟩:BA),(⟨#[]⟩:BA),(⟨#[40]⟩:BA),(⟨#[41]⟩:BA)]) >>=fun x15=>
      if (!x15.2.2)=true then
       some ((Node.mk 0 (⟨#[]⟩) ([]:LB) ([]:LN)),x15.2.1,false)
      else
       ix a0 (IntKind.i64.wrap (a1+(1:Int))) >>=fun x16=>
       some ((Node.mk (22:Int) x16.Text x15.1 ([]:LN)),x15.2.1,true)
     else
      if (decide (x14.Text=(⟨#[40]⟩:BA)))=true then
       yd (qa a0) (IntKind.i64.wrap (a1+(1:Int))) (1:Int) >>=fun x17=>
       if (!x17.2.2)=true then
        some ((Node.mk 0 (⟨#[]⟩) ([]:LB) ([]:LN)),x17.2.1,false)
       else
        yg (qa a0) x17.2.1 (⟨#[41]⟩:BA) >>=fun x18=>
        if (!x18)=true then
         some ((Node.mk 0 (⟨#[]⟩) ([]:LB) ([]:LN)),x17.2.1,false)
        else
         ix a0 x17.2.1 >>=fun x19=>
         app 72 ([]:LN) ([x17.1]) >>=fun x20=>
         some ((Node.mk (26:Int) (⟨#[]⟩) ([x14.Lead,x19.Lead]) x20),(IntKind.i64.wrap (x17.2.1+(1:Int))),true)
      else
       qac (qa a0) (qa a1) >>=fun x21=>
       if (!x21)=true then
        some ((Node.mk 0 (⟨#[]⟩) ([]:LB) ([]:LN)),a1,false)
       else
        yg (qa a0) (IntKind.i64.wrap (a1+(1:Int))) (⟨#[40]⟩:BA) >>=fun x22=>
        if x22=true then
         Qz (qa a0) (IntKind.i64.wrap (a1+(1:Int))) (20:Int) x14.Text ([x14.Lead]) ([]:LN) >>=fun x23=>
         some (x23.1,x23.2.1,x23.2.2)
        else
         some ((Node.mk (19:Int) x14.Text ([x14.Lead]) ([]:LN)),(IntKind.i64.wrap (a1+(1:Int))),true)
 partial_fixpoint
def Qz (a0:(List Token)) (a1:Int) (a2:Int) (a3:BA) (a4:LB) (a5:LN):Option (Node × Int × Bool):=
 yg (qa a0) (qa a1) (⟨#[40]⟩:BA) >>=fun x24=>
 if (!x24)=true then
  some ((Node.mk 0 (⟨#[]⟩) ([]:LB) ([]:LN)),a1,false)
 else
  ix a0 a1 >>=fun x25=>
  app 16 a4 ([x25.Lead]) >>=fun x26=>
  wz (qa a0) (IntKind.i64.wrap (a1+(1:Int))) (qa true) (qa a2) (qa a3) (qa x26) (qa a5)
 partial_fixpoint
def uv (a0:(List Token)) (a1:Int) (a2:Int) (a3:BA) (a4:LB) (a5:LN):Option (Node × Int × Bool):=
 yg (qa a0) (qa a1) (⟨#[40]⟩:BA) >>=fun x27=>
 if (!x27)=true then
  some ((Node.mk 0 (⟨#[]⟩) ([]:LB) ([]:LN)),a1,false)
 else
  ix a0 a1 >>=fun x28=>
  app 16 a4 ([x28.Lead]) >>=fun x29=>
  wy (qa a0) (IntKind.i64.wrap (a1+(1:Int))) (qa true) (qa a2) (qa a3) (qa x29) (qa a5)
 partial_fixpoint
def Qd (t0:(List Token)) (t2:Int) (t10:Int) (o1:Node):Option (Node × Int × Bool):=
 ix t0 t10 >>=fun x30=>
 qfy x30.Text >>=fun x31=>
 if (decide (x31=t2))=true then
  ix t0 t10 >>=fun x32=>
  ix t0 t10 >>=fun x33=>
  yd (qa t0) (IntKind.i64.wrap (t10+(1:Int))) (IntKind.i64.wrap (t2+(1:Int))) >>=fun x34=>
  if (!x34.2.2)=true then
   some ((Node.mk 0 (⟨#[]⟩) ([]:LB) ([]:LN)),x34.2.1,false)
  else
   app 72 ([]:LN) ([o1]) >>=fun x35=>
   app 72 x35 ([x34.1]) >>=fun x36=>
   if (decide (t2=(3:Int)))=true then
    Y3 x34.2.1 (Node.mk (24:Int) x32.Text ([x33.Lead]) x36)
   else
    Qd (qa t0) (qa t2) x34.2.1 (Node.mk (24:Int) x32.Text ([x33.Lead]) x36)
 else
  Y3 (qa t10) (qa o1)
 partial_fixpoint
def wl (t0:(List Token)) (t12:Int) (t13:Bool) (o1:Node):Option (Node × Int × Bool):=
 if t13=true then
  yg (qa t0) (qa t12) (⟨#[46]⟩:BA) >>=fun x37=>
  if x37=true then
   vd (qa t0) (qa t12) ([(⟨#[46]⟩:BA),(⟨#[]⟩:BA)]) >>=fun x38=>
   if (!x38.2.2)=true then
    some ((Node.mk 0 (⟨#[]⟩) ([]:LB) ([]:LN)),x38.2.1,false)
   else
    ix t0 (IntKind.i64.wrap (x38.2.1 - (1:Int))) >>=fun x39=>
    app 72 ([]:LN) ([o1]) >>=fun x40=>
    uv (qa t0) x38.2.1 (21:Int) x39.Text x38.1 (qa x40) >>=fun x41=>
    wl (qa t0) x41.2.1 x41.2.2 x41.1
  else
   qdg (qa t12) (qa t13) (qa o1)
 else
  qdg (qa t12) (qa t13) (qa o1)
 partial_fixpoint
def wz (t0:(List Token)) (t1:Int) (t9:Bool) (o1_0:Int) (o1_1:BA) (o1_2:LB) (o1_3:LN):Option (Node × Int × Bool):=
 yg (qa t0) (qa t1) (⟨#[41]⟩:BA) >>=fun x42=>
 if (!x42)=true then
  vi (qa t0) (qa t1) (qa t9) (qa o1_0) (qa o1_1) (qa o1_2) (qa o1_3)
 else
  if (!t9)=true then
   vi (qa t0) (qa t1) (qa t9) (qa o1_0) (qa o1_1) (qa o1_2) (qa o1_3)
  else
   Qj (qa t0) (qa t1) (qa o1_0) (qa o1_1) (qa o1_2) (qa o1_3)
 partial_fixpoint
def wy (t0:(List Token)) (t1:Int) (t9:Bool) (o2_0:Int) (o2_1:BA) (o2_2:LB) (o2_3:LN):Option (Node × Int × Bool):=
 yg (qa t0) (qa t1) (⟨#[41]⟩:BA) >>=fun x43=>
 if (!x43)=true then
  vh (qa t0) (qa t1) (qa t9) (qa o2_0) (qa o2_1) (qa o2_2) (qa o2_3)
 else
  if (!t9)=true then
   vh (qa t0) (qa t1) (qa t9) (qa o2_0) (qa o2_1) (qa o2_2) (qa o2_3)
  else
   Qi (qa t0) (qa t1) (qa o2_0) (qa o2_1) (qa o2_2) (qa o2_3)
 partial_fixpoint
def vi (t0:(List Token)) (t1:Int) (t9:Bool) (o1_0:Int) (o1_1:BA) (o1_2:LB) (o1_3:LN):Option (Node × Int × Bool):=
 if (!t9)=true then
  yg (qa t0) (qa t1) (⟨#[41]⟩:BA) >>=fun x44=>
  if x44=true then
   Qj (qa t0) (qa t1) (qa o1_0) (qa o1_1) (qa o1_2) (qa o1_3)
  else
   yg (qa t0) (qa t1) (⟨#[44]⟩:BA) >>=fun x45=>
   if (!x45)=true then
    some ((Node.mk 0 (⟨#[]⟩) ([]:LB) ([]:LN)),t1,false)
   else
    ix t0 t1 >>=fun x46=>
    app 16 o1_2 ([x46.Lead]) >>=fun x47=>
    uh (qa t0) (IntKind.i64.wrap (t1+(1:Int))) (qa o1_0) (qa o1_1) (qa x47) (qa o1_3)
 else
  uh (qa t0) (qa t1) (qa o1_0) (qa o1_1) (qa o1_2) (qa o1_3)
 partial_fixpoint
def vh (t0:(List Token)) (t1:Int) (t9:Bool) (o2_0:Int) (o2_1:BA) (o2_2:LB) (o2_3:LN):Option (Node × Int × Bool):=
 if (!t9)=true then
  yg (qa t0) (qa t1) (⟨#[41]⟩:BA) >>=fun x50=>
  if x50=true then
   Qi (qa t0) (qa t1) (qa o2_0) (qa o2_1) (qa o2_2) (qa o2_3)
  else
   yg (qa t0) (qa t1) (⟨#[44]⟩:BA) >>=fun x51=>
   if (!x51)=true then
    some ((Node.mk 0 (⟨#[]⟩) ([]:LB) ([]:LN)),t1,false)
   else
    ix t0 t1 >>=fun x52=>
    app 16 o2_2 ([x52.Lead]) >>=fun x53=>
    ug (qa t0) (IntKind.i64.wrap (t1+(1:Int))) (qa o2_0) (qa o2_1) (qa x53) (qa o2_3)
 else
  ug (qa t0) (qa t1) (qa o2_0) (qa o2_1) (qa o2_2) (qa o2_3)
 partial_fixpoint
def uh (t0:(List Token)) (t1:Int) (o1_0:Int) (o1_1:BA) (o1_2:LB) (o1_3:LN):Option (Node × Int × Bool):=
 yd (qa t0) (qa t1) (1:Int) >>=fun x56=>
 if (!x56.2.2)=true then
  some ((Node.mk 0 (⟨#[]⟩) ([]:LB) ([]:LN)),x56.2.1,false)
 else
  app 72 o1_3 ([x56.1]) >>=fun x57=>
  wz (qa t0) x56.2.1 (qa false) (qa o1_0) (qa o1_1) (qa o1_2) (qa x57)
 partial_fixpoint
def ug (t0:(List Token)) (t1:Int) (o2_0:Int) (o2_1:BA) (o2_2:LB) (o2_3:LN):Option (Node × Int × Bool):=
 yd (qa t0) (qa t1) (1:Int) >>=fun x58=>
 if (!x58.2.2)=true then
  some ((Node.mk 0 (⟨#[]⟩) ([]:LB) ([]:LN)),x58.2.1,false)
 else
  app 72 o2_3 ([x58.1]) >>=fun x59=>
  wy (qa t0) x58.2.1 (qa false) (qa o2_0) (qa o2_1) (qa o2_2) (qa x59)
 partial_fixpoint
end
@[reducible] def qgw (a0:(List Token)) (a1:Int) (a2:Int) (r:Node × Int × Bool):Prop:=
  Fn Tryz.prog G 171 [(.sl 4 false (a0.map Token.cells)),(.int .i64 a1),(.int .i64 a2)] (.tup [(.agg (zl r.1)),(.int .i64 r.2.1),(.bool r.2.2)])
@[reducible] def qiw (a0:(List Token)) (a1:Int) (r:Node × Int × Bool):Prop:=
  Fn Tryz.prog G 187 [(.sl 4 false (a0.map Token.cells)),(.int .i64 a1)] (.tup [(.agg (zl r.1)),(.int .i64 r.2.1),(.bool r.2.2)])
@[reducible] def qfn (a0:(List Token)) (a1:Int) (r:Node × Int × Bool):Prop:=
  Fn Tryz.prog G 197 [(.sl 4 false (a0.map Token.cells)),(.int .i64 a1)] (.tup [(.agg (zl r.1)),(.int .i64 r.2.1),(.bool r.2.2)])
@[reducible] def qa3 (a0:(List Token)) (a1:Int) (a2:Int) (a3:BA) (a4:LB) (a5:LN) (r:Node × Int × Bool):Prop:=
  AC Tryz.prog G 198 [(.sl 4 false (a0.map Token.cells)),(.int .i64 a1),(.agg [(.int .i64 a2),(.str a3),(.sl 1 true (a4.map sc)),(.bs 4 0 0 0 a5.length)])] 1 [(0, .row 45 (a5.map Node.cells).flatten)] (.tup [(.agg (zl r.1)),(.int .i64 r.2.1),(.bool r.2.2)]) 1 [(0, .row 45 [])]
@[reducible] def qa2 (a0:(List Token)) (a1:Int) (a2:Int) (a3:BA) (a4:LB) (a5:LN) (r:Node × Int × Bool):Prop:=
  AC Tryz.prog G 198 [(.sl 4 false (a0.map Token.cells)),(.int .i64 a1),(.agg [(.int .i64 a2),(.str a3),(.bs 1 0 0 0 a4.length),(.bs 4 1 1 0 a5.length)])] 2 [(0, .row 9 (a4.map sc).flatten),(1, .row 45 (a5.map Node.cells).flatten)] (.tup [(.agg (zl r.1)),(.int .i64 r.2.1),(.bool r.2.2)]) 2 [(0, .row 9 []),(1, .row 45 [])]
@[reducible] def qc2 (t0:(List Token)) (t2:Int) (t10:Int) (o1:Node) (r:Node × Int × Bool):Prop:=
  Ok Tryz.prog G tt 89 0 (Ret Tryz.prog [.cell 6 45, .tmp 7, .tmp 8] (fun y H=>Told Tryz.prog G H y (.tup [(.agg (zl r.1)),(.int .i64 r.2.1),(.bool r.2.2)]))) (.again (je [1000000] Tryz.f171 0).1 (je [1000000] Tryz.f171 0).2 (.n (.sl 4 false (t0.map Token.cells)) (.n .undef .z (.n .undef (.n (.ptr 1 1 0) .z .z) .z)) (.n (.int .i64 t2) .z (.n (.ptr 0 0 0) (.n (.int .i64 t10) .z .z) .z))) 2 [(0, .var 45 [(.int .i64 0),(.str ⟨#[]⟩),(.sl 0 true []),(.sl 0 true [])]),(1, .var 45 (zl o1))])
@[reducible] def qd7 (t0:(List Token)) (t12:Int) (t13:Bool) (o1:Node) (r:Node × Int × Bool):Prop:=
  Ok Tryz.prog G tt 108 0 (Ret Tryz.prog [.cell 4 45, .tmp 5, .tmp 6] (fun y H=>Told Tryz.prog G H y (.tup [(.agg (zl r.1)),(.int .i64 r.2.1),(.bool r.2.2)]))) (.again (je [1000000] Tryz.f187 0).1 (je [1000000] Tryz.f187 0).2 (.n (.sl 4 false (t0.map Token.cells)) (.n .undef (.n .undef .z (.n (.ptr 1 1 0) .z .z)) (.n .undef .z (.n (.bool t13) .z .z))) (.n .undef (.n (.ptr 0 0 0) .z (.n (.int .i64 t12) .z .z)) .z)) 2 [(0, .var 45 [(.int .i64 0),(.str ⟨#[]⟩),(.sl 0 true []),(.sl 0 true [])]),(1, .var 45 (zl o1))])
@[reducible] def K6 (t0:(List Token)) (t1:Int) (t9:Bool) (o1_0:Int) (o1_1:BA) (o1_2:LB) (o1_3:LN) (r:Node × Int × Bool):Prop:=
  Ok Tryz.prog G tt 93 1 (Ret Tryz.prog [.cell 6 45, .tmp 7, .tmp 8] (fun y H=>Qq Tryz.prog G 1 H y (.tup [(.agg (zl r.1)),(.int .i64 r.2.1),(.bool r.2.2)]) ⟨1, [(0, .row 45 [])]⟩)) (.again (je [1000000,38,40] Tryz.f198 0).1 (je [1000000,38,40] Tryz.f198 0).2 (.n (.sl 4 false (t0.map Token.cells)) (.n (.int .i64 t1) .z (.n (.ptr 1 1 0) (.n (.bool t9) .z .z) .z)) (.n .undef .z (.n (.ptr 2 2 0) .z .z))) 5 [(4, .row 45 (o1_3.map Node.cells).flatten),(1, .var 45 [(.int .i64 o1_0),(.str o1_1),(.bs 1 3 3 0 o1_2.length),(.bs 4 0 4 0 o1_3.length)]),(2, .var 45 [(.int .i64 0),(.str ⟨#[]⟩),(.sl 0 true []),(.sl 0 true [])]),(3, .row 9 (o1_2.map sc).flatten)])
@[reducible] def K5 (t0:(List Token)) (t1:Int) (t9:Bool) (o2_0:Int) (o2_1:BA) (o2_2:LB) (o2_3:LN) (r:Node × Int × Bool):Prop:=
  Ok Tryz.prog G tt 93 2 (Ret Tryz.prog [.cell 6 45, .tmp 7, .tmp 8] (fun y H=>Qq Tryz.prog G 2 H y (.tup [(.agg (zl r.1)),(.int .i64 r.2.1),(.bool r.2.2)]) ⟨2, [(0, .row 9 []),(1, .row 45 [])]⟩)) (.again (je [1000000,38,40] Tryz.f198 0).1 (je [1000000,38,40] Tryz.f198 0).2 (.n (.sl 4 false (t0.map Token.cells)) (.n (.int .i64 t1) .z (.n (.ptr 2 2 0) (.n (.bool t9) .z .z) .z)) (.n .undef .z (.n (.ptr 3 3 0) .z .z))) 7 [(5, .row 9 (o2_2.map sc).flatten),(6, .row 45 (o2_3.map Node.cells).flatten),(2, .var 45 [(.int .i64 o2_0),(.str o2_1),(.bs 1 0 5 0 o2_2.length),(.bs 4 1 6 0 o2_3.length)]),(3, .var 45 [(.int .i64 0),(.str ⟨#[]⟩),(.sl 0 true []),(.sl 0 true [])])])
@[reducible] def Kj (t0:(List Token)) (t1:Int) (t9:Bool) (o1_0:Int) (o1_1:BA) (o1_2:LB) (o1_3:LN) (r:Node × Int × Bool):Prop:=
  Ok Tryz.prog G tt 93 1 (Ret Tryz.prog [.cell 6 45, .tmp 7, .tmp 8] (fun y H=>Qq Tryz.prog G 1 H y (.tup [(.agg (zl r.1)),(.int .i64 r.2.1),(.bool r.2.2)]) ⟨1, [(0, .row 45 [])]⟩)) (.go [] (vf [1000000,38,40] Tryz.f198 38) [] (.n (.sl 4 false (t0.map Token.cells)) (.n (.int .i64 t1) .z (.n (.ptr 1 1 0) (.n (.bool t9) .z .z) .z)) (.n .undef .z (.n (.ptr 2 2 0) .z .z))) 6 [(5, .row 45 (o1_3.map Node.cells).flatten),(1, .var 45 [(.int .i64 o1_0),(.str o1_1),(.bs 1 3 3 0 o1_2.length),(.bs 4 0 5 0 o1_3.length)]),(2, .var 45 [(.int .i64 0),(.str ⟨#[]⟩),(.sl 0 true []),(.sl 0 true [])]),(3, .row 9 (o1_2.map sc).flatten)])
@[reducible] def Kh (t0:(List Token)) (t1:Int) (t9:Bool) (o2_0:Int) (o2_1:BA) (o2_2:LB) (o2_3:LN) (r:Node × Int × Bool):Prop:=
  Ok Tryz.prog G tt 93 2 (Ret Tryz.prog [.cell 6 45, .tmp 7, .tmp 8] (fun y H=>Qq Tryz.prog G 2 H y (.tup [(.agg (zl r.1)),(.int .i64 r.2.1),(.bool r.2.2)]) ⟨2, [(0, .row 9 []),(1, .row 45 [])]⟩)) (.go [] (vf [1000000,38,40] Tryz.f198 38) [] (.n (.sl 4 false (t0.map Token.cells)) (.n (.int .i64 t1) .z (.n (.ptr 2 2 0) (.n (.bool t9) .z .z) .z)) (.n .undef .z (.n (.ptr 3 3 0) .z .z))) 9 [(7, .row 9 (o2_2.map sc).flatten),(8, .row 45 (o2_3.map Node.cells).flatten),(2, .var 45 [(.int .i64 o2_0),(.str o2_1),(.bs 1 0 7 0 o2_2.length),(.bs 4 1 8 0 o2_3.length)]),(3, .var 45 [(.int .i64 0),(.str ⟨#[]⟩),(.sl 0 true []),(.sl 0 true [])])])
@[reducible] def Ki (t0:(List Token)) (t1:Int) (o1_0:Int) (o1_1:BA) (o1_2:LB) (o1_3:LN) (r:Node × Int × Bool):Prop:=
  Ok Tryz.prog G tt 93 1 (Ret Tryz.prog [.cell 6 45, .tmp 7, .tmp 8] (fun y H=>Qq Tryz.prog G 1 H y (.tup [(.agg (zl r.1)),(.int .i64 r.2.1),(.bool r.2.2)]) ⟨1, [(0, .row 45 [])]⟩)) (.go [] (vf [1000000,38,40] Tryz.f198 40) [] (.n (.sl 4 false (t0.map Token.cells)) (.n (.int .i64 t1) .z (.n (.ptr 1 1 0) .z .z)) (.n .undef .z (.n (.ptr 2 2 0) .z .z))) 8 [(7, .row 45 (o1_3.map Node.cells).flatten),(1, .var 45 [(.int .i64 o1_0),(.str o1_1),(.bs 1 3 6 0 o1_2.length),(.bs 4 0 7 0 o1_3.length)]),(2, .var 45 [(.int .i64 0),(.str ⟨#[]⟩),(.sl 0 true []),(.sl 0 true [])]),(6, .row 9 (o1_2.map sc).flatten)])
@[reducible] def Kg (t0:(List Token)) (t1:Int) (o2_0:Int) (o2_1:BA) (o2_2:LB) (o2_3:LN) (r:Node × Int × Bool):Prop:=
  Ok Tryz.prog G tt 93 2 (Ret Tryz.prog [.cell 6 45, .tmp 7, .tmp 8] (fun y H=>Qq Tryz.prog G 2 H y (.tup [(.agg (zl r.1)),(.int .i64 r.2.1),(.bool r.2.2)]) ⟨2, [(0, .row 9 []),(1, .row 45 [])]⟩)) (.go [] (vf [1000000,38,40] Tryz.f198 40) [] (.n (.sl 4 false (t0.map Token.cells)) (.n (.int .i64 t1) .z (.n (.ptr 2 2 0) .z .z)) (.n .undef .z (.n (.ptr 3 3 0) .z .z))) 12 [(10, .row 9 (o2_2.map sc).flatten),(11, .row 45 (o2_3.map Node.cells).flatten),(2, .var 45 [(.int .i64 o2_0),(.str o2_1),(.bs 1 0 10 0 o2_2.length),(.bs 4 1 11 0 o2_3.length)]),(3, .var 45 [(.int .i64 0),(.str ⟨#[]⟩),(.sl 0 true []),(.sl 0 true [])])])
theorem kv:PC3 qgw yd∧PC4 qc2 Qd∧PC2 qiw Ym∧PC4 qd7 wl∧PC6 qa2 uv∧PC7 K5 wy∧PC7 Kh vh∧PC6 Kg ug∧PC2 qfn Kp∧PC6 qa3 Qz∧PC7 K6 wz∧PC7 Kj vi∧PC6 Ki uh:=by
 refine yd.mutual_partial_correctness qgw qc2 qiw qd7 qa2 K5 Kh Kg qfn qa3 K6 Kj Ki (fun yd Qd Ym ww W9 qb8 a0 a1 a2 r h=> ?_) (fun yd Qd ww W9 t0 t2 t10 o1 r h=> ?_) (fun Ym wl Kp qb8 qau qkl a0 a1 r h=> ?_) (fun wl uv qau qfr t0 t12 t13 o1 r h=> ?_) (fun wy Ju a0 a1 a2 a3 a4 a5 r h=> ?_) (fun vh Km t0 t1 t9 o2_0 o2_1 o2_2 o2_3 r h=> ?_) (fun ug Kl t0 t1 t9 o2_0 o2_1 o2_2 o2_3 r h=> ?_) (fun yd wy ww Ju t0 t1 o2_0 o2_1 o2_2 o2_3 r h=> ?_) (fun yd Qz ww qfs a0 a1 r h=> ?_) (fun wz Jv a0 a1 a2 a3 a4 a5 r h=> ?_) (fun vi Ko t0 t1 t9 o1_0 o1_1 o1_2 o1_3 r h=> ?_) (fun uh Kn t0 t1 t9 o1_0 o1_1 o1_2 o1_3 r h=> ?_) (fun yd wz ww Jv t0 t1 o1_0 o1_1 o1_2 o1_3 r h=> ?_)
 ·unfold qa at h
  refine zg (T:=tt) (N:=89) (rs:= [.cell 6 45, .tmp 7, .tmp 8]) (fun vs w=>by simp) Tryz.func171 rfl rfl rfl rfl (by kernel_rfl) (z7 rfl) (ze _ rfl) ?_
  refine kr [1000000] ?_
  refine qd (fun hb=> ?_) (fun hb=> ?_)
  ·replace h:=qu hb h
   refine kr [1000000] ?_
   obtain ⟨x1,hx,h⟩:=bind_some h
   refine qk (qb8 _ _ _ hx) ?_
   refine kr [1000000] ?_
   cases h
   exact kf
  replace h:=qv hb h
  refine kr [1000000] ?_
  obtain ⟨x2,hx,h⟩:=bind_some h
  refine qk (ww _ _ _ _ hx) ?_
  refine kr [1000000] ?_
  refine qd (fun hb=> ?_) (fun hb=> ?_)
  ·replace h:=qu hb h
   refine kr [1000000] ?_
   cases h
   exact zb env rfl rfl (zt (zw (qc (jo (qb (qj rfl) (qb (q8 rfl) (qb (q4 (.inr rfl)) (qb (q4 (.inr rfl)) jc))))) (qc (q5 (qj rfl) (by simp)) (qc (q5 (zf rfl) (by simp)) zk)))))
  replace h:=qv hb h
  refine kr [1000000] ?_
  exact jb (by kernel_rfl) lA (W9 _ _ _ _ _ h)
 ·unfold qa at h
  refine jm ?_
  refine kr [1000000] ?_
  obtain ⟨x30,hx,h⟩:=bind_some h
  refine ja env hx rfl rfl rfl rfl rfl ?_
  refine kr [1000000] ?_
  obtain ⟨x31,hx,h⟩:=bind_some h
  refine qk (qxa _ _ hx) ?_
  refine kr [1000000] ?_
  refine qd (fun hb=> ?_) (fun hb=> ?_)
  ·replace h:=qu hb h
   refine kr [1000000] ?_
   obtain ⟨x32,hx,h⟩:=bind_some h
   refine ja env hx rfl rfl rfl rfl rfl ?_
   refine kr [1000000] ?_
   obtain ⟨x33,hx,h⟩:=bind_some h
   refine ja env hx rfl rfl rfl rfl rfl ?_
   refine kr [1000000] ?_
   obtain ⟨x34,hx,h⟩:=bind_some h
   refine qk (ww _ _ _ _ hx) ?_
   refine kr [1000000] ?_
   refine qd (fun hb=> ?_) (fun hb=> ?_)
   ·replace h:=qu hb h
    refine kr [1000000] ?_
    cases h
    exact zb env rfl rfl (zt (zw (qc (jo (qb (qj rfl) (qb (q8 rfl) (qb (q4 (.inr rfl)) (qb (q4 (.inr rfl)) jc))))) (qc (q5 (qj rfl) (by simp)) (qc (q5 (zf rfl) (by simp)) zk)))))
   replace h:=qv hb h
   refine kr [1000000] ?_
   obtain ⟨x35,hx,h⟩:=bind_some h
   have hp_x35:=ju hx (by simp)
   refine W7 (C:=Node.cells) env hx rfl (.inr rfl) (show _=AV.sl _ _ (List.map Node.cells [o1]) from (by simp only [Ay,AN,Node.cells_eq];rfl)) (by simp) rfl rfl rfl rfl rfl (by decide) rfl rfl ?_
   refine kr [1000000] ?_
   obtain ⟨x36,hx,h⟩:=bind_some h
   have hp_x36:=ju hx (by simp)
   refine y3 (C:=Node.cells) env hx rfl (show _=AV.sl _ _ (List.map Node.cells [x34.1]) from (by simp only [Ay,AN,Node.cells_eq];rfl)) (by simp) Node.cells_len rfl rfl rfl rfl rfl (by decide) rfl rfl rfl ?_
   refine kr [1000000] ?_
   refine qd (fun hb=> ?_) (fun hb=> ?_)
   ·replace h:=qu hb h
    refine kr [1000000] ?_
    refine Qg 1 3 4 zo rfl rfl rfl rfl rfl rfl ?_
    exact q6 (by kernel_rfl) rfl lA (qhz _ _ _ h)
   replace h:=qv hb h
   refine kr [1000000] ?_
   refine qk7 1 3 4 zo rfl rfl rfl rfl rfl ?_
   exact zx (by kernel_rfl) lA (W9 _ _ _ _ _ h)
  replace h:=qv hb h
  refine kr [1000000] ?_
  exact q6 (by kernel_rfl) rfl lA (qhz _ _ _ h)
 ·unfold qa at h
  refine zg (T:=tt) (N:=108) (rs:= [.cell 4 45, .tmp 5, .tmp 6]) (fun vs w=>by simp) Tryz.func187 rfl rfl rfl rfl (by kernel_rfl) (z7 rfl) (ze _ rfl) ?_
  refine kr [1000000] ?_
  obtain ⟨x3,hx,h⟩:=bind_some h
  refine qk (j5 _ _ _ _ hx) ?_
  refine kr [1000000] ?_
  refine qw (fun hb=> ?_) (fun hb=> ?_)
  ·replace h:=qv hb h
   refine kr [1000000] ?_
   obtain ⟨x4,hx,h⟩:=bind_some h
   refine qk (j5 _ _ _ _ hx) ?_
   refine kr [1000000] ?_
   refine qd (fun hb=> ?_) (fun hb=> ?_)
   ·replace h:=qu hb h
    refine kr [1000000] ?_
    obtain ⟨x5,hx,h⟩:=bind_some h
    refine qk (qb8 _ _ _ hx) ?_
    refine kr [1000000] ?_
    refine qd (fun hb=> ?_) (fun hb=> ?_)
    ·replace h:=qu hb h
     refine kr [1000000] ?_
     cases h
     exact zb env rfl rfl (zt (zw (qc (jo (qb (qj rfl) (qb (q8 rfl) (qb (q4 (.inr rfl)) (qb (q4 (.inr rfl)) jc))))) (qc (q5 (qj rfl) (by simp)) (qc (q5 (zf rfl) (by simp)) zk)))))
    replace h:=qv hb h
    refine kr [1000000] ?_
    obtain ⟨x6,hx,h⟩:=bind_some h
    refine ja env hx rfl rfl rfl rfl rfl ?_
    refine kr [1000000] ?_
    obtain ⟨x7,hx,h⟩:=bind_some h
    refine ja env hx rfl rfl rfl rfl rfl ?_
    refine kr [1000000] ?_
    obtain ⟨x8,hx,h⟩:=bind_some h
    have hp_x8:=ju hx (by simp)
    refine W7 (C:=Node.cells) env hx rfl (.inr rfl) (show _=AV.sl _ _ (List.map Node.cells [x5.1]) from (by simp only [Ay,AN,Node.cells_eq];rfl)) (by simp) rfl rfl rfl rfl rfl (by decide) rfl rfl ?_
    refine kr [1000000] ?_
    cases h
    exact zb env rfl rfl (zt (zw (qc (jo (qb (qj rfl) (qb (q8 rfl) (qb (q4 (.inl rfl)) (qb (z8 zo rfl) jc))))) (qc (q5 (qj rfl) (by simp)) (qc (q5 (zf rfl) (by simp)) zk)))))
   replace h:=qv hb h
   refine kr [1000000] ?_
   obtain ⟨x9,hx,h⟩:=bind_some h
   refine qk (qkl _ _ _ hx) ?_
   refine kr [1000000] ?_
   exact jb (by kernel_rfl) lA (qau _ _ _ _ _ h)
  replace h:=qu hb h
  refine kr [1000000] ?_
  obtain ⟨x10,hx,h⟩:=bind_some h
  refine qk (qb8 _ _ _ hx) ?_
  refine kr [1000000] ?_
  refine qd (fun hb=> ?_) (fun hb=> ?_)
  ·replace h:=qu hb h
   refine kr [1000000] ?_
   cases h
   exact zb env rfl rfl (zt (zw (qc (jo (qb (qj rfl) (qb (q8 rfl) (qb (q4 (.inr rfl)) (qb (q4 (.inr rfl)) jc))))) (qc (q5 (qj rfl) (by simp)) (qc (q5 (zf rfl) (by simp)) zk)))))
  replace h:=qv hb h
  refine kr [1000000] ?_
  obtain ⟨x11,hx,h⟩:=bind_some h
  refine ja env hx rfl rfl rfl rfl rfl ?_
  refine kr [1000000] ?_
  obtain ⟨x12,hx,h⟩:=bind_some h
  refine ja env hx rfl rfl rfl rfl rfl ?_
  refine kr [1000000] ?_
  obtain ⟨x13,hx,h⟩:=bind_some h
  have hp_x13:=ju hx (by simp)
  refine W7 (C:=Node.cells) env hx rfl (.inr rfl) (show _=AV.sl _ _ (List.map Node.cells [x10.1]) from (by simp only [Ay,AN,Node.cells_eq];rfl)) (by simp) rfl rfl rfl rfl rfl (by decide) rfl rfl ?_
  refine kr [1000000] ?_
  cases h
  exact zb env rfl rfl (zt (zw (qc (jo (qb (qj rfl) (qb (q8 rfl) (qb (q4 (.inl rfl)) (qb (z8 zo rfl) jc))))) (qc (q5 (qj rfl) (by simp)) (qc (q5 (zf rfl) (by simp)) zk)))))
 ·unfold qa at h
  refine jm ?_
  refine kr [1000000] ?_
  refine qq (fun hb=> ?_) (fun hb=> ?_)
  ·replace h:=qu hb h
   refine kr [1000000] ?_
   obtain ⟨x37,hx,h⟩:=bind_some h
   refine qk (j5 _ _ _ _ hx) ?_
   refine kr [1000000] ?_
   refine qd (fun hb=> ?_) (fun hb=> ?_)
   ·replace h:=qu hb h
    refine kr [1000000] ?_
    obtain ⟨x38,hx,h⟩:=bind_some h
    refine qr (ACalls.ghost (e:=9) (ACalls.wkg (AC.go (objs:= [(0, .var 45 [(.int .i64 0),(.str ⟨#[]⟩),(.sl 0 true []),(.sl 0 true [])]),(1, .var 45 (zl o1)),(2, .row 9 (([]:LB).map sc).flatten)]) (xs:= [(.sl 4 false (t0.map Token.cells)),(.int .i64 t12),(.sl 1 false (([(⟨#[46]⟩:BA),(⟨#[]⟩:BA)]).map sc))]) (Yz _ _ _ _ hx) [2] [2] rfl rfl rfl rfl rfl rfl rfl rfl rfl) (qt (q7 _) (qt (za _) (qt (qe7 (.inl rfl) (by simp)) jh))) (z6 _))) ?_
    refine kr [1000000] ?_
    refine qd (fun hb=> ?_) (fun hb=> ?_)
    ·replace h:=qu hb h
     refine kr [1000000] ?_
     cases h
     exact zb env rfl rfl (zt (zw (qc (jo (qb (qj rfl) (qb (q8 rfl) (qb (q4 (.inr rfl)) (qb (q4 (.inr rfl)) jc))))) (qc (q5 (qj rfl) (by simp)) (qc (q5 (zf rfl) (by simp)) zk)))))
    replace h:=qv hb h
    refine kr [1000000] ?_
    obtain ⟨x39,hx,h⟩:=bind_some h
    refine ja env hx rfl rfl rfl rfl rfl ?_
    refine kr [1000000] ?_
    obtain ⟨x40,hx,h⟩:=bind_some h
    have hp_x40:=ju hx (by simp)
    refine W7 (C:=Node.cells) env hx rfl (.inr rfl) (show _=AV.sl _ _ (List.map Node.cells [o1]) from (by simp only [Ay,AN,Node.cells_eq];rfl)) (by simp) rfl rfl rfl rfl rfl (by decide) rfl rfl ?_
    refine kr [1000000] ?_
    obtain ⟨x41,hx,h⟩:=bind_some h
    refine qr (AC.g9 (qfr _ _ _ _ _ _ _ hx) [2,4] [3,5]) ?_
    refine kr [1000000] ?_
    exact zx (by kernel_rfl) lA (qau _ _ _ _ _ h)
   replace h:=qv hb h
   refine kr [1000000] ?_
   exact q6 (by kernel_rfl) rfl lA (qi9 _ _ _ _ h)
  replace h:=qv hb h
  refine kr [1000000] ?_
  exact q6 (by kernel_rfl) rfl lA (qi9 _ _ _ _ h)
 ·unfold qa at h
  refine ⟨?_,(Qp yx rfl (Qp zo rfl ky)),(ka yx (ka zo jd)),(qes (qes kw)),(W3 (W3 jd)),rfl,rfl,rfl,rfl⟩
  refine Qf (T:=tt) (N:=93) (rs:= [.cell 6 45, .tmp 7, .tmp 8]) (fun vs w=>by simp) Tryz.func198 rfl rfl rfl (by kernel_rfl) (by kernel_rfl) ?_
  refine kr [1000000,38,40] ?_
  obtain ⟨x27,hx,h⟩:=bind_some h
  refine qk (j5 _ _ _ _ hx) ?_
  refine kr [1000000,38,40] ?_
  refine qd (fun hb=> ?_) (fun hb=> ?_)
  ·replace h:=qu hb h
   refine kr [1000000,38,40] ?_
   cases h
   exact jt env rfl rfl (tS [none,none] (yv rfl rfl (yv rfl rfl zy)) (wm (zi (jz (qm (qe (qj rfl) rfl) (qm (qe (q8 rfl) rfl) (qm (qe (q4 (.inr rfl)) rfl) (qm (qe (q4 (.inr rfl)) rfl) jy))))) (zi (jk (qe (qj rfl) rfl) (by simp)) (zi (jk (qe (zf rfl) rfl) (by simp)) ke)))))
  replace h:=qv hb h
  refine kr [1000000,38,40] ?_
  obtain ⟨x28,hx,h⟩:=bind_some h
  refine ja env hx rfl rfl rfl rfl rfl ?_
  refine kr [1000000,38,40] ?_
  obtain ⟨x29,hx,h⟩:=bind_some h
  have hp_x29:=ju hx (by simp)
  refine y3 (C:=sc) env hx rfl rfl (by simp) (fun _=>rfl) rfl rfl rfl rfl rfl (by decide) rfl rfl rfl ?_
  refine kr [1000000,38,40] ?_
  exact jb (by kernel_rfl) lQ (Ju _ _ _ _ _ _ _ _ h)
 ·unfold qa at h
  refine jm ?_
  refine kr [1000000,38,40] ?_
  obtain ⟨x43,hx,h⟩:=bind_some h
  refine qk (j5 _ _ _ _ hx) ?_
  refine kr [1000000,38,40] ?_
  refine qw (fun hb=> ?_) (fun hb=> ?_)
  ·replace h:=qv hb h
   refine kr [1000000,38,40] ?_
   refine qd (fun hb=> ?_) (fun hb=> ?_)
   ·replace h:=qu hb h
    refine kr [1000000,38,40] ?_
    exact q6 (by kernel_rfl) rfl lQ (Km _ _ _ _ _ _ _ _ h)
   replace h:=qv hb h
   refine kr [1000000,38,40] ?_
   exact q6 (by kernel_rfl) rfl lQ (qco _ _ _ _ _ _ _ h)
  replace h:=qu hb h
  refine kr [1000000,38,40] ?_
  exact q6 (by kernel_rfl) rfl lQ (Km _ _ _ _ _ _ _ _ h)
 ·unfold qa at h
  refine kr [1000000,38,40] ?_
  refine qd (fun hb=> ?_) (fun hb=> ?_)
  ·replace h:=qu hb h
   refine kr [1000000,38,40] ?_
   obtain ⟨x50,hx,h⟩:=bind_some h
   refine qk (j5 _ _ _ _ hx) ?_
   refine kr [1000000,38,40] ?_
   refine qd (fun hb=> ?_) (fun hb=> ?_)
   ·replace h:=qu hb h
    refine kr [1000000,38,40] ?_
    exact q6 (by kernel_rfl) rfl lQ (qco _ _ _ _ _ _ _ h)
   replace h:=qv hb h
   refine kr [1000000,38,40] ?_
   obtain ⟨x51,hx,h⟩:=bind_some h
   refine qk (j5 _ _ _ _ hx) ?_
   refine kr [1000000,38,40] ?_
   refine qd (fun hb=> ?_) (fun hb=> ?_)
   ·replace h:=qu hb h
    refine kr [1000000,38,40] ?_
    cases h
    exact jt env rfl rfl (tS [none,none] (yv rfl rfl (yv rfl rfl zy)) (wm (zi (jz (qm (qe (qj rfl) rfl) (qm (qe (q8 rfl) rfl) (qm (qe (q4 (.inr rfl)) rfl) (qm (qe (q4 (.inr rfl)) rfl) jy))))) (zi (jk (qe (qj rfl) rfl) (by simp)) (zi (jk (qe (zf rfl) rfl) (by simp)) ke)))))
   replace h:=qv hb h
   refine kr [1000000,38,40] ?_
   obtain ⟨x52,hx,h⟩:=bind_some h
   refine ja env hx rfl rfl rfl rfl rfl ?_
   refine kr [1000000,38,40] ?_
   obtain ⟨x53,hx,h⟩:=bind_some h
   have hp_x53:=ju hx (by simp)
   refine y3 (C:=sc) env hx rfl rfl (by simp) (fun _=>rfl) rfl rfl rfl rfl rfl (by decide) rfl rfl rfl ?_
   refine kr [1000000,38,40] ?_
   exact q6 (by kernel_rfl) rfl lQ (Kl _ _ _ _ _ _ _ h)
  replace h:=qv hb h
  refine kr [1000000,38,40] ?_
  exact q6 (by kernel_rfl) rfl lQ (Kl _ _ _ _ _ _ _ h)
 ·unfold qa at h
  refine kr [1000000,38,40] ?_
  obtain ⟨x58,hx,h⟩:=bind_some h
  refine qk (ww _ _ _ _ hx) ?_
  refine kr [1000000,38,40] ?_
  refine qd (fun hb=> ?_) (fun hb=> ?_)
  ·replace h:=qu hb h
   refine kr [1000000,38,40] ?_
   cases h
   exact jt env rfl rfl (tS [none,none] (yv rfl rfl (yv rfl rfl zy)) (wm (zi (jz (qm (qe (qj rfl) rfl) (qm (qe (q8 rfl) rfl) (qm (qe (q4 (.inr rfl)) rfl) (qm (qe (q4 (.inr rfl)) rfl) jy))))) (zi (jk (qe (qj rfl) rfl) (by simp)) (zi (jk (qe (zf rfl) rfl) (by simp)) ke)))))
  replace h:=qv hb h
  refine kr [1000000,38,40] ?_
  obtain ⟨x59,hx,h⟩:=bind_some h
  have hp_x59:=ju hx (by simp)
  refine y3 (C:=Node.cells) env hx rfl (show _=AV.sl _ _ (List.map Node.cells [x58.1]) from (by simp only [Ay,AN,Node.cells_eq];rfl)) (by simp) Node.cells_len rfl rfl rfl rfl rfl (by decide) rfl rfl rfl ?_
  refine kr [1000000,38,40] ?_
  exact zx (by kernel_rfl) lQ (Ju _ _ _ _ _ _ _ _ h)
 ·unfold qa at h
  refine zg (T:=tt) (N:=151) (rs:= [.cell 4 45, .tmp 5, .tmp 6]) (fun vs w=>by simp) Tryz.func197 rfl rfl rfl rfl (by kernel_rfl) (z7 rfl) (ze _ rfl) ?_
  refine kr [] ?_
  obtain ⟨x14,hx,h⟩:=bind_some h
  refine ja env hx rfl rfl rfl rfl rfl ?_
  refine kr [] ?_
  refine qd (fun hb=> ?_) (fun hb=> ?_)
  ·replace h:=qu hb h
   refine kr [] ?_
   cases h
   exact zb env rfl rfl (zt (zw (qc (jo (qb (qj rfl) (qb (q8 rfl) (qb (q4 (.inl rfl)) (qb (q4 (.inr rfl)) jc))))) (qc (q5 (qj rfl) (by simp)) (qc (q5 (zf rfl) (by simp)) zk)))))
  replace h:=qv hb h
  refine kr [] ?_
  refine qw (fun hb=> ?_) (fun hb=> ?_)
  ·replace h:=qv hb h
   refine kr [] ?_
   refine qd (fun hb=> ?_) (fun hb=> ?_)
   ·replace h:=qu hb h
    refine kr [] ?_
    cases h
    exact zb env rfl rfl (zt (zw (qc (jo (qb (qj rfl) (qb (q8 rfl) (qb (q4 (.inl rfl)) (qb (q4 (.inr rfl)) jc))))) (qc (q5 (qj rfl) (by simp)) (qc (q5 (zf rfl) (by simp)) zk)))))
   replace h:=qv hb h
   refine kr [] ?_
   refine qd (fun hb=> ?_) (fun hb=> ?_)
   ·replace h:=qu hb h
    refine kr [] ?_
    cases h
    exact zb env rfl rfl (zt (zw (qc (jo (qb (qj rfl) (qb (q8 rfl) (qb (q4 (.inl rfl)) (qb (q4 (.inr rfl)) jc))))) (qc (q5 (qj rfl) (by simp)) (qc (q5 (zf rfl) (by simp)) zk)))))
   replace h:=qv hb h
   refine kr [] ?_
   refine qd (fun hb=> ?_) (fun hb=> ?_)
   ·replace h:=qu hb h
    refine kr [] ?_
    obtain ⟨x15,hx,h⟩:=bind_some h
    refine qr (ACalls.ghost (e:=9) (ACalls.wkg (AC.go (objs:= [(0, .var 45 [(.int .i64 0),(.str ⟨#[]⟩),(.sl 0 true []),(.sl 0 true [])]),(1, .var 118 (Token.cells x14)),(2, .row 9 (([]:LB).map sc).flatten)]) (xs:= [(.sl 4 false (a0.map Token.cells)),(.int .i64 a1),(.sl 1 false (([(⟨#[110,101,119]⟩:BA),(⟨#[]⟩:BA),(⟨#[40]⟩:BA),(⟨#[41]⟩:BA)]).map sc))]) (Yz _ _ _ _ hx) [2] [2] rfl rfl rfl rfl rfl rfl rfl rfl rfl) (qt (q7 _) (qt (za _) (qt (qe7 (.inl rfl) (by simp)) jh))) (z6 _))) ?_
    refine kr [] ?_
    refine qd (fun hb=> ?_) (fun hb=> ?_)
    ·replace h:=qu hb h
     refine kr [] ?_
     cases h
     exact zb env rfl rfl (zt (zw (qc (jo (qb (qj rfl) (qb (q8 rfl) (qb (q4 (.inr rfl)) (qb (q4 (.inr rfl)) jc))))) (qc (q5 (qj rfl) (by simp)) (qc (q5 (zf rfl) (by simp)) zk)))))
    replace h:=qv hb h
    refine kr [] ?_
    obtain ⟨x16,hx,h⟩:=bind_some h
    refine ja env hx rfl rfl rfl rfl rfl ?_
    refine kr [] ?_
    cases h
    exact zb env rfl rfl (zt (zw (qc (jo (qb (qj rfl) (qb (q8 rfl) (qb (z8 yx rfl) (qb (q4 (.inr rfl)) jc))))) (qc (q5 (qj rfl) (by simp)) (qc (q5 (zf rfl) (by simp)) zk)))))
   replace h:=qv hb h
   refine kr [] ?_
   refine qd (fun hb=> ?_) (fun hb=> ?_)
   ·replace h:=qu hb h
    refine kr [] ?_
    obtain ⟨x17,hx,h⟩:=bind_some h
    refine qk (ww _ _ _ _ hx) ?_
    refine kr [] ?_
    refine qw (fun hb=> ?_) (fun hb=> ?_)
    ·replace h:=qv hb h
     refine kr [] ?_
     obtain ⟨x18,hx,h⟩:=bind_some h
     refine qk (j5 _ _ _ _ hx) ?_
     refine kr [] ?_
     refine qd (fun hb=> ?_) (fun hb=> ?_)
     ·replace h:=qu hb h
      refine kr [] ?_
      cases h
      exact zb env rfl rfl (zt (zw (qc (jo (qb (qj rfl) (qb (q8 rfl) (qb (q4 (.inr rfl)) (qb (q4 (.inr rfl)) jc))))) (qc (q5 (qj rfl) (by simp)) (qc (q5 (zf rfl) (by simp)) zk)))))
     replace h:=qv hb h
     refine kr [] ?_
     obtain ⟨x19,hx,h⟩:=bind_some h
     refine ja env hx rfl rfl rfl rfl rfl ?_
     refine kr [] ?_
     obtain ⟨x20,hx,h⟩:=bind_some h
     have hp_x20:=ju hx (by simp)
     refine W7 (C:=Node.cells) env hx rfl (.inr rfl) (show _=AV.sl _ _ (List.map Node.cells [x17.1]) from (by simp only [Ay,AN,Node.cells_eq];rfl)) (by simp) rfl rfl rfl rfl rfl (by decide) rfl rfl ?_
     refine kr [] ?_
     cases h
     exact zb env rfl rfl (zt (zw (qc (jo (qb (qj rfl) (qb (q8 rfl) (qb (q4 (.inl rfl)) (qb (z8 zo rfl) jc))))) (qc (q5 (qj rfl) (by simp)) (qc (q5 (zf rfl) (by simp)) zk)))))
    replace h:=qu hb h
    refine kr [] ?_
    cases h
    exact zb env rfl rfl (zt (zw (qc (jo (qb (qj rfl) (qb (q8 rfl) (qb (q4 (.inr rfl)) (qb (q4 (.inr rfl)) jc))))) (qc (q5 (qj rfl) (by simp)) (qc (q5 (zf rfl) (by simp)) zk)))))
   replace h:=qv hb h
   refine kr [] ?_
   obtain ⟨x21,hx,h⟩:=bind_some h
   refine qk (qdu _ _ _ hx) ?_
   refine kr [] ?_
   refine qd (fun hb=> ?_) (fun hb=> ?_)
   ·replace h:=qu hb h
    refine kr [] ?_
    cases h
    exact zb env rfl rfl (zt (zw (qc (jo (qb (qj rfl) (qb (q8 rfl) (qb (q4 (.inr rfl)) (qb (q4 (.inr rfl)) jc))))) (qc (q5 (qj rfl) (by simp)) (qc (q5 (zf rfl) (by simp)) zk)))))
   replace h:=qv hb h
   refine kr [] ?_
   obtain ⟨x22,hx,h⟩:=bind_some h
   refine qk (j5 _ _ _ _ hx) ?_
   refine kr [] ?_
   refine qd (fun hb=> ?_) (fun hb=> ?_)
   ·replace h:=qu hb h
    refine kr [] ?_
    obtain ⟨x23,hx,h⟩:=bind_some h
    refine qr (ACalls.ghost (e:=45) (ACalls.wkg (AC.go (objs:= [(0, .var 45 [(.int .i64 0),(.str ⟨#[]⟩),(.sl 0 true []),(.sl 0 true [])]),(1, .var 118 (Token.cells x14)),(2, .row 45 (([]:LN).map Node.cells).flatten)]) (xs:= [(.sl 4 false (a0.map Token.cells)),(.int .i64 (IntKind.i64.wrap (a1+(1:Int)))),(.agg [(.int .i64 (20:Int)),(.str x14.Text),(.sl 1 true (([x14.Lead]).map sc)),(.bs 4 2 2 0 ([]:LN).length)])]) (qfs _ _ _ _ _ _ _ hx) [2] [2] rfl rfl rfl rfl rfl rfl rfl rfl rfl) (qt (q7 _) (qt (za _) (qt (qkr (qp (q7 _) (qp (q7 _) (qp (q7 _) (qp (zq rfl) j8))))) jh))) (z6 _))) ?_
    refine kr [] ?_
    cases h
    exact kf
   replace h:=qv hb h
   refine kr [] ?_
   cases h
   exact zb env rfl rfl (zt (zw (qc (jo (qb (qj rfl) (qb (q8 rfl) (qb (q4 (.inl rfl)) (qb (q4 (.inr rfl)) jc))))) (qc (q5 (qj rfl) (by simp)) (qc (q5 (zf rfl) (by simp)) zk)))))
  replace h:=qu hb h
  refine kr [] ?_
  cases h
  exact zb env rfl rfl (zt (zw (qc (jo (qb (qj rfl) (qb (q8 rfl) (qb (q4 (.inl rfl)) (qb (q4 (.inr rfl)) jc))))) (qc (q5 (qj rfl) (by simp)) (qc (q5 (zf rfl) (by simp)) zk)))))
 ·unfold qa at h
  refine ⟨?_,(Qp zo rfl ky),(ka zo jd),(qes kw),(W3 jd),rfl,rfl,rfl,rfl⟩
  refine Qf (T:=tt) (N:=93) (rs:= [.cell 6 45, .tmp 7, .tmp 8]) (fun vs w=>by simp) Tryz.func198 rfl rfl rfl (by kernel_rfl) (by kernel_rfl) ?_
  refine kr [1000000,38,40] ?_
  obtain ⟨x24,hx,h⟩:=bind_some h
  refine qk (j5 _ _ _ _ hx) ?_
  refine kr [1000000,38,40] ?_
  refine qd (fun hb=> ?_) (fun hb=> ?_)
  ·replace h:=qu hb h
   refine kr [1000000,38,40] ?_
   cases h
   exact jt env rfl rfl (tS [none] (yv rfl rfl zy) (wm (zi (jz (qm (qe (qj rfl) rfl) (qm (qe (q8 rfl) rfl) (qm (qe (q4 (.inr rfl)) rfl) (qm (qe (q4 (.inr rfl)) rfl) jy))))) (zi (jk (qe (qj rfl) rfl) (by simp)) (zi (jk (qe (zf rfl) rfl) (by simp)) ke)))))
  replace h:=qv hb h
  refine kr [1000000,38,40] ?_
  obtain ⟨x25,hx,h⟩:=bind_some h
  refine ja env hx rfl rfl rfl rfl rfl ?_
  refine kr [1000000,38,40] ?_
  obtain ⟨x26,hx,h⟩:=bind_some h
  have hp_x26:=ju hx (by simp)
  refine W7 (C:=sc) env hx rfl (.inl rfl) rfl (by simp) rfl rfl rfl rfl rfl (by decide) rfl rfl ?_
  refine kr [1000000,38,40] ?_
  exact jb (by kernel_rfl) lQ (Jv _ _ _ _ _ _ _ _ h)
 ·unfold qa at h
  refine jm ?_
  refine kr [1000000,38,40] ?_
  obtain ⟨x42,hx,h⟩:=bind_some h
  refine qk (j5 _ _ _ _ hx) ?_
  refine kr [1000000,38,40] ?_
  refine qw (fun hb=> ?_) (fun hb=> ?_)
  ·replace h:=qv hb h
   refine kr [1000000,38,40] ?_
   refine qd (fun hb=> ?_) (fun hb=> ?_)
   ·replace h:=qu hb h
    refine kr [1000000,38,40] ?_
    exact q6 (by kernel_rfl) rfl lQ (Ko _ _ _ _ _ _ _ _ h)
   replace h:=qv hb h
   refine kr [1000000,38,40] ?_
   exact q6 (by kernel_rfl) rfl lQ (qcp _ _ _ _ _ _ _ h)
  replace h:=qu hb h
  refine kr [1000000,38,40] ?_
  exact q6 (by kernel_rfl) rfl lQ (Ko _ _ _ _ _ _ _ _ h)
 ·unfold qa at h
  refine kr [1000000,38,40] ?_
  refine qd (fun hb=> ?_) (fun hb=> ?_)
  ·replace h:=qu hb h
   refine kr [1000000,38,40] ?_
   obtain ⟨x44,hx,h⟩:=bind_some h
   refine qk (j5 _ _ _ _ hx) ?_
   refine kr [1000000,38,40] ?_
   refine qd (fun hb=> ?_) (fun hb=> ?_)
   ·replace h:=qu hb h
    refine kr [1000000,38,40] ?_
    exact q6 (by kernel_rfl) rfl lQ (qcp _ _ _ _ _ _ _ h)
   replace h:=qv hb h
   refine kr [1000000,38,40] ?_
   obtain ⟨x45,hx,h⟩:=bind_some h
   refine qk (j5 _ _ _ _ hx) ?_
   refine kr [1000000,38,40] ?_
   refine qd (fun hb=> ?_) (fun hb=> ?_)
   ·replace h:=qu hb h
    refine kr [1000000,38,40] ?_
    cases h
    exact jt env rfl rfl (tS [none] (yv rfl rfl zy) (wm (zi (jz (qm (qe (qj rfl) rfl) (qm (qe (q8 rfl) rfl) (qm (qe (q4 (.inr rfl)) rfl) (qm (qe (q4 (.inr rfl)) rfl) jy))))) (zi (jk (qe (qj rfl) rfl) (by simp)) (zi (jk (qe (zf rfl) rfl) (by simp)) ke)))))
   replace h:=qv hb h
   refine kr [1000000,38,40] ?_
   obtain ⟨x46,hx,h⟩:=bind_some h
   refine ja env hx rfl rfl rfl rfl rfl ?_
   refine kr [1000000,38,40] ?_
   obtain ⟨x47,hx,h⟩:=bind_some h
   have hp_x47:=ju hx (by simp)
   refine y3 (C:=sc) env hx rfl rfl (by simp) (fun _=>rfl) rfl rfl rfl rfl rfl (by decide) rfl rfl rfl ?_
   refine kr [1000000,38,40] ?_
   exact q6 (by kernel_rfl) rfl lQ (Kn _ _ _ _ _ _ _ h)
  replace h:=qv hb h
  refine kr [1000000,38,40] ?_
  exact q6 (by kernel_rfl) rfl lQ (Kn _ _ _ _ _ _ _ h)
 unfold qa at h
 refine kr [1000000,38,40] ?_
 obtain ⟨x56,hx,h⟩:=bind_some h
 refine qk (ww _ _ _ _ hx) ?_
 refine kr [1000000,38,40] ?_
 refine qd (fun hb=> ?_) (fun hb=> ?_)
 ·replace h:=qu hb h
  refine kr [1000000,38,40] ?_
  cases h
  exact jt env rfl rfl (tS [none] (yv rfl rfl zy) (wm (zi (jz (qm (qe (qj rfl) rfl) (qm (qe (q8 rfl) rfl) (qm (qe (q4 (.inr rfl)) rfl) (qm (qe (q4 (.inr rfl)) rfl) jy))))) (zi (jk (qe (qj rfl) rfl) (by simp)) (zi (jk (qe (zf rfl) rfl) (by simp)) ke)))))
 replace h:=qv hb h
 refine kr [1000000,38,40] ?_
 obtain ⟨x57,hx,h⟩:=bind_some h
 have hp_x57:=ju hx (by simp)
 refine y3 (C:=Node.cells) env hx rfl (show _=AV.sl _ _ (List.map Node.cells [x56.1]) from (by simp only [Ay,AN,Node.cells_eq];rfl)) (by simp) Node.cells_len rfl rfl rfl rfl rfl (by decide) rfl rfl rfl ?_
 refine kr [1000000,38,40] ?_
 exact zx (by kernel_rfl) lQ (Jv _ _ _ _ _ _ _ _ h)
theorem ww:PC3 qgw yd:=kv.1
theorem W9:PC4 qc2 Qd:=kv.2.1
theorem qb8:PC2 qiw Ym:=kv.2.2.1
theorem qau:PC4 qd7 wl:=kv.2.2.2.1
theorem qfr:PC6 qa2 uv:=kv.2.2.2.2.1
theorem Ju:PC7 K5 wy:=kv.2.2.2.2.2.1
theorem Km:PC7 Kh vh:=kv.2.2.2.2.2.2.1
theorem Kl:PC6 Kg ug:=kv.2.2.2.2.2.2.2.1
theorem qkl:PC2 qfn Kp:=kv.2.2.2.2.2.2.2.2.1
theorem qfs:PC6 qa3 Qz:=kv.2.2.2.2.2.2.2.2.2.1
theorem Jv:PC7 K6 wz:=kv.2.2.2.2.2.2.2.2.2.2.1
theorem Ko:PC7 Kj vi:=kv.2.2.2.2.2.2.2.2.2.2.2.1
theorem Kn:PC6 Ki uh:=kv.2.2.2.2.2.2.2.2.2.2.2.2
def K1 (a0:(List Token)) (a1:Int) (a2:Int) (a3:BA) (a4:LB) (a5:LN):Option (Node × Int × Bool):=
 yd a0 a1 (1:Int) >>=fun x1=>
 if (!x1.2.2)=true then
  some ((Node.mk 0 (⟨#[]⟩) ([]:LB) ([]:LN)),x1.2.1,false)
 else
  yg a0 x1.2.1 (⟨#[59]⟩:BA) >>=fun x2=>
  if (!x2)=true then
   some ((Node.mk 0 (⟨#[]⟩) ([]:LB) ([]:LN)),x1.2.1,false)
  else
   app 72 a5 ([x1.1]) >>=fun x3=>
   ix a0 x1.2.1 >>=fun x4=>
   app 16 a4 ([x4.Lead]) >>=fun x5=>
   some ((Node.mk a2 a3 x5 x3),(IntKind.i64.wrap (x1.2.1+(1:Int))),true)
@[reducible] def qp5 (a0:(List Token)) (a1:Int) (a2:Int) (a3:BA) (a4:LB) (a5:LN) (r:Node × Int × Bool):Prop:=
  AC Tryz.prog G 139 [(.sl 4 false (a0.map Token.cells)),(.int .i64 a1),(.agg [(.int .i64 a2),(.str a3),(.bs 1 0 0 0 a4.length),(.bs 4 1 1 0 a5.length)])] 2 [(0, .row 9 (a4.map sc).flatten),(1, .row 45 (a5.map Node.cells).flatten)] (.tup [(.agg (zl r.1)),(.int .i64 r.2.1),(.bool r.2.2)]) 2 [(0, .row 9 []),(1, .row 45 [])]
theorem qjb:PC6 qp5 K1:=fun a0 a1 a2 a3 a4 a5 r h=>by
 rw [K1.eq_def] at h
 refine ⟨?_,(Qp yx rfl (Qp zo rfl ky)),(ka yx (ka zo jd)),(qes (qes kw)),(W3 (W3 jd)),rfl,rfl,rfl,rfl⟩
 refine Qf (T:=tt) (N:=48) (rs:= [.cell 6 45, .tmp 7, .tmp 8]) (fun vs w=>by simp) Tryz.func139 rfl rfl rfl (by kernel_rfl) (by kernel_rfl) ?_
 refine kr [] ?_
 obtain ⟨x1,hx,h⟩:=bind_some h
 refine qk (ww _ _ _ _ hx) ?_
 refine kr [] ?_
 refine qw (fun hb=> ?_) (fun hb=> ?_)
 ·replace h:=qv hb h
  refine kr [] ?_
  obtain ⟨x2,hx,h⟩:=bind_some h
  refine qk (j5 _ _ _ _ hx) ?_
  refine kr [] ?_
  refine qd (fun hb=> ?_) (fun hb=> ?_)
  ·replace h:=qu hb h
   refine kr [] ?_
   cases h
   exact jt env rfl rfl (tS [none,none] (yv rfl rfl (yv rfl rfl zy)) (wm (zi (jz (qm (qe (qj rfl) rfl) (qm (qe (q8 rfl) rfl) (qm (qe (q4 (.inr rfl)) rfl) (qm (qe (q4 (.inr rfl)) rfl) jy))))) (zi (jk (qe (qj rfl) rfl) (by simp)) (zi (jk (qe (zf rfl) rfl) (by simp)) ke)))))
  replace h:=qv hb h
  refine kr [] ?_
  obtain ⟨x3,hx,h⟩:=bind_some h
  have hp_x3:=ju hx (by simp)
  refine y3 (C:=Node.cells) env hx rfl (show _=AV.sl _ _ (List.map Node.cells [x1.1]) from (by simp only [Ay,AN,Node.cells_eq];rfl)) (by simp) Node.cells_len rfl rfl rfl rfl rfl (by decide) rfl rfl rfl ?_
  refine kr [] ?_
  obtain ⟨x4,hx,h⟩:=bind_some h
  refine ja env hx rfl rfl rfl rfl rfl ?_
  refine kr [] ?_
  obtain ⟨x5,hx,h⟩:=bind_some h
  have hp_x5:=ju hx (by simp)
  refine y3 (C:=sc) env hx rfl rfl (by simp) (fun _=>rfl) rfl rfl rfl rfl rfl (by decide) rfl rfl rfl ?_
  refine kr [] ?_
  cases h
  exact jt env rfl rfl (tS [none,none] (yv rfl rfl (yv rfl rfl zy)) (wm (zi (jz (qm (qe (qj rfl) rfl) (qm (qe (q8 rfl) rfl) (qm (qe (z8 yx rfl) rfl) (qm (qe (z8 zo rfl) rfl) jy))))) (zi (jk (qe (qj rfl) rfl) (by simp)) (zi (jk (qe (zf rfl) rfl) (by simp)) ke)))))
 replace h:=qu hb h
 refine kr [] ?_
 cases h
 exact jt env rfl rfl (tS [none,none] (yv rfl rfl (yv rfl rfl zy)) (wm (zi (jz (qm (qe (qj rfl) rfl) (qm (qe (q8 rfl) rfl) (qm (qe (q4 (.inr rfl)) rfl) (qm (qe (q4 (.inr rfl)) rfl) jy))))) (zi (jk (qe (qj rfl) rfl) (by simp)) (zi (jk (qe (zf rfl) rfl) (by simp)) ke)))))
def Z8 (a0:(List Token)) (a1:Int) (a2:Int) (a3:LB):Option (Node × Int × Bool):=
 vd a0 a1 a3 >>=fun x1=>
 if (!x1.2.2)=true then
  some ((Node.mk 0 (⟨#[]⟩) ([]:LB) ([]:LN)),x1.2.1,false)
 else
  ix a0 (IntKind.i64.wrap (x1.2.1 - (2:Int))) >>=fun x2=>
  K1 a0 x1.2.1 a2 x2.Text x1.1 ([]:LN) >>=fun x3=>
  some (x3.1,x3.2.1,x3.2.2)
@[reducible] def qs2 (a0:(List Token)) (a1:Int) (a2:Int) (a3:LB) (r:Node × Int × Bool):Prop:=
  Fn Tryz.prog G 104 [(.sl 4 false (a0.map Token.cells)),(.int .i64 a1),(.int .i64 a2),(.sl 1 false (a3.map sc))] (.tup [(.agg (zl r.1)),(.int .i64 r.2.1),(.bool r.2.2)])
theorem qfq:PC4 qs2 Z8:=fun a0 a1 a2 a3 r h=>by
 rw [Z8.eq_def] at h
 refine zg (T:=tt) (N:=43) (rs:= [.cell 8 45, .tmp 9, .tmp 10]) (fun vs w=>by simp) Tryz.func104 rfl rfl rfl rfl (by kernel_rfl) (z7 rfl) (ze _ rfl) ?_
 refine kr [] ?_
 obtain ⟨x1,hx,h⟩:=bind_some h
 refine qr (ACalls.ghost (e:=9) (AC.g9 (Yz _ _ _ _ hx) [1] [1])) ?_
 refine kr [] ?_
 refine qd (fun hb=> ?_) (fun hb=> ?_)
 ·replace h:=qu hb h
  refine kr [] ?_
  cases h
  exact zb env rfl rfl (zt (zw (qc (jo (qb (qj rfl) (qb (q8 rfl) (qb (q4 (.inr rfl)) (qb (q4 (.inr rfl)) jc))))) (qc (q5 (qj rfl) (by simp)) (qc (q5 (zf rfl) (by simp)) zk)))))
 replace h:=qv hb h
 refine kr [] ?_
 obtain ⟨x2,hx,h⟩:=bind_some h
 refine ja env hx rfl rfl rfl rfl rfl ?_
 refine kr [] ?_
 obtain ⟨x3,hx,h⟩:=bind_some h
 refine qr (ACalls.ghost (e:=45) (ACalls.wkg (AC.go (objs:= [(0, .var 45 [(.int .i64 0),(.str ⟨#[]⟩),(.sl 0 true []),(.sl 0 true [])]),(2, .row 9 (x1.1.map sc).flatten),(3, .var 45 [(.int .i64 a2),(.str x2.Text),(.bs 1 1 2 0 x1.1.length),(.sl 0 true [])]),(4, .row 45 (([]:LN).map Node.cells).flatten)]) (xs:= [(.sl 4 false (a0.map Token.cells)),(.int .i64 x1.2.1),(.agg [(.int .i64 a2),(.str x2.Text),(.bs 1 1 2 0 x1.1.length),(.bs 4 3 4 0 ([]:LN).length)])]) (qjb _ _ _ _ _ _ _ hx) [1,3] [2,4] rfl rfl rfl rfl rfl rfl rfl rfl rfl) (qt (q7 _) (qt (za _) (qt (qkr (qp (q7 _) (qp (q7 _) (qp (q7 _) (qp (zq rfl) j8))))) jh))) (z6 _))) ?_
 refine kr [] ?_
 cases h
 exact kf
def qao (a0:(List Token)) (a1:Int) (a2:Int) (a3:BA) (a4:LB) (a5:LN):Option (Node × Int × Bool):=
 yd a0 a1 (1:Int) >>=fun x1=>
 if (!x1.2.2)=true then
  some ((Node.mk 0 (⟨#[]⟩) ([]:LB) ([]:LN)),x1.2.1,false)
 else
  yg a0 x1.2.1 (⟨#[59]⟩:BA) >>=fun x2=>
  if (!x2)=true then
   some ((Node.mk 0 (⟨#[]⟩) ([]:LB) ([]:LN)),x1.2.1,false)
  else
   app 72 a5 ([x1.1]) >>=fun x3=>
   ix a0 x1.2.1 >>=fun x4=>
   app 16 a4 ([x4.Lead]) >>=fun x5=>
   some ((Node.mk a2 a3 x5 x3),(IntKind.i64.wrap (x1.2.1+(1:Int))),true)
@[reducible] def qp4 (a0:(List Token)) (a1:Int) (a2:Int) (a3:BA) (a4:LB) (a5:LN) (r:Node × Int × Bool):Prop:=
  AC Tryz.prog G 139 [(.sl 4 false (a0.map Token.cells)),(.int .i64 a1),(.agg [(.int .i64 a2),(.str a3),(.sl 1 true (a4.map sc)),(.bs 4 0 0 0 a5.length)])] 1 [(0, .row 45 (a5.map Node.cells).flatten)] (.tup [(.agg (zl r.1)),(.int .i64 r.2.1),(.bool r.2.2)]) 1 [(0, .row 45 [])]
theorem qqb:PC6 qp4 qao:=fun a0 a1 a2 a3 a4 a5 r h=>by
 rw [qao.eq_def] at h
 refine ⟨?_,(Qp zo rfl ky),(ka zo jd),(qes kw),(W3 jd),rfl,rfl,rfl,rfl⟩
 refine Qf (T:=tt) (N:=48) (rs:= [.cell 6 45, .tmp 7, .tmp 8]) (fun vs w=>by simp) Tryz.func139 rfl rfl rfl (by kernel_rfl) (by kernel_rfl) ?_
 refine kr [] ?_
 obtain ⟨x1,hx,h⟩:=bind_some h
 refine qk (ww _ _ _ _ hx) ?_
 refine kr [] ?_
 refine qw (fun hb=> ?_) (fun hb=> ?_)
 ·replace h:=qv hb h
  refine kr [] ?_
  obtain ⟨x2,hx,h⟩:=bind_some h
  refine qk (j5 _ _ _ _ hx) ?_
  refine kr [] ?_
  refine qd (fun hb=> ?_) (fun hb=> ?_)
  ·replace h:=qu hb h
   refine kr [] ?_
   cases h
   exact jt env rfl rfl (tS [none] (yv rfl rfl zy) (wm (zi (jz (qm (qe (qj rfl) rfl) (qm (qe (q8 rfl) rfl) (qm (qe (q4 (.inr rfl)) rfl) (qm (qe (q4 (.inr rfl)) rfl) jy))))) (zi (jk (qe (qj rfl) rfl) (by simp)) (zi (jk (qe (zf rfl) rfl) (by simp)) ke)))))
  replace h:=qv hb h
  refine kr [] ?_
  obtain ⟨x3,hx,h⟩:=bind_some h
  have hp_x3:=ju hx (by simp)
  refine y3 (C:=Node.cells) env hx rfl (show _=AV.sl _ _ (List.map Node.cells [x1.1]) from (by simp only [Ay,AN,Node.cells_eq];rfl)) (by simp) Node.cells_len rfl rfl rfl rfl rfl (by decide) rfl rfl rfl ?_
  refine kr [] ?_
  obtain ⟨x4,hx,h⟩:=bind_some h
  refine ja env hx rfl rfl rfl rfl rfl ?_
  refine kr [] ?_
  obtain ⟨x5,hx,h⟩:=bind_some h
  have hp_x5:=ju hx (by simp)
  refine W7 (C:=sc) env hx rfl (.inl rfl) rfl (by simp) rfl rfl rfl rfl rfl (by decide) rfl rfl ?_
  refine kr [] ?_
  cases h
  exact jt env rfl rfl (tS [none] (yv rfl rfl zy) (wm (zi (jz (qm (qe (qj rfl) rfl) (qm (qe (q8 rfl) rfl) (qm (qe (z8 yx rfl) rfl) (qm (qe (z8 zo rfl) rfl) jy))))) (zi (jk (qe (qj rfl) rfl) (by simp)) (zi (jk (qe (zf rfl) rfl) (by simp)) ke)))))
 replace h:=qu hb h
 refine kr [] ?_
 cases h
 exact jt env rfl rfl (tS [none] (yv rfl rfl zy) (wm (zi (jz (qm (qe (qj rfl) rfl) (qm (qe (q8 rfl) rfl) (qm (qe (q4 (.inr rfl)) rfl) (qm (qe (q4 (.inr rfl)) rfl) jy))))) (zi (jk (qe (qj rfl) rfl) (by simp)) (zi (jk (qe (zf rfl) rfl) (by simp)) ke)))))
def J5 (t8:Int) (o3_0:Int) (o3_1:BA) (o3_2:LB) (o3_3:LN) (o4:Node):Option (Node × Int × Bool):=
 app 72 o3_3 ([o4]) >>=fun x38=>
 some ((Node.mk o3_0 o3_1 o3_2 x38),t8,true)
@[reducible] def qn8 (t8:Int) (o3_0:Int) (o3_1:BA) (o3_2:LB) (o3_3:LN) (o4:Node) (r:Node × Int × Bool):Prop:=
  Ok Tryz.prog G tt 74 0 (Ret Tryz.prog [.cell 4 45, .tmp 5, .tmp 6] (fun y H=>Told Tryz.prog G H y (.tup [(.agg (zl r.1)),(.int .i64 r.2.1),(.bool r.2.2)]))) (.go [] (vf [36] Tryz.f185 36) [] (.n .undef (.n .undef (.n .undef (.n (.ptr 3 4 0) .z .z) .z) .z) (.n .undef (.n (.ptr 0 0 0) (.n (.int .i64 t8) .z .z) .z) (.n .undef (.n (.ptr 4 5 0) .z .z) .z))) 9 [(0, .var 45 [(.int .i64 0),(.str ⟨#[]⟩),(.sl 0 true []),(.sl 0 true [])]),(1, .dead),(3, .row 45 (o3_3.map Node.cells).flatten),(4, .var 45 [(.int .i64 o3_0),(.str o3_1),(.sl 1 false (o3_2.map sc)),(.bs 4 2 3 0 o3_3.length)]),(5, .var 45 (zl o4))])
end Go.Proofs.YtpnkemogepoioaaGreatDoorW.Ex.Gr
