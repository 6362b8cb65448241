/- The functions of the program's layer 9 and of its references, printed as functions on numbers, strings, lists and trees, with the proofs that they are what the code computes. Conditions: those in each theorem. -/
import Derived.Test.YtpnkemogepoioaaGreatDoorXLa
namespace Go.Proofs.YtpnkemogepoioaaGreatDoorW.Ex.Gr
open Go Go.Proofs.YtpnkemogepoioaaGreatDoorW.Ex
set_option linter.all false
set_option maxRecDepth 100000
set_option synthInstance.maxSize 4000
set_option maxHeartbeats 4000000
open Go.Proofs.YtpnkemogepoioaaGreatDoorW.Plain
def qd6 (a0:Reader):Option (Except Int (Node × Reader)):=
 Zz a0 >>=fun x1=>
 match x1 with
 | .error ee=>some (.error ee)
 | .ok x1=>
 some (.ok (x1.1,x1.2))
@[reducible] def qy5 (a0:Reader) (r:Except Int (Node × Reader)):Prop:=
  exq (fun (r:Node × Reader)=>AC Tryz.prog G 54 [(.ptr 0 0 0)] 1 [(0, .var 130 (Reader.cells a0))] (.agg (z7 r.1)) 1 [(0, .var 130 (Reader.cells r.2))]) (fun e=>FC Tryz.prog G 54 [(.ptr 0 0 0)] 1 [(0, .var 130 (Reader.cells a0))] (flt e)) r
theorem qq2:PC1 qy5 qd6:=fun a0 r h=>by
 rw [qd6.eq_def] at h
 refine W6 (T:=tt) (N:=5) (rs:= [.cell 2 45]) (fun vs w=>by simp) Tryz.func54 rfl rfl rfl (by kernel_rfl) (by kernel_rfl) (zm rfl rfl j3) (qj zg) (fun r=>(zn rfl j6)) (fun r=>(qj zg)) (fun _=>rfl) (fun _=>rfl) rfl (fun _=>rfl) ?_
 refine kr [] ?_
 obtain ⟨x1,hx,h⟩:=bind_some h
 rcases x1 with ee | x1
 ·replace h:some (.error ee)=some r:=h
  cases h
  exact zi (FC.go (qab _ _ hx) [0] [0] rfl rfl rfl rfl rfl rfl)
 refine qb (AC.g9 (qab _ _ hx) [0] [0]) ?_
 refine kr [] ?_
 cases h
 exact yp env rfl rfl (tS [some 0] (sV (lS (lS lN)) q8) (yf (kw (qi (qh (zo rfl) rfl) (qi (qh (z6 rfl) rfl) (qi (qh (y6 (.inl rfl)) rfl) (qi (qh (y6 (.inl rfl)) rfl) kv))))) (by simp)))
noncomputable def cfst:Code→Code
 | .seq x _=>x
 | c=>c
noncomputable def csnd:Code→Code
 | .seq _ y=>y
 | c=>c
noncomputable def cthen:Code→Code
 | .cond _ x _=>x
 | c=>c
theorem q8u (e:Int) (w:World):(Instr.typeAssert (.iface 127 (.int .i64 e)) 20 127 true).run Tryz.prog w= .ok (.tuple #[.int .i64 e, .bool true]) w:=by kernel_rfl
theorem q3t (x y z:Value) (w:World):CallsD Tryz.prog 79 #[x,y,z] .returning w fun e u' w'=>(∃v,e= .returned v)∧u'= .returning∧w'=w:=by
 refine callsD_of_wpS Tryz.func79 rfl fun c₀ cs hu=> ?_
 apply wpS_seq
 apply wpS_region
 simp [wpOpsS,go_sem,recoverD,hu,Tryz.ntmps79,Exit.thenS]
 apply wpS_seq
 apply wpS_region
 simp [wpOpsS,go_sem,Exit.thenS]
 refine wpS_cond (t:=false) (by simp [Act.eval,Array.replicate]) ?_
 simp only [AA,if_false]
 refine wpS_of_wp (wp_skip ?_)
 cases c₀
 simp_all [bodyPostS,results,Tryz.results79]
def qrv:List AV:= [.int .i64 0, .str ⟨#[]⟩, .sl 0 true [], .sl 0 true []]
def qo0 (e:Int):Objs:= [(0, .var 45 qrv),(1, .var 26 [.int .i64 1]),(2, .var 3 [.int .i64 e])]
noncomputable def rec5:Code:=csnd (csnd (cthen (csnd (csnd (qgm Tryz.f79)))))
theorem q3u (e c6:Int):Ok Tryz.prog G tt 19 3 (Wq (fun _ H=>H=⟨3,qo0 e⟩) (fun _ _ _=>False)) (.go [(0, .ptr 0 0 0),(1, .ptr 1 1 0),(2, .ptr 2 2 0),(4, .int .i64 e)] [.code rec5] [] .z 3 [(0, .var 45 qrv),(1, .var 26 [.int .i64 0]),(2, .var 3 [.int .i64 c6])]):=by
 refine kr [] ?_
 exact q09 rfl
theorem qyb {w:World} {S F:Nat→Prop} {β:Nat→Nat} (e c6:Int) (hH:HR G w S F β ⟨3, [(0, .var 45 qrv),(1, .var 26 [.int .i64 0]),(2, .var 3 [.int .i64 c6])]⟩):
 CallsD Tryz.prog 79 #[.pointer (some ⟨β 0,0,none⟩), .pointer (some ⟨β 1,0,none⟩), .pointer (some ⟨β 2,0,none⟩)] (.panicking (flt e)) w fun r u' w'=>
  (∃v,r= .returned v)∧settle u'= .returning∧∃S' β',Ext w S F β 3 w' S' β' 3∧HR G w' S' F β' ⟨3,qo0 e⟩:=by
 refine callsD_of_wpS Tryz.func79 rfl fun c₀ cs hu=> ?_
 have hA:=qli (N:=19) (by kernel_rfl) (q3u e c6)
 apply wpS_seq
 apply wpS_region
 simp [wpOpsS,go_sem,recoverD,hu,Tryz.ntmps79,Exit.thenS,flt]
 apply wpS_seq
 apply wpS_region
 simp [wpOpsS,go_sem,Exit.thenS]
 refine wpS_cond (t:=true) (by simp [Act.eval,Array.replicate]) ?_
 simp only [if_true]
 apply wpS_seq
 apply wpS_region
 simp [wpOpsS,go_sem,Exit.thenS,q8u]
 apply wpS_seq
 apply wpS_seq
 apply wpS_region
 simp [wpOpsS,go_sem,Exit.thenS]
 refine wpS_cond (t:=false) (by simp [Act.eval,Array.replicate]) ?_
 simp only [AA,if_false]
 refine wpS_of_wp (wp_skip ?_)
 show rec5.wpS Tryz.prog _ _ _ _
 refine wpS_of_wp (wp_mono (hA [] w S F β _ (Aj _) hH (FRx.of _ (by simp) rfl ?_)) ?_)
 ·intro q hq
  simp only [AE,Bw,or_false] at hq
  rcases hq with rfl | rfl | rfl | rfl
  ·simpa using RV.ptr (w:=w) (S:=S) (β:=β) 0 0 0 (by decide)
  ·simpa using RV.ptr (w:=w) (S:=S) (β:=β) 1 1 0 (by decide)
  ·simpa using RV.ptr (w:=w) (S:=S) (β:=β) 2 2 0 (by decide)
  simpa using RV.int .i64 e
 rintro x a' w' ⟨fr',H',S',β',q,hx,hp,hH',hf'⟩
 cases x with
 | normal=>
   cases (show H'=⟨3,qo0 e⟩ from q)
   exact ⟨hf'.defers,_,rfl, .tuple #[],by simp [results,Tryz.results79,go_sem],⟨_,rfl⟩,rfl,S',β',hx,hH'⟩
 | _=>exact q.elim
abbrev rds:List ResultVar:= [.cell 4 45, .cell 5 26, .cell 6 3]
noncomputable def rd0:Code:=cfst (qgm Tryz.f53)
noncomputable def rd1:Code:=cfst (csnd (qgm Tryz.f53))
noncomputable def rd2:Code:=cfst (csnd (csnd (qgm Tryz.f53)))
noncomputable def rd2a:Code:=cfst rd2
noncomputable def rd2b:Code:=csnd rd2
noncomputable def cops:Code→List Oper
 | .region _ l _=>l.toList
 | _=> []
noncomputable def rdL:List Oper:=cops (cfst (cthen rd2b))
theorem q8x:rd2= .seq rd2a (.cond (.tmp 16) (.seq (.region 3 rdL.toArray true) .ret) .skip):=by kernel_rfl
noncomputable def rd3:Code:=cfst (csnd (csnd (csnd (qgm Tryz.f53))))
noncomputable def rd4:Code:=csnd (csnd (csnd (csnd (qgm Tryz.f53))))
theorem q6o:Tryz.f53.body=some (.seq rd0 (.seq rd1 (.seq rd2 (.seq rd3 rd4)))):=by kernel_rfl
def rdX (x:Node × Int × Int):AV:= .tup [.agg (z7 x.1), .int .i64 x.2.1, .int .i64 x.2.2]
abbrev rdR (x:Node × Int × Int):Exit→Fr→Hp→Prop:=Ret Tryz.prog rds (fun z H=>Told Tryz.prog G H z (rdX x))
def rdO (e at_:Int):Objs:= [(0, .var 45 qrv),(1, .var 26 [.int .i64 e]),(2, .var 3 [.int .i64 at_])]
theorem qtq {n:Nat} {objs:Objs} (a b:Int):Told Tryz.prog G ⟨n,objs⟩ (.tup [.agg qrv, .int .i64 a, .int .i64 b]) (rdX (Node.mk 0 ⟨#[]⟩ [] [],a,b)):=
 Z6 (Yt (j8 (qhf (jk (zo rfl) (jk (z6 rfl) (jk (y6 (.inr rfl)) (jk (y6 (.inr rfl)) qe2))))) (j8 (uq (zo rfl) (by simp)) (j8 (uq (zo rfl) (by simp)) Jk))))
theorem q11 (e:Int):rdR (Node.mk 0 ⟨#[]⟩ [] [],1,e) .normal (puts [(4, .ptr 0 0 0),(5, .ptr 1 1 0),(6, .ptr 2 2 0)] (frT .z)) ⟨3,qo0 e⟩:=by
 have h:Ok Tryz.prog G tt 32 0 (rdR (Node.mk 0 ⟨#[]⟩ [] [],1,e)) (.go [(4, .ptr 0 0 0),(5, .ptr 1 1 0),(6, .ptr 2 2 0)] [] [] .z 3 (qo0 e)):=by
  refine kr [] ?_
  exact jh env rfl (qtq 1 e)
 unfold Ok at h
 exact h rfl
theorem q3x (e at_:Int):AWp Tryz.prog G 32 0 (.seq (.region 3 rdL.toArray true) .ret) (fun x fr H=>x= .ret∧rdR (Node.mk 0 ⟨#[]⟩ [] [],e,at_) .ret fr H) (puts [(4, .ptr 0 0 0),(5, .ptr 1 1 0),(6, .ptr 2 2 0)] (frT .z)) ⟨3,rdO e at_⟩:=by
 have h:anyS tt G rdL.toArray (fun fr _ objs=>qkp tt fr objs rds qi6) [(4, .ptr 0 0 0),(5, .ptr 1 1 0),(6, .ptr 2 2 0)] .z 3 (rdO e at_)=some (List.replicate 15 (.tup [.agg qrv, .int .i64 e, .int .i64 at_])):=by kernel_rfl
 refine qu2 (q7w env (by kernel_rfl) h (fun z hz fr n objs hl=>Wb (q1c ⟨rfl,?_⟩)))
 obtain rfl:=List.eq_of_mem_replicate hz
 have h:=yp (P:=Tryz.prog) (G:=G) (N:=32) (p:=0) (n:=n) (k:= []) (K:=fun z H=>Told Tryz.prog G H z (rdX (Node.mk 0 ⟨#[]⟩ [] [],e,at_))) env rfl hl (qtq _ _)
 unfold Ok at h
 exact h rfl
def qzq (w:World) (S F:Nat→Prop) (β:Nat→Nat) (x:Node × Int × Int) (e:Ending) (w':World):Prop:=
 ∃v,e= .returned v∧∃S' β',Ext w S F β 0 w' S' β' 0∧HR G w' S' F β' ⟨0, []⟩∧RV w' S' β' 0 (rdX x) v
theorem q3y (x:Node × Int × Int):Pure (rdX x):= .tup _ (by
 intro y hy
 simp only [AE,Bw,or_false] at hy
 rcases hy with rfl | rfl | rfl
 ·exact .agg _ (by
   intro z hz
   simp only [AE,Bw,or_false] at hz
   rcases hz with rfl | rfl | rfl | rfl <;> constructor)
 ·constructor
 constructor)
theorem qyc {w w':World} {S F S':Nat→Prop} {β β':Nat→Nat} {D:List Deferred} {fr:Fr} {H:Hp} {a:Act} {x:Node × Int × Int} (q:rdR x .normal fr H) (hx:Ext w S F β 0 w' S' β' 0) (hH:HR G w' S' F β' H) (hf:FRx D w' S' β' H.n 32 fr a) (hG:HR G w S F β ⟨0, []⟩):
 Leaves Tryz.prog Tryz.f53 a.tmps (qzq w S F β x) [] .returning w':=by
 obtain ⟨z,hz,ht⟩:=q
 unfold Told at ht
 obtain ⟨v,hrun,hR⟩:=qjn (P:=Tryz.prog) (fn:=Tryz.f53) hH hf (show Zm _ Tryz.f53.results.toList fr H=some z from hz)
 obtain ⟨S2,hx2,hl,hR2⟩:=ht w' S' F β' v hH hR
 exact ⟨v,hrun,v,rfl,S2,β',hx.trans hx2,⟨hl,fun k hk=>AU (hG.ltf k hk) (hx.trans hx2).size,fun g=>(hG.glob g).ext (hx.trans hx2),by simp,by simp,by simp⟩,hR2.pure (q3y x)⟩
theorem qtr {w:World} {S:Nat→Prop} {β:Nat→Nat} {n i s:Nat} {v:Value} (h:RV w S β n (.ptr i s 0) v):v= .pointer (some ⟨β s,0,none⟩):=by
 cases h;rfl
def qa8 (s:BA):Option (Node × Int × Int):=
 J4 s >>=fun t=>
 if (!decide (t.2.1=(0:Int)))=true then some (Node.mk 0 ⟨#[]⟩ [] [],t.2.1,t.2.2)
 else qd6 ⟨t.1,0⟩ >>=fun x=>match x with
  | .error e=>some (Node.mk 0 ⟨#[]⟩ [] [],1,e)
  | .ok x=>u0 x.1 >>=fun c=>if (decide (c=(3:Int)))=true then some (Node.mk 0 ⟨#[]⟩ [] [],3,0) else some (x.1,0,0)
def Qc (t:List Token × Int × Int) (fr:Fr) (H:Hp):Prop:=(fr 1= .fn 54 []∧fr 4= .ptr 0 0 0∧fr 5= .ptr 1 1 0∧fr 6= .ptr 2 2 0∧fr 7= .sl 4 false (t.1.map Token.cells))∧H=⟨3,rdO t.2.1 t.2.2⟩
theorem qm0 (s:BA) (t:List Token × Int × Int) (ht:J4 s=some t) (x:Node × Int × Int):
 Ok Tryz.prog G tt 32 0 (Wq (fun fr H=>fr 16= .bool (!decide (t.2.1=(0:Int)))∧Qc t fr H) (rdR x)) (.go (qjb 0 [.str s, .fn 54 []]) [.code rd0, .code rd1, .code rd2a] [] .z 0 []):=by
 refine kr [] ?_
 refine qn (qmt _ _ ht) ?_
 refine kr [] ?_
 exact q09 ⟨rfl,⟨rfl,rfl,rfl,rfl,rfl⟩,rfl⟩
theorem qmz (t:List Token × Int × Int) (x:Node × Int × Int) (hx:(!decide (t.2.1=(0:Int)))=true→x=(Node.mk 0 ⟨#[]⟩ [] [],t.2.1,t.2.2)) (fr:Fr) (H:Hp)
 (h:AWp Tryz.prog G 32 0 rd2a (Wq (fun fr H=>fr 16= .bool (!decide (t.2.1=(0:Int)))∧Qc t fr H) (rdR x)) fr H):AWp Tryz.prog G 32 0 rd2 (Wq (fun fr H=>(!decide (t.2.1=(0:Int)))=false∧Qc t fr H) (rdR x)) fr H:=by
 rw [q8x]
 refine qu2 (h.mono ?_)
 intro e fr H q
 cases e with
 | normal=>
   obtain ⟨hc,hk⟩:=(show _∧_ from q)
   refine Wb (qlw hc (fun hb=> ?_) (fun hb=>qxm (Wb ⟨hb,hk⟩)))
   obtain ⟨⟨g1,g4,g5,g6,g7⟩,rfl⟩:=hk
   cases hx hb
   refine (qid (q2b [(4, .ptr 0 0 0),(5, .ptr 1 1 0),(6, .ptr 2 2 0)] (by simp [g4,g5,g6])) (q3x t.2.1 t.2.2)).mono ?_
   rintro e fr H ⟨rfl,q⟩
   exact q
 | _=>exact q
theorem qmg (l:List Token) (e:Int) (h:qd6 ⟨l,0⟩=some (.error e)):
 Ok Tryz.prog G tt 32 3 (fun e' fr _=>e'= .panic (flt e)∧fr 4= .ptr 0 0 0∧fr 5= .ptr 1 1 0∧fr 6= .ptr 2 2 0) (.go [(1, .fn 54 []),(4, .ptr 0 0 0),(5, .ptr 1 1 0),(6, .ptr 2 2 0),(7, .sl 4 false (l.map Token.cells))] [.code rd4] [] .z 3 []):=by
 refine kr [] ?_
 exact q2t (FC.go (qq2 _ _ h) [0] [3] rfl rfl rfl rfl rfl rfl) ⟨rfl,rfl,rfl,rfl⟩
theorem qms (l:List Token) (e at_:Int) (r:Node × Reader) (h:qd6 ⟨l,0⟩=some (.ok r)) (c:Int) (hc:u0 r.1=some c) (x:Node × Int × Int) (hx:(if (decide (c=(3:Int)))=true then some (Node.mk 0 ⟨#[]⟩ [] [],3,0) else some (r.1,0,0))=some x):
 Ok Tryz.prog G tt 32 0 (rdR x) (.go [(1, .fn 54 []),(4, .ptr 0 0 0),(5, .ptr 1 1 0),(6, .ptr 2 2 0),(7, .sl 4 false (l.map Token.cells))] [.code rd4] [] .z 3 (rdO e at_)):=by
 refine kr [] ?_
 refine qb (AC.g9 (qq2 _ _ h) [3] [3]) ?_
 refine kr [] ?_
 refine qn (qek _ _ hc) ?_
 refine kr [] ?_
 refine qe (fun hb=> ?_) (fun hb=> ?_)
 ·rw [if_pos hb] at hx
  cases hx
  refine kr [] ?_
  exact yp env rfl rfl (qtq _ _)
 rw [if_neg (by rw [hb];decide)] at hx
 cases hx
 refine kr [] ?_
 exact yp env rfl rfl (zl rfl)
theorem qmy (s:BA) (x:Node × Int × Int) (h:qa8 s=some x):ACalls Tryz.prog G 53 [.str s, .fn 54 []] ⟨0, []⟩ (rdX x) ⟨0, []⟩:=by
 obtain ⟨t,ht,h⟩:=bind_some h
 intro w S F β vs hH hv
 rw [show (callFunc 53 vs).run Tryz.prog w= .ok (.enter 53 vs) w by simp]
 show Calls Tryz.prog 53 vs w (qzq w S F β x)
 refine calls_of_wp_defers Tryz.func53 q6o ?_
 have hA:=qli (N:=32) (by kernel_rfl) (qm0 s t ht x)
 rw [qef] at hA
 have hf:=qlb (N:=32) hv (Ao rfl)
 have fin:∀(e:Exit) (fr':Fr) (H':Hp) (w':World) (S':Nat→Prop) (β':Nat→Nat) (a':Act),rdR x e fr' H'→Ext w S F β 0 w' S' β' 0→HR G w' S' F β' H'→FRx [] w' S' β' H'.n 32 fr' a'→bodyPostD Tryz.prog Tryz.f53 (qzq w S F β x) e a' w':=by
  intro e fr' H' w' S' β' a' q hx hH' hf'
  have hl:=fun q=>qyc (x:=x) q hx hH' hf' hH
  cases e <;> first
   | exact q.elim
   | (show Leaves _ _ _ _ a'.defers _ _;rw [hf'.defers];exact hl q)
 refine qoa hA (AD _) hH hf (fun fr1 H1 w1 S1 β1 a1 q1 hx1 _ hH1 hf1=> ?_) (fun e fr' H' w' S' β' a' he q hx _ hH' hf'=>fin e fr' H' w' S' β' a' (qm1 he (q96 he q)) hx hH' hf')
 refine qoa q1 (AD _) hH1 hf1 (fun fr2 H2 w2 S2 β2 a2 q2 hx2 _ hH2 hf2=> ?_) (fun e fr' H' w' S' β' a' he q hx _ hH' hf'=>fin e fr' H' w' S' β' a' (qm1 he q) (hx1.trans hx) hH' hf')
 refine qoa (qmz t x (fun hb=>by rw [if_pos hb] at h;cases h;rfl) fr2 H2 q2) (AD _) hH2 hf2 (fun fr3 H3 w3 S3 β3 a3 q3 hx3 _ hH3 hf3=> ?_) (fun e fr' H' w' S' β' a' he q hx _ hH' hf'=>fin e fr' H' w' S' β' a' q ((hx1.trans hx2).trans hx) hH' hf')
 obtain ⟨hb,⟨g1,g4,g5,g6,g7⟩,rfl⟩:=(show _∧_∧_ from q3)
 have hx0:=(hx1.trans hx2).trans hx3
 rw [if_neg (by rw [hb];decide)] at h
 obtain ⟨r,hr,h⟩:=bind_some h
 refine wp_seq ?_
 refine qtp (u:=20) (f:=79) (cs:= #[.tmp 4, .tmp 5, .tmp 6]) (by rw [hf3.size];decide) ?_
 have e4:=qtr (g4 ▸ hf3.val 4)
 have e5:=qtr (g5 ▸ hf3.val 5)
 have e6:=qtr (g6 ▸ hf3.val 6)
 have hcs:(#[Operand.tmp 4, .tmp 5, .tmp 6]:Array Operand).map a3.eval= #[.pointer (some ⟨β3 0,0,none⟩), .pointer (some ⟨β3 1,0,none⟩), .pointer (some ⟨β3 2,0,none⟩)]:=by
  simp [Act.eval,e4,e5,e6]
 rw [hcs]
 have hf3':=hf3.put (d:=some 20) rfl (RV.undef (w:=w3) (S:=S3) (β:=β3) (n:=3) (.func (.func 79) #[] #[.pointer (some ⟨β3 0,0,none⟩), .pointer (some ⟨β3 1,0,none⟩), .pointer (some ⟨β3 2,0,none⟩)]))
 have hq:=hf3'.some [(1, .fn 54 []),(4, .ptr 0 0 0),(5, .ptr 1 1 0),(6, .ptr 2 2 0),(7, .sl 4 false (t.1.map Token.cells))] (by simp [ur,g1,g4,g5,g6,g7])
 generalize hd:a3.defers=d3 at*
 have hd3:d3= []:=by rw [←hd];exact hf3.defers
 subst hd3
 have hf4:=FRx.of (a:=⟨a3.tmps.setIfInBounds 20 (.func (.func 79) #[] #[.pointer (some ⟨β3 0,0,none⟩), .pointer (some ⟨β3 1,0,none⟩), .pointer (some ⟨β3 2,0,none⟩)]), [{target:= .fn (.func 79) #[.pointer (some ⟨β3 0,0,none⟩), .pointer (some ⟨β3 1,0,none⟩), .pointer (some ⟨β3 2,0,none⟩)],args:= #[]}]⟩) _ hf3'.size rfl hq
 show rd4.wp _ _ _ _
 cases r with
 | error e=>
   cases h
   have hB:=qli (N:=32) (by kernel_rfl) (qmg t.1 e hr)
   refine wp_mono (hB _ w3 S3 _ β3 _ (Aj _) hH3.hide hf4) ?_
   rintro e' a' w' ⟨fr',H',S',β',⟨rfl,k4,k5,k6⟩,hx,hp,hH',hf'⟩
   obtain ⟨hx',hH''⟩:=hH3.unhide hx hH'.lts
   show Leaves _ _ _ _ a'.defers _ _
   rw [hf'.defers]
   refine leaves_cons (f:=79) (args:= #[.pointer (some ⟨β3 0,0,none⟩), .pointer (some ⟨β3 1,0,none⟩), .pointer (some ⟨β3 2,0,none⟩)]) (by simp) (by simp [go_sem]) ?_
   have hc:=qyb e t.2.2 (show HR G w' S' F β' ⟨3,rdO 0 t.2.2⟩ by
    have h0:t.2.1=0:=by simpa using hb
    rw [←h0];exact hH'')
   rw [hx'.beta 0 (show 0 < 3 by decide),hx'.beta 1 (show 1 < 3 by decide),hx'.beta 2 (show 2 < 3 by decide)] at hc
   refine hc.mono ?_
   rintro r u' w'' ⟨⟨v,rfl⟩,hs,S'',β'',hx'',hH3''⟩
   show Leaves _ _ _ _ [] (settle u') w''
   rw [hs]
   refine qyc (D:=a'.defers) (a:=a') (q11 e) (hx0.trans ((hx'.trans hx'').lower (AD _))) hH3'' (FRx.of _ hf'.size rfl ?_) hH
   intro q hm
   simp only [AE,Bw,or_false] at hm
   have hv:∀(i s:Nat) (t:Nat),s < 3→fr' t= .ptr i s 0→RV w'' S'' β'' 3 (.ptr i s 0) (a'.tmps.getD t Go.undef):=fun i s t hs3 ht=>by
    have h1:=hf'.val t
    rw [ht] at h1
    rw [qtr h1,←hx''.beta s hs3]
    exact .ptr i s 0 hs3
   rcases hm with rfl | rfl | rfl
   ·exact hv _ _ _ (by decide) k4
   ·exact hv _ _ _ (by decide) k5
   exact hv _ _ _ (by decide) k6
 | ok r=>
   obtain ⟨c,hc,h⟩:=bind_some h
   have hB:=qli (N:=32) (by kernel_rfl) (qms t.1 t.2.1 t.2.2 r hr c hc x h)
   refine wp_mono (hB _ w3 S3 F β3 _ (AD _) hH3 hf4) ?_
   rintro e' a' w' ⟨fr',H',S',β',q,hx,hp,hH',hf'⟩
   have hl:rdR x .normal fr' H'→Leaves Tryz.prog Tryz.f53 a'.tmps (qzq w S F β x) a'.defers .returning w':=fun q=>by
    rw [hf'.defers]
    refine leaves_cons (f:=79) (args:= #[.pointer (some ⟨β3 0,0,none⟩), .pointer (some ⟨β3 1,0,none⟩), .pointer (some ⟨β3 2,0,none⟩)]) (by simp) (by simp [go_sem]) ?_
    refine (q3t _ _ _ w').mono ?_
    rintro r u' w'' ⟨⟨v,rfl⟩,rfl,rfl⟩
    exact qyc q (hx0.trans hx) hH' hf' hH
   cases e' <;> first
    | exact q.elim
    | exact hl q
theorem qmv:PC1 (fun (s:BA) (x:Node × Int × Int)=>AC Tryz.prog G 53 [.str s, .fn 54 []] 0 [] (.tup [.agg (z7 x.1), .int .i64 x.2.1, .int .i64 x.2.2]) 0 []) qa8:=fun s x h=>AC.plain (qmy s x h) rfl rfl
def K8 (a0:BA):Option (Node × Int × Int):=
 qa8 a0 >>=fun x1=>
 some (x1.1,x1.2.1,x1.2.2)
@[reducible] def qqv (a0:BA) (r:Node × Int × Int):Prop:=
  Fn Tryz.prog G 29 [(.str a0)] (.tup [(.agg (z7 r.1)),(.int .i64 r.2.1),(.int .i64 r.2.2)])
theorem qh8:PC1 qqv K8:=fun a0 r h=>by
 rw [K8.eq_def] at h
 refine z8 (T:=tt) (N:=10) (rs:= [.cell 2 45, .tmp 3, .tmp 4]) (fun vs w=>by simp) Tryz.func29 rfl rfl rfl rfl (by kernel_rfl) (yk rfl) (zt _ rfl) ?_
 refine kr [] ?_
 obtain ⟨x1,hx,h⟩:=bind_some h
 refine qb (AC.g9 (qmv _ _ hx) [] []) ?_
 refine kr [] ?_
 cases h
 exact kf
def um (a0:(List File)) (t5:(List Unit)):Option ((List Unit) × Int):=
 match a0 with
 | []=>
   some (t5,(0:Int))
 | x_0::a0=>
   K8 x_0.Text >>=fun x2=>
   app 112 t5 ([(Unit.mk x_0.Path x_0.Text x2.1 (!decide (x2.2.1=(0:Int))))]) >>=fun x3=>
   um (qa a0) (qa x3)
 partial_fixpoint
@[reducible] def qc0 (a0:(List File)) (t5:(List Unit)) (r:(List Unit) × Int):Prop:=
  ∀(l0:List File) (j0:Nat),l0.drop j0=a0→j0≤l0.length→l0.length≤9223372036854775807→Ok Tryz.prog G tt 42 0 (Ret Tryz.prog [.tmp 2, .tmp 3] (fun y H=>Told Tryz.prog G H y (.tup [(.sl 7 false (r.1.map Unit.cells)),(.int .i64 r.2)]))) (.again (ju [] Tryz.f10 0).1 (ju [] Tryz.f10 0).2 (.n .undef (.n .undef .z (.n (.bs 7 0 0 0 t5.length) (.n .undef (.n (.int .i64 ((l0.map File.cells).length:Int)) .z .z) .z) .z)) (.n .undef (.n .undef (.n .undef (.n (.sl 2 false (l0.map File.cells)) .z .z) .z) .z) (.n .undef (.n .undef (.n (.int .i64 ((j0:Nat):Int)) .z .z) .z) .z))) 1 [(0, .row 48 (t5.map Unit.cells).flatten)])
theorem Wj:PC2 qc0 um:=by
 refine um.partial_correctness qc0 (fun um Wj a0 t5 r h=> ?_)
 unfold qa at h
 intro l0 j0 hl0 hj0 hm0
 refine yb ?_
 cases a0 with
 | nil=>
   have hb:=Z7 (C:=File.cells) hl0 hj0
   refine kr [] ?_
   refine qz hb ?_
   refine kr [] ?_
   cases h
   exact yg env rfl rfl (Z6 (Yt (j8 (uq (jm qaw rfl) (by simp)) (j8 (uq (zo rfl) (by simp)) Jk))))
 | cons x_0 a0=>
   obtain ⟨hb,hx0,hd0,hk0,hw0⟩:=Qv (C:=File.cells) hl0 hm0
   refine kr [] ?_
   refine qy hb ?_
   refine kr [] ?_
   refine qay env rfl rfl rfl rfl (m:=j0) rfl (qak hx0 rfl) ?_
   refine kr [] ?_
   obtain ⟨x2,hx,h⟩:=bind_some h
   refine qn (qh8 _ _ hx) ?_
   refine kr [] ?_
   obtain ⟨x3,hx,h⟩:=bind_some h
   have hp_x3:=qav hx (by simp)
   refine qbv (C:=Unit.cells) env hx rfl rfl (by simp) (fun _=>rfl) rfl rfl rfl rfl rfl (by decide) rfl rfl rfl ?_
   refine kr [] ?_
   exact ja (by kernel_rfl) (qc3 (by simp only [hw0];simp <;> (repeat' apply Bd) <;> first | rfl | exact fun x a _ h=>(qaw.all a x h).2) (by simp <;> (repeat' apply Bd) <;> first | rfl | exact fun x a _ h=>(qaw.all a x h).2)) (Wj _ _ _ h l0 (j0+1) hd0 hk0 hm0)
def Zu (a0:(List File)):Option ((List Unit) × Int):=
 Q2 a0 >>=fun x1=>
 if (!decide (x1=(0:Int)))=true then
  some (([]:(List Unit)),x1)
 else
  um a0 ([]:List Unit)
@[reducible] def qmo (a0:(List File)) (r:(List Unit) × Int):Prop:=
  Fn Tryz.prog G 10 [(.sl 2 false (a0.map File.cells))] (.tup [(.sl 7 false (r.1.map Unit.cells)),(.int .i64 r.2)])
theorem qfw:PC1 qmo Zu:=fun a0 r h=>by
 rw [Zu.eq_def] at h
 refine z8 (T:=tt) (N:=42) (rs:= [.tmp 2, .tmp 3]) (fun vs w=>by simp) Tryz.func10 rfl rfl rfl rfl (by kernel_rfl) (yk rfl) (zt _ rfl) ?_
 refine kr [] ?_
 obtain ⟨x1,hx,h⟩:=bind_some h
 refine qn (qa3 _ _ hx) ?_
 refine kr [] ?_
 refine qe (fun hb=> ?_) (fun hb=> ?_)
 ·replace h:=ql hb h
  refine kr [] ?_
  cases h
  exact yg env rfl rfl (Z6 (Yt (j8 (uq (y6 (.inr rfl)) (by simp)) (j8 (uq (zo rfl) (by simp)) Jk))))
 replace h:=qm hb h
 refine kr [] ?_
 refine quu 5 _ 7 48 rfl rfl ?_
 refine Wv 16 rfl (fun hm=> ?_)
 exact jr (by kernel_rfl) lA (Wj _ _ _ h a0 0 rfl (AD _) (Qw hm))
mutual
def vl (a0:(List Row)) (a1:Node) (a2:Int):Option ((List Row)):=
 Qm a1.gaps >>=fun x4=>
 app 80 a0 ([(Row.mk a2 a1.kind a1.text x4 ([]:(List Int)))]) >>=fun x5=>
 if (decide (((a1.kids.map Node.cells).length:Int)=(0:Int)))=true then
  some x5
 else
  mkz 8 ((a1.kids.map Node.cells).length:Int) (0:Int) >>=fun x6=>
  ue a1.kids 0 (qa x5) (a0.length:Int) (qa x6)
 partial_fixpoint
def ue (a0:LN) (j0:Nat) (t0:(List Row)) (t7:Int) (t8:(List Int)):Option ((List Row)):=
 match a0 with
 | []=>
   ix t0 t7 >>=fun x10=>
   some (t0.set t7.toNat (Row.mk x10.Parent x10.Kind x10.Text x10.Gaps t8))
 | x_0::a0=>
   ix t8 ((j0:Nat):Int) >>=fun x11=>
   vl (qa t0) (qa x_0) (qa t7) >>=fun x12=>
   ue (qa a0) (j0+1) (qa x12) (qa t7) (t8.set ((j0:Nat):Int).toNat (t0.length:Int))
 partial_fixpoint
end
@[reducible] def qcl (a0:(List Row)) (a1:Node) (a2:Int) (r:(List Row)):Prop:=
  AC Tryz.prog G 59 [(.bs 5 0 0 0 a0.length),(.agg (z7 a1)),(.int .i64 a2)] 2 [(0, .row 69 (a0.map Row.cells).flatten),(1, .row 69 [])] (.bs 5 1 2 0 r.length) 3 [(0, .row 69 []),(2, .row 69 (r.map Row.cells).flatten)]
@[reducible] def Wz (a0:LN) (j0:Nat) (t0:(List Row)) (t7:Int) (t8:(List Int)) (r:(List Row)):Prop:=
  ∀(l0:LN),l0.drop j0=a0→j0≤l0.length→l0.length≤9223372036854775807→Ok Tryz.prog G tt 58 2 (Ret Tryz.prog [.tmp 6] (fun y H=>vj Tryz.prog G 2 H y (.bs 5 1 2 0 r.length) ⟨3, [(0, .row 69 []),(2, .row 69 (r.map Row.cells).flatten)]⟩)) (.again (ju [1000000,2000002] Tryz.f59 0).1 (ju [1000000,2000002] Tryz.f59 0).2 (.n (.bs 5 0 5 0 t0.length) (.n .undef (.n .undef (.n (.int .i64 t7) .z .z) (.n .undef (.n .undef (.n (.sl 4 false (l0.map Node.cells)) .z .z) .z) .z)) (.n .undef .z (.n .undef (.n .undef (.n (.int .i64 ((j0:Nat):Int)) .z .z) .z) .z))) (.n .undef (.n .undef (.n (.bs 1 3 4 0 t8.length) .z .z) (.n .undef (.n .undef (.n (.int .i64 ((l0.map Node.cells).length:Int)) .z .z) .z) .z)) .z)) 6 [(5, .row 69 (t0.map Row.cells).flatten),(1, .dead),(2, .dead),(4, .row 3 (t8.map ic).flatten)])
theorem qem:PC3 qcl vl∧PC5 Wz ue:=by
 refine vl.mutual_partial_correctness qcl Wz (fun ue Yh a0 a1 a2 r h=> ?_) (fun vl ue qcq Yh a0 j0 t0 t7 t8 r h=> ?_)
 ·unfold qa at h
  refine ⟨?_,(jn Q8 rfl (q0i rfl j3)),(za Q8 (qn7 zg)),(qzf (jt Q8 j6)),(qn7 (za Q8 zg)),rfl,rfl,rfl,rfl⟩
  refine ku (T:=tt) (N:=58) (rs:= [.tmp 6]) (fun vs w=>by simp) Tryz.func59 rfl rfl rfl (by kernel_rfl) (by kernel_rfl) ?_
  refine kr [1000000,2000002] ?_
  obtain ⟨x4,hx,h⟩:=bind_some h
  refine qn (qh4 _ _ hx) ?_
  refine kr [1000000,2000002] ?_
  obtain ⟨x5,hx,h⟩:=bind_some h
  have hp_x5:=qav hx (by simp)
  have hr_x5:=hx
  refine qxk (C:=Row.cells) env hx rfl rfl rfl (by simp) (fun _=>rfl) rfl rfl rfl rfl rfl (by decide) rfl rfl rfl ?_
  refine kr [1000000,2000002] ?_
  refine q07 0 3 69 (cs':=(x5.map Row.cells).flatten) rfl rfl (qvg hr_x5 (Wl (Q4 _) (Wl (Q4 _) (Wl (Q4 _) (Wl (Q4 _) (Wl (qtc (.inr rfl)) qza)))))) ?_
  refine qdh ?_
  refine kr [1000000,2000002] ?_
  refine qe (fun hb=> ?_) (fun hb=> ?_)
  ·replace h:=ql hb h
   refine kr [1000000,2000002] ?_
   cases h
   exact yp env rfl rfl (tS [none,some 0] (qhl rfl rfl (sR Q8 q8)) (yf (Yl (qv4 rfl rfl rfl) (by simp)) (by simp)))
  replace h:=qm hb h
  refine kr [1000000,2000002] ?_
  obtain ⟨x6,hx,h⟩:=bind_some h
  refine q51 (C:=ic) env hx rfl rfl rfl rfl rfl rfl rfl rfl rfl rfl ?_
  refine kr [1000000,2000002] ?_
  refine Wv 35 rfl (fun hm=> ?_)
  exact jr (by kernel_rfl) lQ (Yh _ _ _ _ _ _ h a1.kids rfl (AD _) (Qw hm))
 unfold qa at h
 intro l0 hl0 hj0 hm0
 refine yb ?_
 cases a0 with
 | nil=>
   have hb:=Z7 (C:=Node.cells) hl0 hj0
   refine kr [1000000,2000002] ?_
   refine qz hb ?_
   refine kr [1000000,2000002] ?_
   refine qxi [(8,(.sl 1 false (t8.map ic)))] [3] rfl (qry qcw rfl rfl rfl qvk) rfl rfl ?_
   refine qdh ?_
   refine kr [1000000,2000002] ?_
   obtain ⟨x10,hx,h⟩:=bind_some h
   have he_x10:=hx
   refine qj9 env rfl rfl rfl rfl (q0c hx) (qwk hx) ?_
   refine kr [1000000,2000002] ?_
   refine qgo (x':=(Row.mk x10.Parent x10.Kind x10.Text x10.Gaps t8)) (fo:=4) he_x10 Q8 rfl rfl rfl rfl rfl rfl rfl ?_
   refine kr [1000000,2000002] ?_
   cases h
   exact yp env rfl rfl (tS [none,some 0] (qhl rfl rfl (sR Q8 q8)) (yf (Yl (qv4 rfl (by simp) rfl) (by simp)) (by simp)))
 | cons x_0 a0=>
   obtain ⟨hb,hx0,hd0,hk0,hw0⟩:=Qv (C:=Node.cells) hl0 hm0
   refine kr [1000000,2000002] ?_
   refine qy hb ?_
   refine kr [1000000,2000002] ?_
   refine qay env rfl rfl rfl rfl (m:=j0) rfl (qak hx0 (Node.cells_eq x_0)) ?_
   refine kr [1000000,2000002] ?_
   obtain ⟨x11,hx,h⟩:=bind_some h
   have he_x11:=hx
   refine qj9 env rfl rfl rfl rfl (q0c hx) (qwk hx) ?_
   refine kr [1000000,2000002] ?_
   refine qgo (x':=(t0.length:Int)) (fo:=0) he_x11 qcw rfl rfl rfl rfl rfl rfl rfl ?_
   refine kr [1000000,2000002] ?_
   obtain ⟨x12,hx,h⟩:=bind_some h
   refine qb (ACalls.ghost (e:=69) (AC.g9 (qcq _ _ _ _ hx) [0,5] [5,7])) ?_
   refine kr [1000000,2000002] ?_
   exact ja (by kernel_rfl) (qsi [some 5,none,none,some 3] rfl rfl rfl (by simp only [hw0];simp <;> (repeat' apply Bd) <;> first | rfl | exact fun x a _ h=>(Q8.all a x h).2 | exact fun x a _ h=>(qcw.all a x h).2) (qf5 Q8 rfl rfl (ql5 rfl (ql5 rfl (qf5 qcw rfl rfl qox))))) (Yh _ _ _ _ _ _ h l0 hd0 hk0 hm0)
theorem qcq:PC3 qcl vl:=qem.1
theorem Yh:PC5 Wz ue:=qem.2
def uf (a0:LN) (j0:Nat) (t0:(List Row)) (t7:Int) (t8:(List Int)):Option ((List Row)):=
 match a0 with
 | []=>
   ix t0 t7 >>=fun x7=>
   some (t0.set t7.toNat (Row.mk x7.Parent x7.Kind x7.Text x7.Gaps t8))
 | x_0::a0=>
   ix t8 ((j0:Nat):Int) >>=fun x8=>
   vl (qa t0) (qa x_0) (qa t7) >>=fun x9=>
   uf (qa a0) (j0+1) (qa x9) (qa t7) (t8.set ((j0:Nat):Int).toNat (t0.length:Int))
 partial_fixpoint
@[reducible] def qdz (a0:LN) (j0:Nat) (t0:(List Row)) (t7:Int) (t8:(List Int)) (r:(List Row)):Prop:=
  ∀(l0:LN),l0.drop j0=a0→j0≤l0.length→l0.length≤9223372036854775807→Ok Tryz.prog G tt 58 1 (Ret Tryz.prog [.tmp 6] (fun y H=>vj Tryz.prog G 1 H y (.sl 5 false (r.map Row.cells)) ⟨1, [(0, .row 69 [])]⟩)) (.again (ju [1000000,2000002] Tryz.f59 0).1 (ju [1000000,2000002] Tryz.f59 0).2 (.n (.bs 5 0 4 0 t0.length) (.n .undef (.n .undef (.n (.int .i64 t7) .z .z) (.n .undef (.n .undef (.n (.sl 4 false (l0.map Node.cells)) .z .z) .z) .z)) (.n .undef .z (.n .undef (.n .undef (.n (.int .i64 ((j0:Nat):Int)) .z .z) .z) .z))) (.n .undef (.n .undef (.n (.bs 1 2 3 0 t8.length) .z .z) (.n .undef (.n .undef (.n (.int .i64 ((l0.map Node.cells).length:Int)) .z .z) .z) .z)) .z)) 5 [(4, .row 69 (t0.map Row.cells).flatten),(1, .dead),(3, .row 3 (t8.map ic).flatten)])
theorem W2:PC5 qdz uf:=by
 refine uf.partial_correctness qdz (fun uf W2 a0 j0 t0 t7 t8 r h=> ?_)
 unfold qa at h
 intro l0 hl0 hj0 hm0
 refine yb ?_
 cases a0 with
 | nil=>
   have hb:=Z7 (C:=Node.cells) hl0 hj0
   refine kr [1000000,2000002] ?_
   refine qz hb ?_
   refine kr [1000000,2000002] ?_
   refine qxi [(8,(.sl 1 false (t8.map ic)))] [2] rfl (qry qcw rfl rfl rfl qvk) rfl rfl ?_
   refine qdh ?_
   refine kr [1000000,2000002] ?_
   obtain ⟨x7,hx,h⟩:=bind_some h
   have he_x7:=hx
   refine qj9 env rfl rfl rfl rfl (q0c hx) (qwk hx) ?_
   refine kr [1000000,2000002] ?_
   refine qgo (x':=(Row.mk x7.Parent x7.Kind x7.Text x7.Gaps t8)) (fo:=4) he_x7 Q8 rfl rfl rfl rfl rfl rfl rfl ?_
   refine kr [1000000,2000002] ?_
   cases h
   exact yp env rfl rfl (tS [none] (qhl rfl rfl q8) (yf (Yl (qh (q1i Q8 (by simp only [B9]) rfl) rfl) (by simp)) (by simp)))
 | cons x_0 a0=>
   obtain ⟨hb,hx0,hd0,hk0,hw0⟩:=Qv (C:=Node.cells) hl0 hm0
   refine kr [1000000,2000002] ?_
   refine qy hb ?_
   refine kr [1000000,2000002] ?_
   refine qay env rfl rfl rfl rfl (m:=j0) rfl (qak hx0 (Node.cells_eq x_0)) ?_
   refine kr [1000000,2000002] ?_
   obtain ⟨x8,hx,h⟩:=bind_some h
   have he_x8:=hx
   refine qj9 env rfl rfl rfl rfl (q0c hx) (qwk hx) ?_
   refine kr [1000000,2000002] ?_
   refine qgo (x':=(t0.length:Int)) (fo:=0) he_x8 qcw rfl rfl rfl rfl rfl rfl rfl ?_
   refine kr [1000000,2000002] ?_
   obtain ⟨x9,hx,h⟩:=bind_some h
   refine qb (ACalls.ghost (e:=69) (AC.g9 (qcq _ _ _ _ hx) [0,4] [4,6])) ?_
   refine kr [1000000,2000002] ?_
   exact ja (by kernel_rfl) (qsi [some 4,none,some 2] rfl rfl rfl (by simp only [hw0];simp <;> (repeat' apply Bd) <;> first | rfl | exact fun x a _ h=>(Q8.all a x h).2 | exact fun x a _ h=>(qcw.all a x h).2) (qf5 Q8 rfl rfl (ql5 rfl (qf5 qcw rfl rfl qox)))) (W2 _ _ _ _ _ _ h l0 hd0 hk0 hm0)
def qby (a0:(List Row)) (a1:Node) (a2:Int):Option ((List Row)):=
 Qm a1.gaps >>=fun x1=>
 app 80 a0 ([(Row.mk a2 a1.kind a1.text x1 ([]:(List Int)))]) >>=fun x2=>
 if (decide (((a1.kids.map Node.cells).length:Int)=(0:Int)))=true then
  some x2
 else
  mkz 8 ((a1.kids.map Node.cells).length:Int) (0:Int) >>=fun x3=>
  uf a1.kids 0 x2 (a0.length:Int) x3
@[reducible] def qni (a0:(List Row)) (a1:Node) (a2:Int) (r:(List Row)):Prop:=
  AC Tryz.prog G 59 [(.bs 5 0 0 0 a0.length),(.agg (z7 a1)),(.int .i64 a2)] 1 [(0, .row 69 (a0.map Row.cells).flatten)] (.sl 5 false (r.map Row.cells)) 1 [(0, .row 69 [])]
theorem qnp:PC3 qni qby:=fun a0 a1 a2 r h=>by
 rw [qby.eq_def] at h
 refine ⟨?_,(jn Q8 rfl j3),(za Q8 zg),(qzf j6),(qn7 zg),rfl,rfl,rfl,rfl⟩
 refine ku (T:=tt) (N:=58) (rs:= [.tmp 6]) (fun vs w=>by simp) Tryz.func59 rfl rfl rfl (by kernel_rfl) (by kernel_rfl) ?_
 refine kr [1000000,2000002] ?_
 obtain ⟨x1,hx,h⟩:=bind_some h
 refine qn (qh4 _ _ hx) ?_
 refine kr [1000000,2000002] ?_
 obtain ⟨x2,hx,h⟩:=bind_some h
 have hp_x2:=qav hx (by simp)
 have hr_x2:=hx
 refine qxk (C:=Row.cells) env hx rfl rfl rfl (by simp) (fun _=>rfl) rfl rfl rfl rfl rfl (by decide) rfl rfl rfl ?_
 refine kr [1000000,2000002] ?_
 refine q07 0 2 69 (cs':=(x2.map Row.cells).flatten) rfl rfl (qvg hr_x2 (Wl (Q4 _) (Wl (Q4 _) (Wl (Q4 _) (Wl (Q4 _) (Wl (qtc (.inr rfl)) qza)))))) ?_
 refine qdh ?_
 refine kr [1000000,2000002] ?_
 refine qe (fun hb=> ?_) (fun hb=> ?_)
 ·replace h:=ql hb h
  refine kr [1000000,2000002] ?_
  cases h
  exact yp env rfl rfl (tS [none] (qhl rfl rfl q8) (yf (Yl (qh (jm Q8 rfl) rfl) (by simp)) (by simp)))
 replace h:=qm hb h
 refine kr [1000000,2000002] ?_
 obtain ⟨x3,hx,h⟩:=bind_some h
 refine q51 (C:=ic) env hx rfl rfl rfl rfl rfl rfl rfl rfl rfl rfl ?_
 refine kr [1000000,2000002] ?_
 refine Wv 35 rfl (fun hm=> ?_)
 exact jr (by kernel_rfl) lQ (W2 _ _ _ _ _ _ h a1.kids rfl (AD _) (Qw hm))
def qce (a0:Node):Option ((List Row)):=
 qby ([]:List Row) a0 (-1:Int) >>=fun x1=>
 some x1
@[reducible] def qri (a0:Node) (r:(List Row)):Prop:=
  Fn Tryz.prog G 35 [(.agg (z7 a0))] (.sl 5 false (r.map Row.cells))
theorem qrq:PC1 qri qce:=fun a0 r h=>by
 rw [qce.eq_def] at h
 refine z8 (T:=tt) (N:=5) (rs:= [.tmp 2]) (fun vs w=>by simp) Tryz.func35 rfl rfl rfl rfl (by kernel_rfl) (yk rfl) (zt _ rfl) ?_
 refine kr [] ?_
 obtain ⟨x1,hx,h⟩:=bind_some h
 refine qb (ACalls.ghost (e:=69) (ACalls.wkg (AC.go (objs:= [(0, .var 45 (z7 a0)),(1, .row 69 (([]:List Row).map Row.cells).flatten)]) (xs:= [(.bs 5 1 1 0 ([]:List Row).length),(.agg (z7 a0)),(.int .i64 (-1:Int))]) (qnp _ _ _ _ hx) [1] [1] rfl rfl rfl rfl rfl rfl rfl rfl rfl) (qg (ze rfl) (qg (qq _) (qg (qq _) jb))) (zq _))) ?_
 refine kr [] ?_
 cases h
 exact kf
def Q1 (a0:(List Row)) (a1:Int):Option (BA × Bool):=
 ix a0 a1 >>=fun x1=>
 if (decide (x1.Parent < (0:Int)))=true then
  some ((⟨#[]⟩:BA),false)
 else
  ix a0 x1.Parent >>=fun x2=>
  if (!decide (x2.Kind=(7:Int)))=true then
   some ((⟨#[]⟩:BA),false)
  else
   ix a0 x1.Parent >>=fun x3=>
   some (x3.Text,true)
@[reducible] def qlj (a0:(List Row)) (a1:Int) (r:BA × Bool):Prop:=
  Fn Tryz.prog G 36 [(.sl 5 false (a0.map Row.cells)),(.int .i64 a1)] (.tup [(.str r.1),(.bool r.2)])
theorem qeh:PC2 qlj Q1:=fun a0 a1 r h=>by
 rw [Q1.eq_def] at h
 refine z8 (T:=tt) (N:=27) (rs:= [.tmp 4, .tmp 5]) (fun vs w=>by simp) Tryz.func36 rfl rfl rfl rfl (by kernel_rfl) (yk rfl) (zt _ rfl) ?_
 refine kr [] ?_
 obtain ⟨x1,hx,h⟩:=bind_some h
 refine y7 env hx rfl rfl rfl rfl rfl ?_
 refine kr [] ?_
 refine q9 (fun hb=> ?_) (fun hb=> ?_)
 ·replace h:=qm hb h
  refine kr [] ?_
  obtain ⟨x2,hx,h⟩:=bind_some h
  refine y7 env hx rfl rfl rfl rfl rfl ?_
  refine kr [] ?_
  refine qe (fun hb=> ?_) (fun hb=> ?_)
  ·replace h:=ql hb h
   refine kr [] ?_
   cases h
   exact kf
  replace h:=qm hb h
  refine kr [] ?_
  obtain ⟨x3,hx,h⟩:=bind_some h
  refine y7 env hx rfl rfl rfl rfl rfl ?_
  refine kr [] ?_
  cases h
  exact kf
 replace h:=ql hb h
 refine kr [] ?_
 cases h
 exact kf
def F_project_function_l0 (t0:(List Row)) (t5:Int):Option BA:=
 if (decide ((0:Int)≤t5))=true then
  ix t0 t5 >>=fun x2=>
  if (!decide (x2.Kind=(2:Int)))=true then
   ix t0 t5 >>=fun x3=>
   F_project_function_l0 (qa t0) x3.Parent
  else
   Q1 (qa t0) (qa t5) >>=fun x4=>
   if x4.2=true then
    cat x4.1 (⟨#[46]⟩:BA) >>=fun x5=>
    ix t0 t5 >>=fun x6=>
    cat x5 x6.Text >>=fun x7=>
    some x7
   else
    ix t0 t5 >>=fun x8=>
    some x8.Text
 else
  some (⟨#[]⟩:BA)
 partial_fixpoint
@[reducible] def W9 (t0:(List Row)) (t5:Int) (r:BA):Prop:=
  Ok Tryz.prog G tt 46 0 (Ret Tryz.prog [.tmp 4] (fun y H=>Told Tryz.prog G H y (.str r))) (.again (ju [] Tryz.f37 0).1 (ju [] Tryz.f37 0).2 (.n (.sl 5 false (t0.map Row.cells)) (.n .undef .z (.n (.int .i64 t5) .z .z)) .z) 0 [])
theorem J0:PC2 W9 F_project_function_l0:=by
 refine F_project_function_l0.partial_correctness W9 (fun F_project_function_l0 J0 t0 t5 r h=> ?_)
 unfold qa at h
 refine yb ?_
 refine kr [] ?_
 refine qe (fun hb=> ?_) (fun hb=> ?_)
 ·replace h:=ql hb h
  refine kr [] ?_
  obtain ⟨x2,hx,h⟩:=bind_some h
  refine y7 env hx rfl rfl rfl rfl rfl ?_
  refine kr [] ?_
  refine qe (fun hb=> ?_) (fun hb=> ?_)
  ·replace h:=ql hb h
   refine kr [] ?_
   obtain ⟨x3,hx,h⟩:=bind_some h
   refine y7 env hx rfl rfl rfl rfl rfl ?_
   refine kr [] ?_
   exact ja (by kernel_rfl) lA (J0 _ _ _ h)
  replace h:=qm hb h
  refine kr [] ?_
  obtain ⟨x4,hx,h⟩:=bind_some h
  refine qn (qeh _ _ _ hx) ?_
  refine kr [] ?_
  refine qe (fun hb=> ?_) (fun hb=> ?_)
  ·replace h:=ql hb h
   refine kr [] ?_
   obtain ⟨x5,hx,h⟩:=bind_some h
   refine quv env hx rfl rfl ?_
   refine kr [] ?_
   obtain ⟨x6,hx,h⟩:=bind_some h
   refine y7 env hx rfl rfl rfl rfl rfl ?_
   refine kr [] ?_
   obtain ⟨x7,hx,h⟩:=bind_some h
   refine quv env hx rfl rfl ?_
   refine kr [] ?_
   cases h
   exact kf
  replace h:=qm hb h
  refine kr [] ?_
  obtain ⟨x8,hx,h⟩:=bind_some h
  refine y7 env hx rfl rfl rfl rfl rfl ?_
  refine kr [] ?_
  cases h
  exact kf
 replace h:=qm hb h
 refine kr [] ?_
 cases h
 exact kf
def Qk (a0:(List Row)) (a1:Int):Option BA:=
 ix a0 a1 >>=fun x1=>
 F_project_function_l0 a0 x1.Parent
@[reducible] def qh3 (a0:(List Row)) (a1:Int) (r:BA):Prop:=
  Fn Tryz.prog G 37 [(.sl 5 false (a0.map Row.cells)),(.int .i64 a1)] (.str r)
theorem qcc:PC2 qh3 Qk:=fun a0 a1 r h=>by
 rw [Qk.eq_def] at h
 refine z8 (T:=tt) (N:=46) (rs:= [.tmp 4]) (fun vs w=>by simp) Tryz.func37 rfl rfl rfl rfl (by kernel_rfl) (yk rfl) (zt _ rfl) ?_
 refine kr [] ?_
 obtain ⟨x1,hx,h⟩:=bind_some h
 refine y7 env hx rfl rfl rfl rfl rfl ?_
 refine kr [] ?_
 exact jr (by kernel_rfl) lA (J0 _ _ _ h)
mutual
def wm (a0:(List Unit)) (j0:Nat) (t3:(List (Int × Int))) (t4:(List Decl)):Option ((List Decl)):=
 match a0 with
 | []=>
   some t4
 | x_0::a0=>
   if x_0.Broken=true then
    w8 (qa a0) (qa j0) (qa t3) (qa t4)
   else
    qce x_0.Tree >>=fun x2=>
    zx (qa a0) (qa j0) (qa x2) 0 (qa t3) (qa t4) ((j0:Nat):Int) (qa x2)
 partial_fixpoint
def w8 (a0:(List Unit)) (j0:Nat) (t3:(List (Int × Int))) (t4:(List Decl)):Option ((List Decl)):=
 wm (qa a0) (j0+1) (qa t3) (qa t4)
 partial_fixpoint
def zx (a0:(List Unit)) (j0:Nat) (a1:(List Row)) (j1:Nat) (t3:(List (Int × Int))) (t4:(List Decl)) (t5:Int) (t7:(List Row)):Option ((List Decl)):=
 match a1 with
 | []=>
   w8 (qa a0) (qa j0) (qa t3) (qa t4)
 | x_1 ::a1=>
   if (!(mhas t3 x_1.Kind))=true then
    wo (qa a0) (qa j0) (qa a1) (qa j1) (qa t3) (qa t4) (qa t5) (qa t7)
   else
    Q1 (qa t7) ((j1:Nat):Int) >>=fun x3=>
    if x3.2=true then
     if (decide ((mget t3 x_1.Kind)=(1:Int)))=true then
      yv (qa a0) (qa j0) (qa a1) (qa j1) (qa t3) (qa t4) (qa t5) (qa t7) ((j1:Nat):Int) (mget t3 x_1.Kind) (Decl.mk (4:Int) x3.1 x_1.Text (Ref.mk t5 ((j1:Nat):Int)))
     else
      yv (qa a0) (qa j0) (qa a1) (qa j1) (qa t3) (qa t4) (qa t5) (qa t7) ((j1:Nat):Int) (mget t3 x_1.Kind) (Decl.mk (mget t3 x_1.Kind) (⟨#[]⟩) x_1.Text (Ref.mk t5 ((j1:Nat):Int)))
    else
     yv (qa a0) (qa j0) (qa a1) (qa j1) (qa t3) (qa t4) (qa t5) (qa t7) ((j1:Nat):Int) (mget t3 x_1.Kind) (Decl.mk (mget t3 x_1.Kind) (⟨#[]⟩) x_1.Text (Ref.mk t5 ((j1:Nat):Int)))
 partial_fixpoint
def wo (a0:(List Unit)) (j0:Nat) (a1:(List Row)) (j1:Nat) (t3:(List (Int × Int))) (t4:(List Decl)) (t5:Int) (t7:(List Row)):Option ((List Decl)):=
 zx (qa a0) (qa j0) (qa a1) (j1+1) (qa t3) (qa t4) (qa t5) (qa t7)
 partial_fixpoint
def yv (a0:(List Unit)) (j0:Nat) (a1:(List Row)) (j1:Nat) (t3:(List (Int × Int))) (t4:(List Decl)) (t5:Int) (t7:(List Row)) (t8:Int) (t10:Int) (o2:Decl):Option ((List Decl)):=
 if (decide (t10=(5:Int)))=true then
  Qk (qa t7) (qa t8) >>=fun x5=>
  wr (qa a0) (qa j0) (qa a1) (qa j1) (qa t3) (qa t4) (qa t5) (qa t7) (Decl.mk o2.Kind x5 o2.Name o2.At)
 else
  if (decide (t10=(6:Int)))=true then
   Qk (qa t7) (qa t8) >>=fun x4=>
   wr (qa a0) (qa j0) (qa a1) (qa j1) (qa t3) (qa t4) (qa t5) (qa t7) (Decl.mk o2.Kind x4 o2.Name o2.At)
  else
   wr (qa a0) (qa j0) (qa a1) (qa j1) (qa t3) (qa t4) (qa t5) (qa t7) (qa o2)
 partial_fixpoint
def wr (a0:(List Unit)) (j0:Nat) (a1:(List Row)) (j1:Nat) (t3:(List (Int × Int))) (t4:(List Decl)) (t5:Int) (t7:(List Row)) (o2:Decl):Option ((List Decl)):=
 app 56 t4 ([o2]) >>=fun x6=>
 wo (qa a0) (qa j0) (qa a1) (qa j1) (qa t3) (qa x6) (qa t5) (qa t7)
 partial_fixpoint
end
@[reducible] def Kg (a0:(List Unit)) (j0:Nat) (t3:(List (Int × Int))) (t4:(List Decl)) (r:(List Decl)):Prop:=
  ∀(l0:List Unit),l0.drop j0=a0→j0≤l0.length→l0.length≤9223372036854775807→Ok Tryz.prog G tt 82 0 (Ret Tryz.prog [.tmp 2] (fun y H=>Told Tryz.prog G H y (.sl 5 false (r.map Decl.cells)))) (.again (ju [1000001,1000003,61,70] Tryz.f19 0).1 (ju [1000001,1000003,61,70] Tryz.f19 0).2 (.n .undef (.n .undef (.n (.mp .i64 .i64 t3) .z .z) (.n .undef (.n .undef (.n (.int .i64 ((l0.map Unit.cells).length:Int)) .z .z) .z) .z)) (.n .undef (.n (.bs 5 0 0 0 t4.length) (.n .undef (.n (.sl 7 false (l0.map Unit.cells)) .z .z) .z) .z) (.n .undef (.n .undef (.n (.int .i64 ((j0:Nat):Int)) .z .z) .z) .z))) 1 [(0, .row 34 (t4.map Decl.cells).flatten)])
@[reducible] def Ki (a0:(List Unit)) (j0:Nat) (t3:(List (Int × Int))) (t4:(List Decl)) (r:(List Decl)):Prop:=
  ∀(l0:List Unit),l0.drop (j0+1)=a0→j0+1≤l0.length→l0.length≤9223372036854775807→Ok Tryz.prog G tt 82 0 (Ret Tryz.prog [.tmp 2] (fun y H=>Told Tryz.prog G H y (.sl 5 false (r.map Decl.cells)))) (.go [] (qgn [1000001,1000003,61,70] Tryz.f19 1) [] (.n .undef (.n .undef (.n (.mp .i64 .i64 t3) .z .z) (.n .undef (.n .undef (.n (.int .i64 ((l0.map Unit.cells).length:Int)) .z .z) .z) .z)) (.n .undef (.n (.bs 5 0 0 0 t4.length) (.n .undef (.n (.sl 7 false (l0.map Unit.cells)) .z .z) .z) .z) (.n .undef (.n .undef (.n (.int .i64 ((j0:Nat):Int)) .z .z) .z) .z))) 2 [(0, .row 34 (t4.map Decl.cells).flatten)])
@[reducible] def Kf (a0:(List Unit)) (j0:Nat) (a1:(List Row)) (j1:Nat) (t3:(List (Int × Int))) (t4:(List Decl)) (t5:Int) (t7:(List Row)) (r:(List Decl)):Prop:=
  ∀(l0:List Unit),l0.drop (j0+1)=a0→j0+1≤l0.length→l0.length≤9223372036854775807→∀(l1:List Row),l1.drop j1=a1→j1≤l1.length→l1.length≤9223372036854775807→Ok Tryz.prog G tt 82 0 (Ret Tryz.prog [.tmp 2] (fun y H=>Told Tryz.prog G H y (.sl 5 false (r.map Decl.cells)))) (.again (ju [1000001,1000003,61,70] Tryz.f19 1).1 (ju [1000001,1000003,61,70] Tryz.f19 1).2 (.n .undef (.n .undef (.n (.mp .i64 .i64 t3) (.n (.sl 5 false (t7.map Row.cells)) .z .z) .z) (.n (.int .i64 t5) (.n .undef (.n (.int .i64 ((l0.map Unit.cells).length:Int)) .z .z) .z) (.n .undef .z (.n (.int .i64 ((l1.map Row.cells).length:Int)) .z .z)))) (.n .undef (.n (.bs 5 0 0 0 t4.length) (.n .undef (.n (.sl 7 false (l0.map Unit.cells)) .z .z) .z) (.n .undef .z (.n (.sl 5 false (l1.map Row.cells)) .z .z))) (.n .undef (.n .undef (.n (.int .i64 ((j0:Nat):Int)) .z .z) .z) (.n .undef .z (.n (.int .i64 ((j1:Nat):Int)) .z .z))))) 2 [(0, .row 34 (t4.map Decl.cells).flatten)])
@[reducible] def Kh (a0:(List Unit)) (j0:Nat) (a1:(List Row)) (j1:Nat) (t3:(List (Int × Int))) (t4:(List Decl)) (t5:Int) (t7:(List Row)) (r:(List Decl)):Prop:=
  ∀(l0:List Unit),l0.drop (j0+1)=a0→j0+1≤l0.length→l0.length≤9223372036854775807→∀(l1:List Row),l1.drop (j1+1)=a1→j1+1≤l1.length→l1.length≤9223372036854775807→Ok Tryz.prog G tt 82 0 (Ret Tryz.prog [.tmp 2] (fun y H=>Told Tryz.prog G H y (.sl 5 false (r.map Decl.cells)))) (.go [] (qgn [1000001,1000003,61,70] Tryz.f19 3) [] (.n .undef (.n .undef (.n (.mp .i64 .i64 t3) (.n (.sl 5 false (t7.map Row.cells)) .z .z) .z) (.n (.int .i64 t5) (.n .undef (.n (.int .i64 ((l0.map Unit.cells).length:Int)) .z .z) .z) (.n .undef .z (.n (.int .i64 ((l1.map Row.cells).length:Int)) .z .z)))) (.n .undef (.n (.bs 5 0 0 0 t4.length) (.n .undef (.n (.sl 7 false (l0.map Unit.cells)) .z .z) .z) (.n .undef .z (.n (.sl 5 false (l1.map Row.cells)) .z .z))) (.n .undef (.n .undef (.n (.int .i64 ((j0:Nat):Int)) .z .z) .z) (.n .undef .z (.n (.int .i64 ((j1:Nat):Int)) .z .z))))) 3 [(0, .row 34 (t4.map Decl.cells).flatten)])
@[reducible] def Y1 (a0:(List Unit)) (j0:Nat) (a1:(List Row)) (j1:Nat) (t3:(List (Int × Int))) (t4:(List Decl)) (t5:Int) (t7:(List Row)) (t8:Int) (t10:Int) (o2:Decl) (r:(List Decl)):Prop:=
  ∀(l0:List Unit),l0.drop (j0+1)=a0→j0+1≤l0.length→l0.length≤9223372036854775807→∀(l1:List Row),l1.drop (j1+1)=a1→j1+1≤l1.length→l1.length≤9223372036854775807→Ok Tryz.prog G tt 82 0 (Ret Tryz.prog [.tmp 2] (fun y H=>Told Tryz.prog G H y (.sl 5 false (r.map Decl.cells)))) (.go [] (v8 [1000001,1000003,61,70] Tryz.f19 61) [] (.n .undef (.n .undef (.n (.mp .i64 .i64 t3) (.n (.sl 5 false (t7.map Row.cells)) .z .z) .z) (.n (.int .i64 t5) (.n .undef (.n (.int .i64 ((l0.map Unit.cells).length:Int)) .z .z) .z) (.n .undef .z (.n (.int .i64 ((l1.map Row.cells).length:Int)) .z .z)))) (.n .undef (.n (.bs 5 0 0 0 t4.length) (.n (.int .i64 t8) (.n (.sl 7 false (l0.map Unit.cells)) .z .z) .z) (.n (.ptr 2 3 0) .z (.n (.sl 5 false (l1.map Row.cells)) .z .z))) (.n .undef (.n (.int .i64 t10) (.n (.int .i64 ((j0:Nat):Int)) .z .z) .z) (.n .undef .z (.n (.int .i64 ((j1:Nat):Int)) .z .z))))) 4 [(0, .row 34 (t4.map Decl.cells).flatten),(2, .dead),(3, .var 34 (Decl.cells o2))])
@[reducible] def Y0 (a0:(List Unit)) (j0:Nat) (a1:(List Row)) (j1:Nat) (t3:(List (Int × Int))) (t4:(List Decl)) (t5:Int) (t7:(List Row)) (o2:Decl) (r:(List Decl)):Prop:=
  ∀(l0:List Unit),l0.drop (j0+1)=a0→j0+1≤l0.length→l0.length≤9223372036854775807→∀(l1:List Row),l1.drop (j1+1)=a1→j1+1≤l1.length→l1.length≤9223372036854775807→Ok Tryz.prog G tt 82 0 (Ret Tryz.prog [.tmp 2] (fun y H=>Told Tryz.prog G H y (.sl 5 false (r.map Decl.cells)))) (.go [] (v8 [1000001,1000003,61,70] Tryz.f19 70) [] (.n .undef (.n .undef (.n (.mp .i64 .i64 t3) (.n (.sl 5 false (t7.map Row.cells)) .z .z) .z) (.n (.int .i64 t5) (.n .undef (.n (.int .i64 ((l0.map Unit.cells).length:Int)) .z .z) .z) (.n .undef .z (.n (.int .i64 ((l1.map Row.cells).length:Int)) .z .z)))) (.n .undef (.n (.bs 5 0 0 0 t4.length) (.n .undef (.n (.sl 7 false (l0.map Unit.cells)) .z .z) .z) (.n (.ptr 2 3 0) .z (.n (.sl 5 false (l1.map Row.cells)) .z .z))) (.n .undef (.n .undef (.n (.int .i64 ((j0:Nat):Int)) .z .z) .z) (.n .undef .z (.n (.int .i64 ((j1:Nat):Int)) .z .z))))) 4 [(0, .row 34 (t4.map Decl.cells).flatten),(2, .dead),(3, .var 34 (Decl.cells o2))])
theorem ui:PC4 Kg wm∧PC8 Kf zx∧PC11 Y1 yv∧PC9 Y0 wr∧PC8 Kh wo∧PC4 Ki w8:=by
 refine wm.mutual_partial_correctness Kg Kf Y1 Y0 Kh Ki (fun zx w8 Je Jg a0 j0 t3 t4 r h=> ?_) (fun yv wo w8 Zy Jf Jg a0 j0 a1 j1 t3 t4 t5 t7 r h=> ?_) (fun wr Zx a0 j0 a1 j1 t3 t4 t5 t7 t8 t10 o2 r h=> ?_) (fun wo Jf a0 j0 a1 j1 t3 t4 t5 t7 o2 r h=> ?_) (fun zx Je a0 j0 a1 j1 t3 t4 t5 t7 r h=> ?_) (fun wm Kl a0 j0 t3 t4 r h=> ?_)
 ·unfold qa at h
  intro l0 hl0 hj0 hm0
  refine yb ?_
  cases a0 with
  | nil=>
    have hb:=Z7 (C:=Unit.cells) hl0 hj0
    refine kr [1000001,1000003,61,70] ?_
    refine qz hb ?_
    refine kr [1000001,1000003,61,70] ?_
    cases h
    exact yg env rfl rfl (Z6 (qrz (uq (jm Wa rfl) (by simp)) (by simp)))
  | cons x_0 a0=>
    obtain ⟨hb,hx0,hd0,hk0,hw0⟩:=Qv (C:=Unit.cells) hl0 hm0
    refine kr [1000001,1000003,61,70] ?_
    refine qy hb ?_
    refine kr [1000001,1000003,61,70] ?_
    refine qay env rfl rfl rfl rfl (m:=j0) rfl (qak hx0 rfl) ?_
    refine kr [1000001,1000003,61,70] ?_
    refine qe (fun hb=> ?_) (fun hb=> ?_)
    ·replace h:=ql hb h
     refine kr [1000001,1000003,61,70] ?_
     exact qx (by kernel_rfl) rfl lA (Jg _ _ _ _ _ h l0 hd0 hk0 hm0)
    replace h:=qm hb h
    refine kr [1000001,1000003,61,70] ?_
    obtain ⟨x2,hx,h⟩:=bind_some h
    refine qn (qrq _ _ hx) ?_
    refine kr [1000001,1000003,61,70] ?_
    refine Wv 28 rfl (fun hm=> ?_)
    exact jr (by kernel_rfl) lA (Je _ _ _ _ _ _ _ _ _ h l0 hd0 hk0 hm0 x2 rfl (AD _) (Qw hm))
 ·unfold qa at h
  intro l0 hd0 hk0 hm0
  have hw0:=qaj hk0 hm0
  intro l1 hl1 hj1 hm1
  refine yb ?_
  cases a1 with
  | nil=>
    have hb:=Z7 (C:=Row.cells) hl1 hj1
    refine kr [1000001,1000003,61,70] ?_
    refine qz hb ?_
    refine kr [1000001,1000003,61,70] ?_
    exact qx (by kernel_rfl) rfl lA (Jg _ _ _ _ _ h l0 hd0 hk0 hm0)
  | cons x_1 a1=>
    obtain ⟨hb,hx1,hd1,hk1,hw1⟩:=Qv (C:=Row.cells) hl1 hm1
    refine kr [1000001,1000003,61,70] ?_
    refine qy hb ?_
    refine kr [1000001,1000003,61,70] ?_
    refine qay env rfl rfl rfl rfl (m:=j1) rfl (qak hx1 rfl) ?_
    refine kr [1000001,1000003,61,70] ?_
    refine za7 env rfl rfl (by kernel_rfl) ?_
    refine kr [1000001,1000003,61,70] ?_
    refine qe (fun hb=> ?_) (fun hb=> ?_)
    ·replace h:=ql hb h
     refine kr [1000001,1000003,61,70] ?_
     exact qx (by kernel_rfl) rfl lA (Jf _ _ _ _ _ _ _ _ _ h l0 hd0 hk0 hm0 l1 hd1 hk1 hm1)
    replace h:=qm hb h
    refine kr [1000001,1000003,61,70] ?_
    obtain ⟨x3,hx,h⟩:=bind_some h
    refine qn (qeh _ _ _ hx) ?_
    refine kr [1000001,1000003,61,70] ?_
    refine qr (fun hb=> ?_) (fun hb=> ?_)
    ·replace h:=ql hb h
     refine kr [1000001,1000003,61,70] ?_
     refine qe (fun hb=> ?_) (fun hb=> ?_)
     ·replace h:=ql hb h
      refine kr [1000001,1000003,61,70] ?_
      exact qx (by kernel_rfl) rfl lA (Zy _ _ _ _ _ _ _ _ _ _ _ _ h l0 hd0 hk0 hm0 l1 hd1 hk1 hm1)
     replace h:=qm hb h
     refine kr [1000001,1000003,61,70] ?_
     exact qx (by kernel_rfl) rfl lA (Zy _ _ _ _ _ _ _ _ _ _ _ _ h l0 hd0 hk0 hm0 l1 hd1 hk1 hm1)
    replace h:=qm hb h
    refine kr [1000001,1000003,61,70] ?_
    exact qx (by kernel_rfl) rfl lA (Zy _ _ _ _ _ _ _ _ _ _ _ _ h l0 hd0 hk0 hm0 l1 hd1 hk1 hm1)
 ·unfold qa at h
  intro l0 hd0 hk0 hm0
  have hw0:=qaj hk0 hm0
  intro l1 hd1 hk1 hm1
  have hw1:=qaj hk1 hm1
  refine kr [1000001,1000003,61,70] ?_
  refine q9 (fun hb=> ?_) (fun hb=> ?_)
  ·replace h:=qm hb h
   refine kr [1000001,1000003,61,70] ?_
   refine qe (fun hb=> ?_) (fun hb=> ?_)
   ·replace h:=ql hb h
    refine kr [1000001,1000003,61,70] ?_
    obtain ⟨x4,hx,h⟩:=bind_some h
    refine qn (qcc _ _ _ hx) ?_
    refine kr [1000001,1000003,61,70] ?_
    exact qx (by kernel_rfl) rfl lA (Zx _ _ _ _ _ _ _ _ _ _ h l0 hd0 hk0 hm0 l1 hd1 hk1 hm1)
   replace h:=qm hb h
   refine kr [1000001,1000003,61,70] ?_
   exact qx (by kernel_rfl) rfl lA (Zx _ _ _ _ _ _ _ _ _ _ h l0 hd0 hk0 hm0 l1 hd1 hk1 hm1)
  replace h:=ql hb h
  refine kr [1000001,1000003,61,70] ?_
  obtain ⟨x5,hx,h⟩:=bind_some h
  refine qn (qcc _ _ _ hx) ?_
  refine kr [1000001,1000003,61,70] ?_
  exact qx (by kernel_rfl) rfl lA (Zx _ _ _ _ _ _ _ _ _ _ h l0 hd0 hk0 hm0 l1 hd1 hk1 hm1)
 ·unfold qa at h
  intro l0 hd0 hk0 hm0
  have hw0:=qaj hk0 hm0
  intro l1 hd1 hk1 hm1
  have hw1:=qaj hk1 hm1
  refine kr [1000001,1000003,61,70] ?_
  obtain ⟨x6,hx,h⟩:=bind_some h
  have hp_x6:=qav hx (by simp)
  refine qbv (C:=Decl.cells) env hx rfl rfl (by simp) (fun _=>rfl) rfl rfl rfl rfl rfl (by decide) rfl rfl rfl ?_
  refine kr [1000001,1000003,61,70] ?_
  exact qx (by kernel_rfl) rfl lA (Jf _ _ _ _ _ _ _ _ _ h l0 hd0 hk0 hm0 l1 hd1 hk1 hm1)
 ·unfold qa at h
  intro l0 hd0 hk0 hm0
  have hw0:=qaj hk0 hm0
  intro l1 hd1 hk1 hm1
  have hw1:=qaj hk1 hm1
  refine kr [1000001,1000003,61,70] ?_
  exact ja (by kernel_rfl) (qc3 (by simp only [hw1];simp <;> (repeat' apply Bd) <;> first | rfl | exact fun x a _ h=>(Wa.all a x h).2) (by simp <;> (repeat' apply Bd) <;> first | rfl | exact fun x a _ h=>(Wa.all a x h).2)) (Je _ _ _ _ _ _ _ _ _ h l0 hd0 hk0 hm0 l1 hd1 hk1 hm1)
 unfold qa at h
 intro l0 hd0 hk0 hm0
 have hw0:=qaj hk0 hm0
 refine kr [1000001,1000003,61,70] ?_
 exact ja (by kernel_rfl) (qc3 (by simp only [hw0];simp <;> (repeat' apply Bd) <;> first | rfl | exact fun x a _ h=>(Wa.all a x h).2) (by simp <;> (repeat' apply Bd) <;> first | rfl | exact fun x a _ h=>(Wa.all a x h).2)) (Kl _ _ _ _ _ h l0 hd0 hk0 hm0)
theorem Kl:PC4 Kg wm:=ui.1
theorem Je:PC8 Kf zx:=ui.2.1
theorem Zy:PC11 Y1 yv:=ui.2.2.1
theorem Zx:PC9 Y0 wr:=ui.2.2.2.1
theorem Jf:PC8 Kh wo:=ui.2.2.2.2.1
theorem Jg:PC4 Ki w8:=ui.2.2.2.2.2
def Jb (a0:(List Unit)):Option ((List Decl)):=
 qcv >>=fun x1=>
 wm a0 0 x1 ([]:List Decl)
@[reducible] def qll (a0:(List Unit)) (r:(List Decl)):Prop:=
  Fn Tryz.prog G 19 [(.sl 7 false (a0.map Unit.cells))] (.sl 5 false (r.map Decl.cells))
theorem qei:PC1 qll Jb:=fun a0 r h=>by
 rw [Jb.eq_def] at h
 refine z8 (T:=tt) (N:=82) (rs:= [.tmp 2]) (fun vs w=>by simp) Tryz.func19 rfl rfl rfl rfl (by kernel_rfl) (yk rfl) (zt _ rfl) ?_
 refine kr [1000001,1000003,61,70] ?_
 obtain ⟨x1,hx,h⟩:=bind_some h
 refine qn (qlq _ hx) ?_
 refine kr [1000001,1000003,61,70] ?_
 refine quu 4 _ 5 34 rfl rfl ?_
 refine Wv 16 rfl (fun hm=> ?_)
 exact jr (by kernel_rfl) lA (Kl _ _ _ _ _ h a0 rfl (AD _) (Qw hm))
mutual
def wu (a0:(List Decl)) (t1:Int) (t2:BA) (t3:BA):Option (Decl × Bool):=
 match a0 with
 | []=>
   some ((Decl.mk 0 (⟨#[]⟩) (⟨#[]⟩) (Ref.mk 0 0)),false)
 | x_0 ::a0=>
   if (decide (x_0.Kind=t1))=true then
    if (decide (x_0.Owner=t2))=true then
     if (decide (x_0.Name=t3))=true then
      some (x_0,true)
     else
      w6 (qa a0) (qa t1) (qa t2) (qa t3)
    else
     w6 (qa a0) (qa t1) (qa t2) (qa t3)
   else
    w6 (qa a0) (qa t1) (qa t2) (qa t3)
 partial_fixpoint
def w6 (a0:(List Decl)) (t1:Int) (t2:BA) (t3:BA):Option (Decl × Bool):=
 wu (qa a0) (qa t1) (qa t2) (qa t3)
 partial_fixpoint
end
@[reducible] def Wh (a0:(List Decl)) (t1:Int) (t2:BA) (t3:BA) (r:Decl × Bool):Prop:=
  ∀(l0:List Decl) (j0:Nat),l0.drop j0=a0→j0≤l0.length→l0.length≤9223372036854775807→Ok Tryz.prog G tt 38 0 (Ret Tryz.prog [.cell 8 34, .tmp 9] (fun y H=>Told Tryz.prog G H y (.tup [(.agg (Decl.cells r.1)),(.bool r.2)]))) (.again (ju [34] Tryz.f16 0).1 (ju [34] Tryz.f16 0).2 (.n .undef (.n (.int .i64 t1) (.n (.str t3) (.n .undef (.n (.int .i64 ((j0:Nat):Int)) .z .z) .z) .z) (.n .undef .z (.n (.sl 5 false (l0.map Decl.cells)) .z .z))) (.n (.str t2) (.n .undef (.n (.ptr 0 0 0) .z .z) .z) (.n .undef .z (.n (.int .i64 ((l0.map Decl.cells).length:Int)) .z .z)))) 1 [(0, .var 34 [(.int .i64 0),(.str ⟨#[]⟩),(.str ⟨#[]⟩),(.int .i64 0),(.int .i64 0)])])
@[reducible] def Ke (a0:(List Decl)) (t1:Int) (t2:BA) (t3:BA) (r:Decl × Bool):Prop:=
  ∀(l0:List Decl) (j0:Nat),l0.drop (j0+1)=a0→j0+1≤l0.length→l0.length≤9223372036854775807→Ok Tryz.prog G tt 38 0 (Ret Tryz.prog [.cell 8 34, .tmp 9] (fun y H=>Told Tryz.prog G H y (.tup [(.agg (Decl.cells r.1)),(.bool r.2)]))) (.go [] (v8 [34] Tryz.f16 34) [] (.n .undef (.n (.int .i64 t1) (.n (.str t3) (.n .undef (.n (.int .i64 ((j0:Nat):Int)) .z .z) .z) .z) (.n .undef .z (.n (.sl 5 false (l0.map Decl.cells)) .z .z))) (.n (.str t2) (.n .undef (.n (.ptr 0 0 0) .z .z) .z) (.n .undef .z (.n (.int .i64 ((l0.map Decl.cells).length:Int)) .z .z)))) 2 [(0, .var 34 [(.int .i64 0),(.str ⟨#[]⟩),(.str ⟨#[]⟩),(.int .i64 0),(.int .i64 0)])])
theorem qbg:PC4 Wh wu∧PC4 Ke w6:=by
 refine wu.mutual_partial_correctness Wh Ke (fun w6 Jd a0 t1 t2 t3 r h=> ?_) (fun wu Wk a0 t1 t2 t3 r h=> ?_)
 ·unfold qa at h
  intro l0 j0 hl0 hj0 hm0
  refine yb ?_
  cases a0 with
  | nil=>
    have hb:=Z7 (C:=Decl.cells) hl0 hj0
    refine kr [34] ?_
    refine qz hb ?_
    refine kr [34] ?_
    cases h
    exact kf
  | cons x_0 a0=>
    obtain ⟨hb,hx0,hd0,hk0,hw0⟩:=Qv (C:=Decl.cells) hl0 hm0
    refine kr [34] ?_
    refine qy hb ?_
    refine kr [34] ?_
    refine qay env rfl rfl rfl rfl (m:=j0) rfl (qak hx0 rfl) ?_
    refine kr [34] ?_
    refine qr (fun hb=> ?_) (fun hb=> ?_)
    ·replace h:=ql hb h
     refine kr [34] ?_
     refine qr (fun hb=> ?_) (fun hb=> ?_)
     ·replace h:=ql hb h
      refine kr [34] ?_
      refine qe (fun hb=> ?_) (fun hb=> ?_)
      ·replace h:=ql hb h
       refine kr [34] ?_
       cases h
       exact kf
      replace h:=qm hb h
      refine kr [34] ?_
      exact qx (by kernel_rfl) rfl lA (Jd _ _ _ _ _ h l0 j0 hd0 hk0 hm0)
     replace h:=qm hb h
     refine kr [34] ?_
     exact qx (by kernel_rfl) rfl lA (Jd _ _ _ _ _ h l0 j0 hd0 hk0 hm0)
    replace h:=qm hb h
    refine kr [34] ?_
    exact qx (by kernel_rfl) rfl lA (Jd _ _ _ _ _ h l0 j0 hd0 hk0 hm0)
 unfold qa at h
 intro l0 j0 hd0 hk0 hm0
 have hw0:=qaj hk0 hm0
 refine kr [34] ?_
 exact ja (by kernel_rfl) (qc3 (by simp only [hw0];simp <;> (repeat' apply Bd) <;> first | rfl) (by simp <;> (repeat' apply Bd) <;> first | rfl)) (Wk _ _ _ _ _ h l0 (j0+1) hd0 hk0 hm0)
theorem Wk:PC4 Wh wu:=qbg.1
theorem Jd:PC4 Ke w6:=qbg.2
def J9 (a0:(List Unit)) (a1:Int) (a2:BA) (a3:BA):Option (Decl × Bool):=
 Jb a0 >>=fun x1=>
 wu x1 a1 a2 a3
@[reducible] def qmp (a0:(List Unit)) (a1:Int) (a2:BA) (a3:BA) (r:Decl × Bool):Prop:=
  Fn Tryz.prog G 16 [(.sl 7 false (a0.map Unit.cells)),(.int .i64 a1),(.str a2),(.str a3)] (.tup [(.agg (Decl.cells r.1)),(.bool r.2)])
theorem qfx:PC4 qmp J9:=fun a0 a1 a2 a3 r h=>by
 rw [J9.eq_def] at h
 refine z8 (T:=tt) (N:=38) (rs:= [.cell 8 34, .tmp 9]) (fun vs w=>by simp) Tryz.func16 rfl rfl rfl rfl (by kernel_rfl) (yk rfl) (zt _ rfl) ?_
 refine kr [34] ?_
 obtain ⟨x1,hx,h⟩:=bind_some h
 refine qn (qei _ _ hx) ?_
 refine kr [34] ?_
 refine Wv 13 rfl (fun hm=> ?_)
 exact jr (by kernel_rfl) lA (Wk _ _ _ _ _ h x1 0 rfl (AD _) (Qw hm))
def Kt  : Option Bool:=
 Zu ([(File.mk (⟨#[97]⟩:BA) (⟨#[99,108,97,115,115,32,67,32,123,32,102,110,32,109,40,97,32,105,110,116,41,32,105,110,116,32,123,32,108,101,116,32,98,32,61,32,97,59,32,114,101,116,117,114,110,32,98,59,32,125,32,125,10]⟩:BA)),(File.mk (⟨#[98]⟩:BA) (⟨#[102,110]⟩:BA))]) >>=fun x1=>
 Jb x1.1 >>=fun x2=>
 J9 x1.1 (6:Int) (⟨#[67,46,109]⟩:BA) (⟨#[98]⟩:BA) >>=fun x3=>
 J9 x1.1 (1:Int) (⟨#[]⟩:BA) (⟨#[109]⟩:BA) >>=fun x4=>
 if (decide (x1.2=(0:Int)))=true then
  if (decide (((x1.1.map Unit.cells).length:Int)=(2:Int)))=true then
   ix x1.1 (0:Int) >>=fun x5=>
   if (!x5.Broken)=true then
    ix x1.1 (1:Int) >>=fun x6=>
    if x6.Broken=true then
     if (decide (((x2.map Decl.cells).length:Int)=(4:Int)))=true then
      ix x2 (1:Int) >>=fun x7=>
      if (decide (x7.Kind=(4:Int)))=true then
       ix x2 (1:Int) >>=fun x8=>
       if (decide (x8.Owner=(⟨#[67]⟩:BA)))=true then
        ix x2 (2:Int) >>=fun x9=>
        if (decide (x9.Owner=(⟨#[67,46,109]⟩:BA)))=true then
         if x3.2=true then
          ix x2 (3:Int) >>=fun x10=>
          if (decide (x3.1.Kind=x10.Kind) && (decide (x3.1.Owner=x10.Owner) && (decide (x3.1.Name=x10.Name) && (decide (x3.1.At.Unit=x10.At.Unit) && (decide (x3.1.At.Node=x10.At.Node) && true)))))=true then
           if (!x4.2)=true then
            Q2 ([(File.mk (⟨#[98]⟩:BA) (⟨#[]⟩)),(File.mk (⟨#[97]⟩:BA) (⟨#[]⟩))]) >>=fun x11=>
            some (decide (x11=(14:Int)))
           else
            some false
          else
           some false
         else
          some false
        else
         some false
       else
        some false
      else
       some false
     else
      some false
    else
     some false
   else
    some false
  else
   some false
 else
  some false
@[reducible] def qrp  (r:Bool):Prop:=
  Fn Tryz.prog G 9 [] (.bool r)
theorem qew :PC0 qrp Kt:=fun  r h=>by
 rw [Kt.eq_def] at h
 refine z8 (T:=tt) (N:=94) (rs:= [.tmp 0]) (fun vs w=>by simp) Tryz.func9 rfl rfl rfl rfl (by kernel_rfl) (yk rfl) (zt _ rfl) ?_
 refine kr [] ?_
 obtain ⟨x1,hx,h⟩:=bind_some h
 refine qn (Fn.wk (qfw _ _ hx) (qii (qy9 (.inl rfl)) qog)) ?_
 refine kr [] ?_
 obtain ⟨x2,hx,h⟩:=bind_some h
 refine qn (qei _ _ hx) ?_
 refine kr [] ?_
 obtain ⟨x3,hx,h⟩:=bind_some h
 refine qn (qfx _ _ _ _ _ hx) ?_
 refine kr [] ?_
 obtain ⟨x4,hx,h⟩:=bind_some h
 refine qn (qfx _ _ _ _ _ hx) ?_
 refine kr [] ?_
 refine qr (fun hb=> ?_) (fun hb=> ?_)
 ·replace h :=ql hb h
  refine kr [] ?_
  refine qr (fun hb=> ?_) (fun hb=> ?_)
  ·replace h :=ql hb h
   refine kr [] ?_
   obtain ⟨x5,hx,h⟩:=bind_some h
   refine y7 env hx rfl rfl rfl rfl rfl ?_
   refine kr [] ?_
   refine qr (fun hb=> ?_) (fun hb=> ?_)
   ·replace h:=ql hb h
    refine kr [] ?_
    obtain ⟨x6,hx,h⟩:=bind_some h
    refine y7 env hx rfl rfl rfl rfl rfl ?_
    refine kr [] ?_
    refine qr (fun hb=> ?_) (fun hb=> ?_)
    ·replace h:=ql hb h
     refine kr [] ?_
     refine qr (fun hb=> ?_) (fun hb=> ?_)
     ·replace h:=ql hb h
      refine kr [] ?_
      obtain ⟨x7,hx,h⟩:=bind_some h
      refine y7 env hx rfl rfl rfl rfl rfl ?_
      refine kr [] ?_
      refine qr (fun hb=> ?_) (fun hb=> ?_)
      ·replace h:=ql hb h
       refine kr [] ?_
       obtain ⟨x8,hx,h⟩:=bind_some h
       refine y7 env hx rfl rfl rfl rfl rfl ?_
       refine kr [] ?_
       refine qr (fun hb=> ?_) (fun hb=> ?_)
       ·replace h:=ql hb h
        refine kr [] ?_
        obtain ⟨x9,hx,h⟩:=bind_some h
        refine y7 env hx rfl rfl rfl rfl rfl ?_
        refine kr [] ?_
        refine qr (fun hb=> ?_) (fun hb=> ?_)
        ·replace h:=ql hb h
         refine kr [] ?_
         refine qr (fun hb=> ?_) (fun hb=> ?_)
         ·replace h:=ql hb h
          refine kr [] ?_
          obtain ⟨x10,hx,h⟩:=bind_some h
          refine y7 env hx rfl rfl rfl rfl rfl ?_
          refine kr [] ?_
          refine qr (fun hb=> ?_) (fun hb=> ?_)
          ·replace h:=ql hb h
           refine kr [] ?_
           refine qr (fun hb=> ?_) (fun hb=> ?_)
           ·replace h:=ql hb h
            refine kr [] ?_
            obtain ⟨x11,hx,h⟩:=bind_some h
            refine qn (Fn.wk (qa3 _ _ hx) (qii (qy9 (.inl rfl)) qog)) ?_
            refine kr [] ?_
            cases h
            exact kf
           replace h:=qm hb h
           refine kr [] ?_
           cases h
           exact kf
          replace h:=qm hb h
          refine kr [] ?_
          cases h
          exact kf
         replace h:=qm hb h
         refine kr [] ?_
         cases h
         exact kf
        replace h:=qm hb h
        refine kr [] ?_
        cases h
        exact kf
       replace h:=qm hb h
       refine kr [] ?_
       cases h
       exact kf
      replace h:=qm hb h
      refine kr [] ?_
      cases h
      exact kf
     replace h:=qm hb h
     refine kr [] ?_
     cases h
     exact kf
    replace h:=qm hb h
    refine kr [] ?_
    cases h
    exact kf
   replace h:=qm hb h
   refine kr [] ?_
   cases h
   exact kf
  replace h:=qm hb h
  refine kr [] ?_
  cases h
  exact kf
 replace h:=qm hb h
 refine kr [] ?_
 cases h
 exact kf
def v7 (t0:LB) (t1:LB) (t5:Int):Option Bool:=
 if (decide (t5 < ((t0.map sc).length:Int)))=true then
  ix t0 t5 >>=fun x1=>
  ix t1 t5 >>=fun x2=>
  if (!decide (x1=x2))=true then
   some false
  else
   v7 (qa t0) (qa t1) (IntKind.i64.wrap (t5+(1:Int)))
 else
  some true
 partial_fixpoint
@[reducible] def qeg (t0:LB) (t1:LB) (t5:Int) (r:Bool):Prop:=
  Ok Tryz.prog G tt 26 0 (Ret Tryz.prog [.tmp 4] (fun y H=>Told Tryz.prog G H y (.bool r))) (.again (ju [] Tryz.f58 0).1 (ju [] Tryz.f58 0).2 (.n (.sl 1 false (t0.map sc)) (.n (.sl 1 false (t1.map sc)) .z (.n (.int .i64 t5) .z .z)) .z) 0 [])
theorem qa5:PC3 qeg v7:=by
 refine v7.partial_correctness qeg (fun v7 qa5 t0 t1 t5 r h=> ?_)
 unfold qa at h
 refine yb ?_
 refine kr [] ?_
 refine qe (fun hb=> ?_) (fun hb=> ?_)
 ·replace h:=ql hb h
  refine kr [] ?_
  obtain ⟨x1,hx,h⟩:=bind_some h
  refine y7 env hx rfl rfl rfl rfl rfl ?_
  refine kr [] ?_
  obtain ⟨x2,hx,h⟩:=bind_some h
  refine y7 env hx rfl rfl rfl rfl rfl ?_
  refine kr [] ?_
  refine qe (fun hb=> ?_) (fun hb=> ?_)
  ·replace h:=ql hb h
   refine kr [] ?_
   cases h
   exact kf
  replace h:=qm hb h
  refine kr [] ?_
  exact ja (by kernel_rfl) lA (qa5 _ _ _ _ h)
 replace h:=qm hb h
 refine kr [] ?_
 cases h
 exact kf
def qba (a0:LB) (a1:LB):Option Bool:=
 if (!decide (((a0.map sc).length:Int)=((a1.map sc).length:Int)))=true then
  some false
 else
  v7 a0 a1 (0:Int)
@[reducible] def qqy (a0:LB) (a1:LB) (r:Bool):Prop:=
  Fn Tryz.prog G 58 [(.sl 1 false (a0.map sc)),(.sl 1 false (a1.map sc))] (.bool r)
theorem qq3:PC2 qqy qba:=fun a0 a1 r h=>by
 rw [qba.eq_def] at h
 refine z8 (T:=tt) (N:=26) (rs:= [.tmp 4]) (fun vs w=>by simp) Tryz.func58 rfl rfl rfl rfl (by kernel_rfl) (yk rfl) (zt _ rfl) ?_
 refine kr [] ?_
 refine qe (fun hb=> ?_) (fun hb=> ?_)
 ·replace h:=ql hb h
  refine kr [] ?_
  cases h
  exact kf
 replace h:=qm hb h
 refine kr [] ?_
 exact jr (by kernel_rfl) lA (qa5 _ _ _ _ h)
mutual
def u4 (a0:Node) (a1:Node):Option Bool:=
 if (!decide (a0.kind=a1.kind))=true then
  some false
 else
  if (!decide (a0.text=a1.text))=true then
   some false
  else
   qba a0.gaps a1.gaps >>=fun x1=>
   if (!x1)=true then
    some false
   else
    if (!decide (((a0.kids.map Node.cells).length:Int)=((a1.kids.map Node.cells).length:Int)))=true then
     some false
    else
     Qn (0:Int) (qa a0) (qa a1)
 partial_fixpoint
def Qn (t5:Int) (o0:Node) (o1:Node):Option Bool:=
 if (decide (t5 < ((o0.kids.map Node.cells).length:Int)))=true then
  ix o0.kids t5 >>=fun x2=>
  ix o1.kids t5 >>=fun x3=>
  u4 (qa x2) (qa x3) >>=fun x4=>
  if (!x4)=true then
   some false
  else
   Qn (IntKind.i64.wrap (t5+(1:Int))) (qa o0) (qa o1)
 else
  some true
 partial_fixpoint
end
@[reducible] def qgu (a0:Node) (a1:Node) (r:Bool):Prop:=
  Fn Tryz.prog G 33 [(.agg (z7 a0)),(.agg (z7 a1))] (.bool r)
@[reducible] def qcp (t5:Int) (o0:Node) (o1:Node) (r:Bool):Prop:=
  Ok Tryz.prog G tt 54 0 (Ret Tryz.prog [.tmp 4] (fun y H=>Told Tryz.prog G H y (.bool r))) (.again (ju [] Tryz.f33 0).1 (ju [] Tryz.f33 0).2 (.n .undef (.n .undef (.n (.ptr 1 1 0) .z .z) (.n (.int .i64 t5) .z .z)) (.n (.ptr 0 0 0) .z .z)) 2 [(0, .var 45 (z7 o0)),(1, .var 45 (z7 o1))])
theorem qie:PC2 qgu u4∧PC3 qcp Qn:=by
 refine u4.mutual_partial_correctness qgu qcp (fun Qn Wx a0 a1 r h=> ?_) (fun u4 Qn qgx Wx t5 o0 o1 r h=> ?_)
 ·unfold qa at h
  refine z8 (T:=tt) (N:=54) (rs:= [.tmp 4]) (fun vs w=>by simp) Tryz.func33 rfl rfl rfl rfl (by kernel_rfl) (yk rfl) (zt _ rfl) ?_
  refine kr [] ?_
  refine q9 (fun hb=> ?_) (fun hb=> ?_)
  ·replace h:=qm hb h
   refine kr [] ?_
   refine q9 (fun hb=> ?_) (fun hb=> ?_)
   ·replace h:=qm hb h
    refine kr [] ?_
    obtain ⟨x1,hx,h⟩:=bind_some h
    refine qn (qq3 _ _ _ hx) ?_
    refine kr [] ?_
    refine q9 (fun hb=> ?_) (fun hb=> ?_)
    ·replace h:=qm hb h
     refine kr [] ?_
     refine qe (fun hb=> ?_) (fun hb=> ?_)
     ·replace h:=ql hb h
      refine kr [] ?_
      cases h
      exact kf
     replace h:=qm hb h
     refine kr [] ?_
     exact jr (by kernel_rfl) lA (Wx _ _ _ _ h)
    replace h:=ql hb h
    refine kr [] ?_
    cases h
    exact kf
   replace h:=ql hb h
   refine kr [] ?_
   cases h
   exact kf
  replace h:=ql hb h
  refine kr [] ?_
  cases h
  exact kf
 unfold qa at h
 refine yb ?_
 refine kr [] ?_
 refine qe (fun hb=> ?_) (fun hb=> ?_)
 ·replace h:=ql hb h
  refine kr [] ?_
  obtain ⟨x2,hx,h⟩:=bind_some h
  refine y7 env hx rfl rfl rfl rfl (Node.cells_eq x2) ?_
  refine kr [] ?_
  obtain ⟨x3,hx,h⟩:=bind_some h
  refine y7 env hx rfl rfl rfl rfl (Node.cells_eq x3) ?_
  refine kr [] ?_
  obtain ⟨x4,hx,h⟩:=bind_some h
  refine qn (qgx _ _ _ hx) ?_
  refine kr [] ?_
  refine qe (fun hb=> ?_) (fun hb=> ?_)
  ·replace h:=ql hb h
   refine kr [] ?_
   cases h
   exact kf
  replace h:=qm hb h
  refine kr [] ?_
  exact ja (by kernel_rfl) lA (Wx _ _ _ _ h)
 replace h:=qm hb h
 refine kr [] ?_
 cases h
 exact kf
theorem qgx:PC2 qgu u4:=qie.1
theorem Wx:PC3 qcp Qn:=qie.2
def Zl (t0:(List Unit)) (t1:(List Unit)) (t5:Int):Option Bool:=
 if (decide (t5 < ((t0.map Unit.cells).length:Int)))=true then
  ix t0 t5 >>=fun x1=>
  ix t1 t5 >>=fun x2=>
  if (!decide (x1.Path=x2.Path))=true then
   some false
  else
   ix t0 t5 >>=fun x3=>
   ix t1 t5 >>=fun x4=>
   if (!decide (x3.Text=x4.Text))=true then
    some false
   else
    ix t0 t5 >>=fun x5=>
    ix t1 t5 >>=fun x6=>
    if (!(x5.Broken==x6.Broken))=true then
     some false
    else
     ix t0 t5 >>=fun x7=>
     ix t1 t5 >>=fun x8=>
     u4 x7.Tree x8.Tree >>=fun x9=>
     if (!x9)=true then
      some false
     else
      Zl (qa t0) (qa t1) (IntKind.i64.wrap (t5+(1:Int)))
 else
  some true
 partial_fixpoint
@[reducible] def qg3 (t0:(List Unit)) (t1:(List Unit)) (t5:Int) (r:Bool):Prop:=
  Ok Tryz.prog G tt 68 0 (Ret Tryz.prog [.tmp 4] (fun y H=>Told Tryz.prog G H y (.bool r))) (.again (ju [] Tryz.f14 0).1 (ju [] Tryz.f14 0).2 (.n (.sl 7 false (t0.map Unit.cells)) (.n (.sl 7 false (t1.map Unit.cells)) .z (.n (.int .i64 t5) .z .z)) .z) 0 [])
theorem qcu:PC3 qg3 Zl:=by
 refine Zl.partial_correctness qg3 (fun Zl qcu t0 t1 t5 r h=> ?_)
 unfold qa at h
 refine yb ?_
 refine kr [] ?_
 refine qe (fun hb=> ?_) (fun hb=> ?_)
 ·replace h:=ql hb h
  refine kr [] ?_
  obtain ⟨x1,hx,h⟩:=bind_some h
  refine y7 env hx rfl rfl rfl rfl rfl ?_
  refine kr [] ?_
  obtain ⟨x2,hx,h⟩:=bind_some h
  refine y7 env hx rfl rfl rfl rfl rfl ?_
  refine kr [] ?_
  refine q9 (fun hb=> ?_) (fun hb=> ?_)
  ·replace h:=qm hb h
   refine kr [] ?_
   obtain ⟨x3,hx,h⟩:=bind_some h
   refine y7 env hx rfl rfl rfl rfl rfl ?_
   refine kr [] ?_
   obtain ⟨x4,hx,h⟩:=bind_some h
   refine y7 env hx rfl rfl rfl rfl rfl ?_
   refine kr [] ?_
   refine q9 (fun hb=> ?_) (fun hb=> ?_)
   ·replace h:=qm hb h
    refine kr [] ?_
    obtain ⟨x5,hx,h⟩:=bind_some h
    refine y7 env hx rfl rfl rfl rfl rfl ?_
    refine kr [] ?_
    obtain ⟨x6,hx,h⟩:=bind_some h
    refine y7 env hx rfl rfl rfl rfl rfl ?_
    refine kr [] ?_
    refine q9 (fun hb=> ?_) (fun hb=> ?_)
    ·replace h:=qm hb h
     refine kr [] ?_
     obtain ⟨x7,hx,h⟩:=bind_some h
     refine y7 env hx rfl rfl rfl rfl rfl ?_
     refine kr [] ?_
     obtain ⟨x8,hx,h⟩:=bind_some h
     refine y7 env hx rfl rfl rfl rfl rfl ?_
     refine kr [] ?_
     obtain ⟨x9,hx,h⟩:=bind_some h
     refine qn (qgx _ _ _ hx) ?_
     refine kr [] ?_
     refine qe (fun hb=> ?_) (fun hb=> ?_)
     ·replace h:=ql hb h
      refine kr [] ?_
      cases h
      exact kf
     replace h:=qm hb h
     refine kr [] ?_
     exact ja (by kernel_rfl) lA (qcu _ _ _ _ h)
    replace h:=ql hb h
    refine kr [] ?_
    cases h
    exact kf
   replace h:=ql hb h
   refine kr [] ?_
   cases h
   exact kf
  replace h:=ql hb h
  refine kr [] ?_
  cases h
  exact kf
 replace h:=qm hb h
 refine kr [] ?_
 cases h
 exact kf
def qd7 (a0:(List Unit)) (a1:(List Unit)):Option Bool:=
 if (!decide (((a0.map Unit.cells).length:Int)=((a1.map Unit.cells).length:Int)))=true then
  some false
 else
  Zl a0 a1 (0:Int)
@[reducible] def quy (a0:(List Unit)) (a1:(List Unit)) (r:Bool):Prop:=
  Fn Tryz.prog G 14 [(.sl 7 false (a0.map Unit.cells)),(.sl 7 false (a1.map Unit.cells))] (.bool r)
theorem quz:PC2 quy qd7:=fun a0 a1 r h=>by
 rw [qd7.eq_def] at h
 refine z8 (T:=tt) (N:=68) (rs:= [.tmp 4]) (fun vs w=>by simp) Tryz.func14 rfl rfl rfl rfl (by kernel_rfl) (yk rfl) (zt _ rfl) ?_
 refine kr [] ?_
 refine qe (fun hb=> ?_) (fun hb=> ?_)
 ·replace h:=ql hb h
  refine kr [] ?_
  cases h
  exact kf
 replace h:=qm hb h
 refine kr [] ?_
 exact jr (by kernel_rfl) lA (qcu _ _ _ _ h)
def J5 (t0:BA) (t1:BA):Option Bool:=
 if (decide (t0=(⟨#[47]⟩:BA)))=true then
  some (decide (t1=(⟨#[47]⟩:BA)))
 else
  some false
@[reducible] def qkb (t0:BA) (t1:BA) (r:Bool):Prop:=
  Ok Tryz.prog G tt 38 0 (Ret Tryz.prog [.tmp 4] (fun y H=>Told Tryz.prog G H y (.bool r))) (.go [] (v8 [11] Tryz.f46 11) [] (.n (.str t0) (.n (.str t1) .z .z) .z) 0 [])
theorem qd4:PC2 qkb J5:=fun t0 t1 r h=>by
 rw [J5.eq_def] at h
 refine kr [11] ?_
 refine qr (fun hb=> ?_) (fun hb=> ?_)
 ·replace h:=ql hb h
  refine kr [11] ?_
  cases h
  exact kf
 replace h:=qm hb h
 refine kr [11] ?_
 cases h
 exact kf
def qa7 (a0:BA) (a1:BA):Option Bool:=
 if (decide (a0=(⟨#[]⟩:BA)))=true then
  some false
 else
  if (decide (a1=(⟨#[]⟩:BA)))=true then
   some false
  else
   sx a0 (IntKind.i64.wrap ((a0.size:Int) - (1:Int))) >>=fun x1=>
   Zj x1 >>=fun x2=>
   if x2=true then
    sx a1 (0:Int) >>=fun x3=>
    Zj x3 >>=fun x4=>
    if x4=true then
     some true
    else
     if (decide (a0=(⟨#[61]⟩:BA)))=true then
      if (decide (a1=(⟨#[61]⟩:BA)))=true then
       some true
      else
       some (decide (a1=(⟨#[61,61]⟩:BA)))
     else
      J5 a0 a1
   else
    if (decide (a0=(⟨#[61]⟩:BA)))=true then
     if (decide (a1=(⟨#[61]⟩:BA)))=true then
      some true
     else
      some (decide (a1=(⟨#[61,61]⟩:BA)))
    else
     J5 a0 a1
@[reducible] def qqs (a0:BA) (a1:BA) (r:Bool):Prop:=
  Fn Tryz.prog G 46 [(.str a0),(.str a1)] (.bool r)
theorem qq0:PC2 qqs qa7:=fun a0 a1 r h=>by
 rw [qa7.eq_def] at h
 refine z8 (T:=tt) (N:=38) (rs:= [.tmp 4]) (fun vs w=>by simp) Tryz.func46 rfl rfl rfl rfl (by kernel_rfl) (yk rfl) (zt _ rfl) ?_
 refine kr [11] ?_
 refine q9 (fun hb=> ?_) (fun hb=> ?_)
 ·replace h:=qm hb h
  refine kr [11] ?_
  refine qe (fun hb=> ?_) (fun hb=> ?_)
  ·replace h:=ql hb h
   refine kr [11] ?_
   cases h
   exact kf
  replace h:=qm hb h
  refine kr [11] ?_
  obtain ⟨x1,hx,h⟩:=bind_some h
  refine qqq env hx rfl rfl rfl rfl ?_
  refine kr [11] ?_
  obtain ⟨x2,hx,h⟩:=bind_some h
  refine qn (qcr _ _ hx) ?_
  refine kr [11] ?_
  refine qr (fun hb=> ?_) (fun hb=> ?_)
  ·replace h:=ql hb h
   refine kr [11] ?_
   obtain ⟨x3,hx,h⟩:=bind_some h
   refine qqq env hx rfl rfl rfl rfl ?_
   refine kr [11] ?_
   obtain ⟨x4,hx,h⟩:=bind_some h
   refine qn (qcr _ _ hx) ?_
   refine kr [11] ?_
   refine qe (fun hb=> ?_) (fun hb=> ?_)
   ·replace h:=ql hb h
    refine kr [11] ?_
    cases h
    exact kf
   replace h:=qm hb h
   refine kr [11] ?_
   refine qe (fun hb=> ?_) (fun hb=> ?_)
   ·replace h:=ql hb h
    refine kr [11] ?_
    refine q9 (fun hb=> ?_) (fun hb=> ?_)
    ·replace h:=qm hb h
     refine kr [11] ?_
     cases h
     exact kf
    replace h:=ql hb h
    refine kr [11] ?_
    cases h
    exact kf
   replace h:=qm hb h
   refine kr [11] ?_
   exact qx (by kernel_rfl) rfl lA (qd4 _ _ _ h)
  replace h:=qm hb h
  refine kr [11] ?_
  refine qe (fun hb=> ?_) (fun hb=> ?_)
  ·replace h:=ql hb h
   refine kr [11] ?_
   refine q9 (fun hb=> ?_) (fun hb=> ?_)
   ·replace h:=qm hb h
    refine kr [11] ?_
    cases h
    exact kf
   replace h:=ql hb h
   refine kr [11] ?_
   cases h
   exact kf
  replace h:=qm hb h
  refine kr [11] ?_
  exact qx (by kernel_rfl) rfl lA (qd4 _ _ _ h)
 replace h:=ql hb h
 refine kr [11] ?_
 cases h
 exact kf
def Jt  :Option Int:=
 some (0:Int)
@[reducible] def qha  (r:Int):Prop:=
  Ok Tryz.prog G tt 21 0 (Ret Tryz.prog [.tmp 2] (fun y H=>Told Tryz.prog G H y (.int .i64 r))) (.go [] (v8 [20] Tryz.f74 20) [] .z 0 [])
theorem qbf:PC0 qha Jt:=fun  r h=>by
 rw [Jt.eq_def] at h
 refine kr [20] ?_
 cases h
 exact kf
def Yr (a0 : Int):Option Int:=
 if (decide (a0=(2:Int)))=true then
  some (1:Int)
 else
  if (decide (a0=(7:Int)))=true then
   some (1:Int)
  else
   if (decide (a0=(9:Int)))=true then
    some (1:Int)
   else
    if (decide (a0=(10:Int)))=true then
     some (2:Int)
    else
     if (decide (a0=(11:Int)))=true then
      some (2:Int)
     else
      if (decide (a0=(12:Int)))=true then
       some (2:Int)
      else
       if (decide (a0=(13:Int)))=true then
        some (2:Int)
       else
        if (decide (a0=(15:Int)))=true then
         some (2:Int)
        else
         if (decide (a0=(16:Int)))=true then
          some (2:Int)
         else
          if (decide ((17:Int)≤a0))=true then
           if (decide (a0≤(26:Int)))=true then
            some (3:Int)
           else
            Jt 
          else
           Jt 
@[reducible] def qln (a0:Int) (r:Int):Prop:=
  Fn Tryz.prog G 74 [(.int .i64 a0)] (.int .i64 r)
theorem qej:PC1 qln Yr:=fun a0 r h=>by
 rw [Yr.eq_def] at h
 refine z8 (T:=tt) (N:=21) (rs:= [.tmp 2]) (fun vs w=>by simp) Tryz.func74 rfl rfl rfl rfl (by kernel_rfl) (yk rfl) (zt _ rfl) ?_
 refine kr [20] ?_
 refine qe (fun hb=> ?_) (fun hb=> ?_)
 ·replace h:=ql hb h
  refine kr [20] ?_
  cases h
  exact kf
 replace h:=qm hb h
 refine kr [20] ?_
 refine qe (fun hb=> ?_) (fun hb=> ?_)
 ·replace h:=ql hb h
  refine kr [20] ?_
  cases h
  exact kf
 replace h:=qm hb h
 refine kr [20] ?_
 refine qe (fun hb=> ?_) (fun hb=> ?_)
 ·replace h:=ql hb h
  refine kr [20] ?_
  cases h
  exact kf
 replace h:=qm hb h
 refine kr [20] ?_
 refine qe (fun hb=> ?_) (fun hb=> ?_)
 ·replace h:=ql hb h
  refine kr [20] ?_
  cases h
  exact kf
 replace h:=qm hb h
 refine kr [20] ?_
 refine qe (fun hb=> ?_) (fun hb=> ?_)
 ·replace h:=ql hb h
  refine kr [20] ?_
  cases h
  exact kf
 replace h:=qm hb h
 refine kr [20] ?_
 refine qe (fun hb=> ?_) (fun hb=> ?_)
 ·replace h:=ql hb h
  refine kr [20] ?_
  cases h
  exact kf
 replace h:=qm hb h
 refine kr [20] ?_
 refine qe (fun hb=> ?_) (fun hb=> ?_)
 ·replace h:=ql hb h
  refine kr [20] ?_
  cases h
  exact kf
 replace h:=qm hb h
 refine kr [20] ?_
 refine qe (fun hb=> ?_) (fun hb=> ?_)
 ·replace h:=ql hb h
  refine kr [20] ?_
  cases h
  exact kf
 replace h:=qm hb h
 refine kr [20] ?_
 refine qe (fun hb=> ?_) (fun hb=> ?_)
 ·replace h:=ql hb h
  refine kr [20] ?_
  cases h
  exact kf
 replace h:=qm hb h
 refine kr [20] ?_
 refine qr (fun hb=> ?_) (fun hb=> ?_)
 ·replace h:=ql hb h
  refine kr [20] ?_
  refine qe (fun hb=> ?_) (fun hb=> ?_)
  ·replace h:=ql hb h
   refine kr [20] ?_
   cases h
   exact kf
  replace h:=qm hb h
  refine kr [20] ?_
  exact qx (by kernel_rfl) rfl lA (qbf _ h)
 replace h:=qm hb h
 refine kr [20] ?_
 exact qx (by kernel_rfl) rfl lA (qbf _ h)
def K7 (a0:Int):Option BA:=
 J6 (⟨#[9]⟩:BA) a0 >>=fun x1=>
 cat (⟨#[10]⟩:BA) x1 >>=fun x2=>
 some x2
@[reducible] def qqt (a0:Int) (r:BA):Prop:=
  Fn Tryz.prog G 148 [(.int .i64 a0)] (.str r)
theorem qh6:PC1 qqt K7:=fun a0 r h=>by
 rw [K7.eq_def] at h
 refine z8 (T:=tt) (N:=6) (rs:= [.tmp 2]) (fun vs w=>by simp) Tryz.func148 rfl rfl rfl rfl (by kernel_rfl) (yk rfl) (zt _ rfl) ?_
 refine kr [] ?_
 obtain ⟨x1,hx,h⟩:=bind_some h
 refine qn (qke _ _ _ hx) ?_
 refine kr [] ?_
 obtain ⟨x2,hx,h⟩:=bind_some h
 refine quv env hx rfl rfl ?_
 refine kr [] ?_
 cases h
 exact kf
def yl (l:LU) (c:Int):Option LU:=if l.length+1≤140737488355328∧0≤c∧c < 256 then some (l++ [c.toNat.toUInt8]) else none
theorem Qd (l:LU) (c:Int) (r:LU) (h:yl l c=some r):AC Tryz.prog G 48 [.ptr 0 0 0, .int .u8 c] 2 [(0, .var 86 [.optr 0 0 0, .bs 1 1 1 0 l.length]),(1, .row 5 (l.map c8).flatten)] .nili 3 [(0, .var 86 [.optr 0 0 0, .bs 1 1 2 0 r.length]),(2, .row 5 (r.map c8).flatten)]:=by
 unfold yl at h
 split at h
 ·rename_i hc;cases h;exact qu6 l c hc
 cases h
def yw (l:LU) (s:BA):Option LU:=if l.length+s.size≤140737488355328 then some (l++s.data.toList) else none
theorem Z2 (l:LU) (s:BA) (r:LU) (h:yw l s=some r):AC Tryz.prog G 49 [.ptr 0 0 0, .str s] 2 [(0, .var 86 [.optr 0 0 0, .bs 1 1 1 0 l.length]),(1, .row 5 (l.map c8).flatten)] (.tup [.int .i64 (s.size:Int), .nili]) 3 [(0, .var 86 [.optr 0 0 0, .bs 1 1 2 0 r.length]),(2, .row 5 (r.map c8).flatten)]:=by
 unfold yw at h
 split at h
 ·rename_i hc;cases h;exact qq7 l s hc
 cases h
def Qq (t0:BA) (t1:BA) (o0:BA) (o1_1:LU):Option (BA × LU):=
 yw o1_1 t0 >>=fun x7=>
 yw x7 t1 >>=fun x8=>
 some (t1,x8)
@[reducible] def qrn (t0:BA) (t1:BA) (o0:BA) (o1_1:LU) (r:BA × LU):Prop:=
  Ok Tryz.prog G tt 27 3 (Ret Tryz.prog [] (fun y H=>vj Tryz.prog G 3 H y (.tup []) ⟨4, [(0, .var 9 [(.str r.1)]),(1, .var 86 [(.optr 1 1 0),(.bs 1 2 3 0 r.2.length)]),(3, .row 5 (r.2.map c8).flatten)]⟩)) (.go [] (v8 [20] Tryz.f45 20) [] (.n (.str t0) (.n (.str t1) (.n (.ptr 1 1 0) .z .z) .z) (.n (.ptr 0 0 0) .z .z)) 5 [(0, .var 9 [(.str o0)]),(1, .var 86 [(.optr 1 1 0),(.bs 1 2 4 0 o1_1.length)]),(4, .row 5 (o1_1.map c8).flatten)])
theorem Jo:PC4 qrn Qq:=fun t0 t1 o0 o1_1 r h=>by
 rw [Qq.eq_def] at h
 refine kr [20] ?_
 obtain ⟨x7,hx,h⟩:=bind_some h
 refine qb (AC.g9 (Z2 _ _ _ hx) [1,2] [1,4]) ?_
 refine kr [20] ?_
 obtain ⟨x8,hx,h⟩:=bind_some h
 refine qb (AC.g9 (Z2 _ _ _ hx) [1,2] [1,5]) ?_
 refine kr [20] ?_
 cases h
 exact jh env rfl (tS [some 0,some 1,some 2] (sV (lS lN) (sV (lS (lS lN)) (sR zr q8))) (jy jf))
def qi0 (a0:BA) (a1:BA) (a2:BA) (a3:LU):Option (BA × LU):=
 if (decide (a0=(⟨#[]⟩:BA)))=true then
  qa7 a2 a1 >>=fun x1=>
  if x1=true then
   yl a3 (32:Int) >>=fun x4=>
   Qq a0 a1 a2 x4
  else
   if (decide (a2=(⟨#[47]⟩:BA)))=true then
    y5 a0 (⟨#[47]⟩:BA) >>=fun x2=>
    if x2=true then
     yl a3 (32:Int) >>=fun x3=>
     Qq a0 a1 a2 x3
    else
     Qq a0 a1 a2 a3
   else
    Qq a0 a1 a2 a3
 else
  if (decide (a2=(⟨#[47]⟩:BA)))=true then
   y5 a0 (⟨#[47]⟩:BA) >>=fun x5=>
   if x5=true then
    yl a3 (32:Int) >>=fun x6=>
    Qq a0 a1 a2 x6
   else
    Qq a0 a1 a2 a3
  else
   Qq a0 a1 a2 a3
@[reducible] def q2v (a0:BA) (a1:BA) (a2:BA) (a3:LU) (r:BA × LU):Prop:=
  AC Tryz.prog G 45 [(.str a0),(.str a1),(.ptr 0 0 0),(.ptr 1 1 0)] 3 [(0, .var 9 [(.str a2)]),(1, .var 86 [(.optr 1 1 0),(.bs 1 2 2 0 a3.length)]),(2, .row 5 (a3.map c8).flatten)] (.tup []) 4 [(0, .var 9 [(.str r.1)]),(1, .var 86 [(.optr 1 1 0),(.bs 1 2 3 0 r.2.length)]),(3, .row 5 (r.2.map c8).flatten)]
theorem q2w:PC4 q2v qi0:=fun a0 a1 a2 a3 r h=>by
 rw [qi0.eq_def] at h
 refine ⟨?_,(zm rfl rfl (zm rfl rfl (jn zr rfl j3))),(qj (qj (za zr zg))),(zn rfl (zn rfl (jt zr j6))),(qj (qj (za zr zg))),rfl,rfl,rfl,rfl⟩
 refine ku (T:=tt) (N:=27) (rs:= []) (fun vs w=>by simp) Tryz.func45 rfl rfl rfl (by kernel_rfl) (by kernel_rfl) ?_
 refine kr [20] ?_
 refine qr (fun hb=> ?_) (fun hb=> ?_)
 ·replace h:=ql hb h
  refine kr [20] ?_
  obtain ⟨x1,hx,h⟩:=bind_some h
  refine qn (qq0 _ _ _ hx) ?_
  refine kr [20] ?_
  refine q9 (fun hb=> ?_) (fun hb=> ?_)
  ·replace h:=qm hb h
   refine kr [20] ?_
   refine qr (fun hb=> ?_) (fun hb=> ?_)
   ·replace h:=ql hb h
    refine kr [20] ?_
    obtain ⟨x2,hx,h⟩:=bind_some h
    refine qn (Zw _ _ _ hx) ?_
    refine kr [20] ?_
    refine qe (fun hb=> ?_) (fun hb=> ?_)
    ·replace h:=ql hb h
     refine kr [20] ?_
     obtain ⟨x3,hx,h⟩:=bind_some h
     refine qb (AC.g9 (Qd _ _ _ hx) [1,2] [1,2]) ?_
     refine kr [20] ?_
     exact qx (by kernel_rfl) rfl lQ (Jo _ _ _ _ _ h)
    replace h:=qm hb h
    refine kr [20] ?_
    exact qx (by kernel_rfl) rfl lQ (Jo _ _ _ _ _ h)
   replace h:=qm hb h
   refine kr [20] ?_
   exact qx (by kernel_rfl) rfl lQ (Jo _ _ _ _ _ h)
  replace h:=ql hb h
  refine kr [20] ?_
  obtain ⟨x4,hx,h⟩:=bind_some h
  refine qb (AC.g9 (Qd _ _ _ hx) [1,2] [1,2]) ?_
  refine kr [20] ?_
  exact qx (by kernel_rfl) rfl lQ (Jo _ _ _ _ _ h)
 replace h:=qm hb h
 refine kr [20] ?_
 refine qr (fun hb=> ?_) (fun hb=> ?_)
 ·replace h:=ql hb h
  refine kr [20] ?_
  obtain ⟨x5,hx,h⟩:=bind_some h
  refine qn (Zw _ _ _ hx) ?_
  refine kr [20] ?_
  refine qe (fun hb=> ?_) (fun hb=> ?_)
  ·replace h:=ql hb h
   refine kr [20] ?_
   obtain ⟨x6,hx,h⟩:=bind_some h
   refine qb (AC.g9 (Qd _ _ _ hx) [1,2] [1,2]) ?_
   refine kr [20] ?_
   exact qx (by kernel_rfl) rfl lQ (Jo _ _ _ _ _ h)
  replace h:=qm hb h
  refine kr [20] ?_
  exact qx (by kernel_rfl) rfl lQ (Jo _ _ _ _ _ h)
 replace h:=qm hb h
 refine kr [20] ?_
 exact qx (by kernel_rfl) rfl lQ (Jo _ _ _ _ _ h)
def qbs (t1:BA) (t2:BA) (t6:BA) (o0_1:Node) (a0:Int) (a1:BA) (a2:LB) (a3:LN) (o0_3:Int) (o2:BA) (o3_1:LU):Option (BA × LU × LB):=
 app 16 a2 ([t1]) >>=fun x2=>
 qi0 t6 t2 o2 o3_1 >>=fun x3=>
 some (x3.1,x3.2,x2)
@[reducible] def qux (t1:BA) (t2:BA) (t6:BA) (o0_1:Node) (a0:Int) (a1:BA) (a2:LB) (a3:LN) (o0_3:Int) (o2:BA) (o3_1:LU) (r:BA × LU × LB):Prop:=
  Ok Tryz.prog G tt 53 7 (Ret Tryz.prog [] (fun y H=>vj Tryz.prog G 7 H y (.tup []) ⟨9, [(0, .var 123 [(.ptr 1 1 0),(.int .i64 o0_1.kind),(.str o0_1.text),(.sl 1 false (o0_1.gaps.map sc)),(.sl 4 false (o0_1.kids.map Node.cells)),(.int .i64 a0),(.str a1),(.bs 1 5 8 0 r.2.2.length),(.bs 4 6 6 0 a3.length),(.int .i64 o0_3)]),(1, .var 96 [(.fn 45 [(.ptr 2 2 0),(.ptr 3 3 0)])]),(2, .var 9 [(.str r.1)]),(3, .var 86 [(.optr 3 3 0),(.bs 1 4 7 0 r.2.1.length)]),(7, .row 5 (r.2.1.map c8).flatten),(8, .row 9 (r.2.2.map sc).flatten),(6, .row 45 (a3.map Node.cells).flatten)]⟩)) (.go [] (v8 [22] Tryz.f114 22) [] (.n (.ptr 0 0 0) (.n (.str t1) .z .z) (.n (.str t2) .z (.n (.str t6) .z .z))) 9 [(0, .var 123 [(.ptr 1 1 0),(.int .i64 o0_1.kind),(.str o0_1.text),(.sl 1 false (o0_1.gaps.map sc)),(.sl 4 false (o0_1.kids.map Node.cells)),(.int .i64 a0),(.str a1),(.bs 1 5 8 0 a2.length),(.bs 4 6 6 0 a3.length),(.int .i64 o0_3)]),(1, .var 96 [(.fn 45 [(.ptr 2 2 0),(.ptr 3 3 0)])]),(2, .var 9 [(.str o2)]),(3, .var 86 [(.optr 3 3 0),(.bs 1 4 7 0 o3_1.length)]),(7, .row 5 (o3_1.map c8).flatten),(8, .row 9 (a2.map sc).flatten),(6, .row 45 (a3.map Node.cells).flatten)])
theorem qls:PC11 qux qbs:=fun t1 t2 t6 o0_1 a0 a1 a2 a3 o0_3 o2 o3_1 r h=>by
 rw [qbs.eq_def] at h
 refine kr [22] ?_
 obtain ⟨x2,hx,h⟩:=bind_some h
 have hp_x2:=qav hx (by simp)
 refine qbv (C:=sc) env hx rfl rfl (by simp) (fun _=>rfl) rfl rfl rfl rfl rfl (by decide) rfl rfl rfl ?_
 refine kr [22] ?_
 obtain ⟨x3,hx,h⟩:=bind_some h
 refine qb (AC.g9 (q2w _ _ _ _ _ hx) [2,3,4] [2,3,7]) ?_
 refine kr [22] ?_
 cases h
 exact jh env rfl (tS [some 0,some 1,some 2,some 3,some 4,some 5,some 6] (sV (lS (lS (lS (lS (lS (lS (lS (lS (lS (lS lN)))))))))) (sV (lS lN) (sV (lS lN) (sV (lS (lS lN)) (sR zr (sR zp (sR qo q8))))))) (jy jf))
def y3 (a0:BA) (a3:LU) (a0_n:Node) (a4:Int) (a5:BA) (a6:LB) (a7:LN) (a8:Int) (a1:BA) (a2:BA):Option (BA × LU × LB):=
 if (decide ((a6.length:Int) < ((a0_n.gaps.map sc).length:Int)))=true then
  ix a0_n.gaps (a6.length:Int) >>=fun x1=>
  qbs a1 a2 x1 a0_n a4 a5 a6 a7 a8 a0 a3
 else
  qbs a1 a2 a1 a0_n a4 a5 a6 a7 a8 a0 a3
@[reducible] def q54 (a0:BA) (a3:LU) (a0_n:Node) (a4:Int) (a5:BA) (a6:LB) (a7:LN) (a8:Int) (a1:BA) (a2:BA) (r:BA × LU × LB):Prop:=
  AC Tryz.prog G 114 [(.ptr 0 0 0),(.str a1),(.str a2)] 7 [(0, .var 123 [(.ptr 1 1 0),(.int .i64 a0_n.kind),(.str a0_n.text),(.sl 1 false (a0_n.gaps.map sc)),(.sl 4 false (a0_n.kids.map Node.cells)),(.int .i64 a4),(.str a5),(.bs 1 5 5 0 a6.length),(.bs 4 6 6 0 a7.length),(.int .i64 a8)]),(1, .var 96 [(.fn 45 [(.ptr 2 2 0),(.ptr 3 3 0)])]),(2, .var 9 [(.str a0)]),(3, .var 86 [(.optr 3 3 0),(.bs 1 4 4 0 a3.length)]),(4, .row 5 (a3.map c8).flatten),(5, .row 9 (a6.map sc).flatten),(6, .row 45 (a7.map Node.cells).flatten)] (.tup []) 9 [(0, .var 123 [(.ptr 1 1 0),(.int .i64 a0_n.kind),(.str a0_n.text),(.sl 1 false (a0_n.gaps.map sc)),(.sl 4 false (a0_n.kids.map Node.cells)),(.int .i64 a4),(.str a5),(.bs 1 5 8 0 r.2.2.length),(.bs 4 6 6 0 a7.length),(.int .i64 a8)]),(1, .var 96 [(.fn 45 [(.ptr 2 2 0),(.ptr 3 3 0)])]),(2, .var 9 [(.str r.1)]),(3, .var 86 [(.optr 3 3 0),(.bs 1 4 7 0 r.2.1.length)]),(7, .row 5 (r.2.1.map c8).flatten),(8, .row 9 (r.2.2.map sc).flatten),(6, .row 45 (a7.map Node.cells).flatten)]
theorem jq:PC10 q54 y3:=fun a0 a3 a0_n a4 a5 a6 a7 a8 a1 a2 r h=>by
 rw [y3.eq_def] at h
 refine ⟨?_,(zm rfl rfl (zm rfl rfl (zm rfl rfl (zm rfl rfl (jn zr rfl (jn zp rfl (jn qo rfl j3))))))),(qj (qj (qj (qj (za zr (za zp (za qo zg))))))),(zn rfl (zn rfl (zn rfl (zn rfl (jt zr (jt zp (jt qo j6))))))),(qj (qj (qj (qj (za zr (za zp (za qo zg))))))),rfl,rfl,rfl,rfl⟩
 refine ku (T:=tt) (N:=53) (rs:= []) (fun vs w=>by simp) Tryz.func114 rfl rfl rfl (by kernel_rfl) (by kernel_rfl) ?_
 refine kr [22] ?_
 refine qe (fun hb=> ?_) (fun hb=> ?_)
 ·replace h:=ql hb h
  refine kr [22] ?_
  obtain ⟨x1,hx,h⟩:=bind_some h
  refine y7 env hx rfl rfl rfl rfl rfl ?_
  refine kr [22] ?_
  exact qx (by kernel_rfl) rfl lQ (qls _ _ _ _ _ _ _ _ _ _ _ _ h)
 replace h:=qm hb h
 refine kr [22] ?_
 exact qx (by kernel_rfl) rfl lQ (qls _ _ _ _ _ _ _ _ _ _ _ _ h)
def K9 (t1:BA) (o0_1:Node) (a0:Int) (a1:BA) (a2:LB) (a3:LN) (o0_3:Int) (o2:BA) (o3_1:LU):Option (BA × LU × LB × LN × Int):=
 y3 o2 o3_1 o0_1 a0 a1 a2 a3 o0_3 t1 (⟨#[]⟩:BA) >>=fun x78=>
 some (x78.1,x78.2.1,x78.2.2,a3,o0_3)
@[reducible] def qqw (t1:BA) (o0_1:Node) (a0:Int) (a1:BA) (a2:LB) (a3:LN) (o0_3:Int) (o2:BA) (o3_1:LU) (r:BA × LU × LB × LN × Int):Prop:=
  Ok Tryz.prog G tt 146 7 (Ret Tryz.prog [] (fun y H=>vj Tryz.prog G 7 H y (.tup []) ⟨10, [(0, .var 123 [(.ptr 1 1 0),(.int .i64 o0_1.kind),(.str o0_1.text),(.sl 1 false (o0_1.gaps.map sc)),(.sl 4 false (o0_1.kids.map Node.cells)),(.int .i64 a0),(.str a1),(.bs 1 5 8 0 r.2.2.1.length),(.bs 4 6 9 0 r.2.2.2.1.length),(.int .i64 r.2.2.2.2)]),(1, .var 96 [(.fn 45 [(.ptr 2 2 0),(.ptr 3 3 0)])]),(2, .var 9 [(.str r.1)]),(3, .var 86 [(.optr 3 3 0),(.bs 1 4 7 0 r.2.1.length)]),(7, .row 5 (r.2.1.map c8).flatten),(8, .row 9 (r.2.2.1.map sc).flatten),(9, .row 45 (r.2.2.2.1.map Node.cells).flatten)]⟩)) (.go [] (v8 [22,33] Tryz.f77 33) [] (.n (.ptr 0 0 0) (.n (.str t1) .z .z) .z) 13 [(0, .var 123 [(.ptr 1 1 0),(.int .i64 o0_1.kind),(.str o0_1.text),(.sl 1 false (o0_1.gaps.map sc)),(.sl 4 false (o0_1.kids.map Node.cells)),(.int .i64 a0),(.str a1),(.bs 1 5 11 0 a2.length),(.bs 4 6 12 0 a3.length),(.int .i64 o0_3)]),(1, .var 96 [(.fn 45 [(.ptr 2 2 0),(.ptr 3 3 0)])]),(2, .var 9 [(.str o2)]),(3, .var 86 [(.optr 3 3 0),(.bs 1 4 10 0 o3_1.length)]),(10, .row 5 (o3_1.map c8).flatten),(11, .row 9 (a2.map sc).flatten),(12, .row 45 (a3.map Node.cells).flatten)])
theorem qh9:PC9 qqw K9:=fun t1 o0_1 a0 a1 a2 a3 o0_3 o2 o3_1 r h=>by
 rw [K9.eq_def] at h
 refine kr [22,33] ?_
 obtain ⟨x78,hx,h⟩:=bind_some h
 refine qb (AC.g9 (jq _ _ _ _ _ _ _ _ _ _ _ hx) [0,1,2,3,4,5,6] [0,1,2,3,10,11,12]) ?_
 refine kr [22,33] ?_
 cases h
 exact jh env rfl (tS [some 0,some 1,some 2,some 3,some 4,some 5,some 6] (sV (lS (lS (lS (lS (lS (lS (lS (lS (lS (lS lN)))))))))) (sV (lS lN) (sV (lS lN) (sV (lS (lS lN)) (sR zr (sR zp (sR qo q8))))))) (jy jf))
def Kr (o1:BA) (o2_1:LU) (o6_1:Node) (a0:Int) (a1:BA) (a2:LB) (a3:LN) (o6_3:Int):Option (Node × BA × LU):=
 some ((Node.mk a0 a1 a2 a3),o1,o2_1)
@[reducible] def qrl (o1:BA) (o2_1:LU) (o6_1:Node) (a0:Int) (a1:BA) (a2:LB) (a3:LN) (o6_3:Int) (r:Node × BA × LU):Prop:=
  Ok Tryz.prog G tt 41 4 (Ret Tryz.prog [.cell 8 45] (fun y H=>vj Tryz.prog G 4 H y (.agg (z7 r.1)) ⟨5, [(0, .var 96 [(.fn 45 [(.ptr 1 1 0),(.ptr 2 2 0)])]),(1, .var 9 [(.str r.2.1)]),(2, .var 86 [(.optr 2 2 0),(.bs 1 3 4 0 r.2.2.length)]),(4, .row 5 (r.2.2.map c8).flatten)]⟩)) (.go [] (v8 [23,30] Tryz.f50 23) [] (.n .undef (.n .undef .z (.n .undef (.n (.ptr 6 6 0) .z .z) .z)) (.n .undef (.n .undef (.n (.ptr 5 5 0) .z .z) .z) .z)) 13 [(0, .var 96 [(.fn 45 [(.ptr 1 1 0),(.ptr 2 2 0)])]),(1, .var 9 [(.str o1)]),(2, .var 86 [(.optr 2 2 0),(.bs 1 3 12 0 o2_1.length)]),(12, .row 5 (o2_1.map c8).flatten),(4, .dead),(5, .var 45 [(.int .i64 0),(.str ⟨#[]⟩),(.sl 0 true []),(.sl 0 true [])]),(6, .var 123 [(.ptr 0 0 0),(.int .i64 o6_1.kind),(.str o6_1.text),(.sl 1 false (o6_1.gaps.map sc)),(.sl 4 false (o6_1.kids.map Node.cells)),(.int .i64 a0),(.str a1),(.bs 1 7 10 0 a2.length),(.bs 4 8 11 0 a3.length),(.int .i64 o6_3)]),(10, .row 9 (a2.map sc).flatten),(11, .row 45 (a3.map Node.cells).flatten)])
theorem qje:PC8 qrl Kr:=fun o1 o2_1 o6_1 a0 a1 a2 a3 o6_3 r h=>by
 rw [Kr.eq_def] at h
 refine kr [23,30] ?_
 cases h
 exact yp env rfl rfl (tS [some 0,some 1,some 2,some 3] (sV (lS lN) (sV (lS lN) (sV (lS (lS lN)) (sR zr q8)))) (yf (kw (qi (qh (zo rfl) rfl) (qi (qh (z6 rfl) rfl) (qi (qh (jm zp rfl) rfl) (qi (qh (jm qo rfl) rfl) kv))))) (by simp)))
def qad (o1:BA) (o2_1:LU) (o6_1:Node) (a0:Int) (a1:BA) (a2:LB) (a3:LN) (o6_3:Int):Option (Node × BA × LU):=
 Kr o1 o2_1 o6_1 a0 a1 a2 a3 o6_3
@[reducible] def qrk (o1:BA) (o2_1:LU) (o6_1:Node) (a0:Int) (a1:BA) (a2:LB) (a3:LN) (o6_3:Int) (r:Node × BA × LU):Prop:=
  Ok Tryz.prog G tt 41 4 (Ret Tryz.prog [.cell 8 45] (fun y H=>vj Tryz.prog G 4 H y (.agg (z7 r.1)) ⟨5, [(0, .var 96 [(.fn 45 [(.ptr 1 1 0),(.ptr 2 2 0)])]),(1, .var 9 [(.str r.2.1)]),(2, .var 86 [(.optr 2 2 0),(.bs 1 3 4 0 r.2.2.length)]),(4, .row 5 (r.2.2.map c8).flatten)]⟩)) (.go [] (v8 [23,30] Tryz.f50 30) [] (.n .undef (.n .undef .z (.n .undef (.n (.ptr 6 6 0) .z .z) .z)) (.n .undef (.n .undef (.n (.ptr 5 5 0) .z .z) .z) .z)) 13 [(0, .var 96 [(.fn 45 [(.ptr 1 1 0),(.ptr 2 2 0)])]),(1, .var 9 [(.str o1)]),(2, .var 86 [(.optr 2 2 0),(.bs 1 3 12 0 o2_1.length)]),(12, .row 5 (o2_1.map c8).flatten),(4, .dead),(5, .var 45 [(.int .i64 0),(.str ⟨#[]⟩),(.sl 0 true []),(.sl 0 true [])]),(6, .var 123 [(.ptr 0 0 0),(.int .i64 o6_1.kind),(.str o6_1.text),(.sl 1 false (o6_1.gaps.map sc)),(.sl 4 false (o6_1.kids.map Node.cells)),(.int .i64 a0),(.str a1),(.bs 1 7 10 0 a2.length),(.bs 4 8 11 0 a3.length),(.int .i64 o6_3)]),(10, .row 9 (a2.map sc).flatten),(11, .row 45 (a3.map Node.cells).flatten)])
theorem qjd:PC8 qrk qad:=fun o1 o2_1 o6_1 a0 a1 a2 a3 o6_3 r h=>by
 rw [qad.eq_def] at h
 refine kr [23,30] ?_
 exact qx (by kernel_rfl) rfl lQ (qje _ _ _ _ _ _ _ _ _ h)
mutual
def qdb (a0:BA) (a4:LU) (a1:Node) (a2:BA) (a3:Int):Option (Node × BA × LU):=
 Yr a1.kind >>=fun x1=>
 if (decide (x1=(3:Int)))=true then
  Yx (qa a0) (qa a4) (qa a1) a1.kind a1.text ([]:LB) ([]:LN) (qa a3) (qa a2) >>=fun x2=>
  Kr x2.1 x2.2.1 (qa a1) a1.kind a1.text x2.2.2.1 x2.2.2.2 (qa a3)
 else
  Yr a1.kind >>=fun x3=>
  if (decide (x3=(2:Int)))=true then
   K6 (qa a0) (qa a4) (qa a1) a1.kind a1.text ([]:LB) ([]:LN) (qa a3) (qa a2) >>=fun x4=>
   qad x4.1 x4.2.1 (qa a1) a1.kind a1.text x4.2.2.1 x4.2.2.2 (qa a3)
  else
   qfy (qa a0) (qa a4) (qa a1) a1.kind a1.text ([]:LB) ([]:LN) (qa a3) (qa a2) >>=fun x5=>
   qad x5.1 x5.2.1 (qa a1) a1.kind a1.text x5.2.2.1 x5.2.2.2.1 x5.2.2.2.2
 partial_fixpoint
def Yx (a0:BA) (a2:LU) (a0_n:Node) (a3:Int) (a4:BA) (a5:LB) (a6:LN) (a7:Int) (a1:BA):Option (BA × LU × LB × LN):=
 if (decide (a0_n.kind=(20:Int)))=true then
  y3 (qa a0) (qa a2) (qa a0_n) (qa a3) (qa a4) (qa a5) (qa a6) (qa a7) (qa a1) a0_n.text >>=fun x6=>
  y3 x6.1 x6.2.1 (qa a0_n) (qa a3) (qa a4) x6.2.2 (qa a6) (qa a7) (⟨#[]⟩:BA) (⟨#[40]⟩:BA) >>=fun x7=>
  qda x7.1 x7.2.1 (qa a0_n) (qa a3) (qa a4) x7.2.2 (qa a6) (qa a7) >>=fun x8=>
  some (x8.1,x8.2.1,x8.2.2.1,x8.2.2.2)
 else
  if (decide (a0_n.kind=(21:Int)))=true then
   uw (qa a0) (qa a2) (qa a0_n) (qa a3) (qa a4) (qa a5) (qa a6) (qa a7) (qa a1) >>=fun x9=>
   y3 x9.1 x9.2.1 (qa a0_n) (qa a3) (qa a4) (qa a5) x9.2.2 (qa a7) (⟨#[]⟩:BA) (⟨#[46]⟩:BA) >>=fun x10=>
   y3 x10.1 x10.2.1 (qa a0_n) (qa a3) (qa a4) x10.2.2 x9.2.2 (qa a7) (⟨#[]⟩:BA) a0_n.text >>=fun x11=>
   y3 x11.1 x11.2.1 (qa a0_n) (qa a3) (qa a4) x11.2.2 x9.2.2 (qa a7) (⟨#[]⟩:BA) (⟨#[40]⟩:BA) >>=fun x12=>
   qda x12.1 x12.2.1 (qa a0_n) (qa a3) (qa a4) x12.2.2 x9.2.2 (qa a7) >>=fun x13=>
   some (x13.1,x13.2.1,x13.2.2.1,x13.2.2.2)
  else
   if (decide (a0_n.kind=(22:Int)))=true then
    y3 (qa a0) (qa a2) (qa a0_n) (qa a3) (qa a4) (qa a5) (qa a6) (qa a7) (qa a1) (⟨#[110,101,119]⟩:BA) >>=fun x14=>
    y3 x14.1 x14.2.1 (qa a0_n) (qa a3) (qa a4) x14.2.2 (qa a6) (qa a7) (⟨#[32]⟩:BA) a0_n.text >>=fun x15=>
    y3 x15.1 x15.2.1 (qa a0_n) (qa a3) (qa a4) x15.2.2 (qa a6) (qa a7) (⟨#[]⟩:BA) (⟨#[40]⟩:BA) >>=fun x16=>
    y3 x16.1 x16.2.1 (qa a0_n) (qa a3) (qa a4) x16.2.2 (qa a6) (qa a7) (⟨#[]⟩:BA) (⟨#[41]⟩:BA) >>=fun x17=>
    some (x17.1,x17.2.1,x17.2.2,a6)
   else
    if (decide (a0_n.kind=(24:Int)))=true then
     uw (qa a0) (qa a2) (qa a0_n) (qa a3) (qa a4) (qa a5) (qa a6) (qa a7) (qa a1) >>=fun x18=>
     y3 x18.1 x18.2.1 (qa a0_n) (qa a3) (qa a4) (qa a5) x18.2.2 (qa a7) (⟨#[32]⟩:BA) a0_n.text >>=fun x19=>
     uw x19.1 x19.2.1 (qa a0_n) (qa a3) (qa a4) x19.2.2 x18.2.2 (qa a7) (⟨#[32]⟩:BA) >>=fun x20=>
     some (x20.1,x20.2.1,x19.2.2,x20.2.2)
    else
     if (decide (a0_n.kind=(25:Int)))=true then
      y3 (qa a0) (qa a2) (qa a0_n) (qa a3) (qa a4) (qa a5) (qa a6) (qa a7) (qa a1) a0_n.text >>=fun x21=>
      uw x21.1 x21.2.1 (qa a0_n) (qa a3) (qa a4) x21.2.2 (qa a6) (qa a7) (⟨#[]⟩:BA) >>=fun x22=>
      some (x22.1,x22.2.1,x21.2.2,x22.2.2)
     else
      if (decide (a0_n.kind=(26:Int)))=true then
       y3 (qa a0) (qa a2) (qa a0_n) (qa a3) (qa a4) (qa a5) (qa a6) (qa a7) (qa a1) (⟨#[40]⟩:BA) >>=fun x23=>
       uw x23.1 x23.2.1 (qa a0_n) (qa a3) (qa a4) x23.2.2 (qa a6) (qa a7) (⟨#[]⟩:BA) >>=fun x24=>
       y3 x24.1 x24.2.1 (qa a0_n) (qa a3) (qa a4) x23.2.2 x24.2.2 (qa a7) (⟨#[]⟩:BA) (⟨#[41]⟩:BA) >>=fun x25=>
       some (x25.1,x25.2.1,x25.2.2,x24.2.2)
      else
       y3 (qa a0) (qa a2) (qa a0_n) (qa a3) (qa a4) (qa a5) (qa a6) (qa a7) (qa a1) a0_n.text >>=fun x26=>
       some (x26.1,x26.2.1,x26.2.2,a6)
 partial_fixpoint
def K6 (a0:BA) (a2:LU) (a0_n:Node) (a3:Int) (a4:BA) (a5:LB) (a6:LN) (a7:Int) (a1:BA):Option (BA × LU × LB × LN):=
 if (decide (a0_n.kind=(10:Int)))=true then
  qcf (qa a0) (qa a2) (qa a0_n) (qa a3) (qa a4) (qa a5) (qa a6) (qa a7) (qa a1) (⟨#[108,101,116]⟩:BA) >>=fun x27=>
  some (x27.1,x27.2.1,x27.2.2.1,x27.2.2.2)
 else
  if (decide (a0_n.kind=(11:Int)))=true then
   y3 (qa a0) (qa a2) (qa a0_n) (qa a3) (qa a4) (qa a5) (qa a6) (qa a7) (qa a1) a0_n.text >>=fun x28=>
   y3 x28.1 x28.2.1 (qa a0_n) (qa a3) (qa a4) x28.2.2 (qa a6) (qa a7) (⟨#[32]⟩:BA) (⟨#[61]⟩:BA) >>=fun x29=>
   uw x29.1 x29.2.1 (qa a0_n) (qa a3) (qa a4) x29.2.2 (qa a6) (qa a7) (⟨#[32]⟩:BA) >>=fun x30=>
   y3 x30.1 x30.2.1 (qa a0_n) (qa a3) (qa a4) x29.2.2 x30.2.2 (qa a7) (⟨#[]⟩:BA) (⟨#[59]⟩:BA) >>=fun x31=>
   some (x31.1,x31.2.1,x31.2.2,x30.2.2)
  else
   if (decide (a0_n.kind=(12:Int)))=true then
    y3 (qa a0) (qa a2) (qa a0_n) (qa a3) (qa a4) (qa a5) (qa a6) (qa a7) (qa a1) (⟨#[114,101,116,117,114,110]⟩:BA) >>=fun x32=>
    uw x32.1 x32.2.1 (qa a0_n) (qa a3) (qa a4) x32.2.2 (qa a6) (qa a7) (⟨#[32]⟩:BA) >>=fun x33=>
    y3 x33.1 x33.2.1 (qa a0_n) (qa a3) (qa a4) x32.2.2 x33.2.2 (qa a7) (⟨#[]⟩:BA) (⟨#[59]⟩:BA) >>=fun x34=>
    some (x34.1,x34.2.1,x34.2.2,x33.2.2)
   else
    if (decide (a0_n.kind=(13:Int)))=true then
     if (decide (a0_n.kind=(15:Int)))=true then
      u5 (qa a1) (⟨#[119,104,105,108,101]⟩:BA) (qa a0_n) (qa a3) (qa a4) (qa a5) (qa a6) (qa a7) (qa a0) (qa a2)
     else
      u5 (qa a1) (⟨#[105,102]⟩:BA) (qa a0_n) (qa a3) (qa a4) (qa a5) (qa a6) (qa a7) (qa a0) (qa a2)
    else
     if (decide (a0_n.kind=(15:Int)))=true then
      if (decide (a0_n.kind=(15:Int)))=true then
       u5 (qa a1) (⟨#[119,104,105,108,101]⟩:BA) (qa a0_n) (qa a3) (qa a4) (qa a5) (qa a6) (qa a7) (qa a0) (qa a2)
      else
       u5 (qa a1) (⟨#[105,102]⟩:BA) (qa a0_n) (qa a3) (qa a4) (qa a5) (qa a6) (qa a7) (qa a0) (qa a2)
     else
      uw (qa a0) (qa a2) (qa a0_n) (qa a3) (qa a4) (qa a5) (qa a6) (qa a7) (qa a1) >>=fun x35=>
      y3 x35.1 x35.2.1 (qa a0_n) (qa a3) (qa a4) (qa a5) x35.2.2 (qa a7) (⟨#[]⟩:BA) (⟨#[59]⟩:BA) >>=fun x36=>
      some (x36.1,x36.2.1,x36.2.2,x35.2.2)
 partial_fixpoint
def qfy (a0 :BA) (a2:LU) (a0_n:Node) (a3:Int) (a4:BA) (a5:LB) (a6:LN) (a7:Int) (a1:BA):Option (BA × LU × LB × LN × Int):=
 if (decide (a0_n.kind=(1:Int)))=true then
  Ji a0_n.kids 0 (qa a1) (qa a0_n) (qa a3) (qa a4) (qa a5) (qa a6) (qa a7) (qa a0) (qa a2)
 else
  if (decide (a0_n.kind=(2:Int)))=true then
   y3 (qa a0) (qa a2) (qa a0_n) (qa a3) (qa a4) (qa a5) (qa a6) (qa a7) (qa a1) (⟨#[102,110]⟩:BA) >>=fun x37=>
   y3 x37.1 x37.2.1 (qa a0_n) (qa a3) (qa a4) x37.2.2 (qa a6) (qa a7) (⟨#[32]⟩:BA) a0_n.text >>=fun x38=>
   uw x38.1 x38.2.1 (qa a0_n) (qa a3) (qa a4) x38.2.2 (qa a6) (qa a7) (⟨#[]⟩:BA) >>=fun x39=>
   uw x39.1 x39.2.1 (qa a0_n) (qa a3) (qa a4) x38.2.2 x39.2.2 (qa a7) (⟨#[32]⟩:BA) >>=fun x40=>
   uw x40.1 x40.2.1 (qa a0_n) (qa a3) (qa a4) x38.2.2 x40.2.2 (qa a7) (⟨#[32]⟩:BA) >>=fun x41=>
   some (x41.1,x41.2.1,x38.2.2,x41.2.2,a7)
  else
   if (decide (a0_n.kind=(3:Int)))=true then
    y3 (qa a0) (qa a2) (qa a0_n) (qa a3) (qa a4) (qa a5) (qa a6) (qa a7) (qa a1) (⟨#[40]⟩:BA) >>=fun x42=>
    qda x42.1 x42.2.1 (qa a0_n) (qa a3) (qa a4) x42.2.2 (qa a6) (qa a7) >>=fun x43=>
    some (x43.1,x43.2.1,x43.2.2.1,x43.2.2.2,a7)
   else
    if (decide (a0_n.kind=(4:Int)))=true then
     y3 (qa a0) (qa a2) (qa a0_n) (qa a3) (qa a4) (qa a5) (qa a6) (qa a7) (qa a1) a0_n.text >>=fun x44=>
     uw x44.1 x44.2.1 (qa a0_n) (qa a3) (qa a4) x44.2.2 (qa a6) (qa a7) (⟨#[32]⟩:BA) >>=fun x45=>
     some (x45.1,x45.2.1,x44.2.2,x45.2.2,a7)
    else
     if (decide (a0_n.kind=(5:Int)))=true then
      y3 (qa a0) (qa a2) (qa a0_n) (qa a3) (qa a4) (qa a5) (qa a6) (qa a7) (qa a1) a0_n.text >>=fun x46=>
      some (x46.1,x46.2.1,x46.2.2,a6,a7)
     else
      if (decide (a0_n.kind=(6:Int)))=true then
       y3 (qa a0) (qa a2) (qa a0_n) (qa a3) (qa a4) (qa a5) (qa a6) (qa a7) (qa a1) (⟨#[123]⟩:BA) >>=fun x47=>
       qel x47.1 x47.2.1 (qa a0_n) (qa a3) (qa a4) x47.2.2 (qa a6) (qa a7) (0:Int) >>=fun x48=>
       some (x48.1,x48.2.1,x48.2.2.1,x48.2.2.2.1,x48.2.2.2.2)
      else
       if (decide (a0_n.kind=(7:Int)))=true then
        y3 (qa a0) (qa a2) (qa a0_n) (qa a3) (qa a4) (qa a5) (qa a6) (qa a7) (qa a1) (⟨#[99,108,97,115,115]⟩:BA) >>=fun x49=>
        y3 x49.1 x49.2.1 (qa a0_n) (qa a3) (qa a4) x49.2.2 (qa a6) (qa a7) (⟨#[32]⟩:BA) a0_n.text >>=fun x50=>
        uw x50.1 x50.2.1 (qa a0_n) (qa a3) (qa a4) x50.2.2 (qa a6) (qa a7) (⟨#[32]⟩:BA) >>=fun x51=>
        y3 x51.1 x51.2.1 (qa a0_n) (qa a3) (qa a4) x50.2.2 x51.2.2 (qa a7) (⟨#[32]⟩:BA) (⟨#[123]⟩:BA) >>=fun x52=>
        qel x52.1 x52.2.1 (qa a0_n) (qa a3) (qa a4) x52.2.2 x51.2.2 (qa a7) (1:Int) >>=fun x53=>
        some (x53.1,x53.2.1,x53.2.2.1,x53.2.2.2.1,x53.2.2.2.2)
       else
        if (decide (a0_n.kind=(8:Int)))=true then
         if (!decide (a0_n.text=(⟨#[]⟩:BA)))=true then
          y3 (qa a0) (qa a2) (qa a0_n) (qa a3) (qa a4) (qa a5) (qa a6) (qa a7) (qa a1) (⟨#[58]⟩:BA) >>=fun x54=>
          y3 x54.1 x54.2.1 (qa a0_n) (qa a3) (qa a4) x54.2.2 (qa a6) (qa a7) (⟨#[32]⟩:BA) a0_n.text >>=fun x55=>
          some (x55.1,x55.2.1,x55.2.2,a6,a7)
         else
          some (a0,a2,a5,a6,a7)
        else
         if (decide (a0_n.kind=(9:Int)))=true then
          qcf (qa a0) (qa a2) (qa a0_n) (qa a3) (qa a4) (qa a5) (qa a6) (qa a7) (qa a1) (⟨#[99,111,110,115,116]⟩:BA) >>=fun x56=>
          some (x56.1,x56.2.1,x56.2.2.1,x56.2.2.2,a7)
         else
          if (decide (a0_n.kind=(14:Int)))=true then
           if (decide ((0:Int) < ((a0_n.kids.map Node.cells).length:Int)))=true then
            y3 (qa a0) (qa a2) (qa a0_n) (qa a3) (qa a4) (qa a5) (qa a6) (qa a7) (qa a1) (⟨#[101,108,115,101]⟩:BA) >>=fun x57=>
            uw x57.1 x57.2.1 (qa a0_n) (qa a3) (qa a4) x57.2.2 (qa a6) (qa a7) (⟨#[32]⟩:BA) >>=fun x58=>
            some (x58.1,x58.2.1,x57.2.2,x58.2.2,a7)
           else
            some (a0,a2,a5,a6,a7)
          else
           some (a0,a2,a5,a6,a7)
 partial_fixpoint
def qda (a0:BA) (a1:LU) (a0_n:Node) (a2:Int) (a3:BA) (a4:LB) (a5:LN) (a6:Int):Option (BA × LU × LB × LN):=
 Jq (qa true) (qa a0_n) (qa a2) (qa a3) (qa a4) (qa a5) (qa a6) (qa a0) (qa a1)
 partial_fixpoint
def uw (a0:BA) (a2:LU) (a0_n:Node) (a3:Int) (a4:BA) (a5:LB) (a6:LN) (a7:Int) (a1:BA):Option (BA × LU × LN):=
 ix a0_n.kids (a6.length:Int) >>=fun x59=>
 qdb (qa a0) (qa a2) (qa x59) (qa a1) (qa a7) >>=fun x60=>
 app 72 a6 [x60.1] >>=fun x61=>
 some (x60.2.1,x60.2.2,x61)
 partial_fixpoint
def qcf (a0:BA) (a3:LU) (a0_n:Node) (a4:Int) (a5:BA) (a6:LB) (a7:LN) (a8:Int) (a1:BA) (a2:BA):Option (BA × LU × LB × LN):=
 y3 (qa a0) (qa a3) (qa a0_n) (qa a4) (qa a5) (qa a6) (qa a7) (qa a8) (qa a1) (qa a2) >>=fun x62=>
 y3 x62.1 x62.2.1 (qa a0_n) (qa a4) (qa a5) x62.2.2 (qa a7) (qa a8) (⟨#[32]⟩:BA) a0_n.text >>=fun x63=>
 y3 x63.1 x63.2.1 (qa a0_n) (qa a4) (qa a5) x63.2.2 (qa a7) (qa a8) (⟨#[32]⟩:BA) (⟨#[61]⟩:BA) >>=fun x64=>
 uw x64.1 x64.2.1 (qa a0_n) (qa a4) (qa a5) x64.2.2 (qa a7) (qa a8) (⟨#[32]⟩:BA) >>=fun x65=>
 y3 x65.1 x65.2.1 (qa a0_n) (qa a4) (qa a5) x64.2.2 x65.2.2 (qa a8) (⟨#[]⟩:BA) (⟨#[59]⟩:BA) >>=fun x66=>
 some (x66.1,x66.2.1,x66.2.2,x65.2.2)
 partial_fixpoint
def qel (a0:BA) (a2:LU) (a0_n:Node) (a3:Int) (a4:BA) (a5:LB) (a6:LN) (a7:Int) (a1:Int):Option (BA × LU × LB × LN × Int):=
 Yj (qa a1) (qa a0_n) (qa a3) (qa a4) (qa a5) (qa a6) (IntKind.i64.wrap (a7+(1:Int))) (qa a0) (qa a2)
 partial_fixpoint
def u5 (t1:BA) (t4:BA) (o0_1:Node) (a0:Int) (a1:BA) (a2:LB) (a3:LN) (o0_3:Int) (o2:BA) (o3_1:LU):Option (BA × LU × LB × LN):=
 y3 (qa o2) (qa o3_1) (qa o0_1) (qa a0) (qa a1) (qa a2) (qa a3) (qa o0_3) (qa t1) (qa t4) >>=fun x67=>
 uz o0_1.kids (qa o0_1) (qa a0) (qa a1) x67.2.2 (qa a3) (qa o0_3) x67.1 x67.2.1
 partial_fixpoint
def Ji (a0:LN) (j0:Nat) (t1:BA) (o0_1:Node) (a1:Int) (a2:BA) (a3:LB) (a4:LN) (o0_3:Int) (o2:BA) (o3_1:LU):Option (BA × LU × LB × LN × Int):=
 match a0 with
 | []=>
   if (decide ((0:Int) < ((o0_1.kids.map Node.cells).length:Int)))=true then
    K9 (⟨#[10]⟩:BA) (qa o0_1) (qa a1) (qa a2) (qa a3) (qa a4) (qa o0_3) (qa o2) (qa o3_1)
   else
    K9 (qa t1) (qa o0_1) (qa a1) (qa a2) (qa a3) (qa a4) (qa o0_3) (qa o2) (qa o3_1)
 | x_0::a0=>
   if (decide ((0:Int) < ((j0:Nat):Int)))=true then
    Yi (qa a0) (qa j0) (⟨#[10,10]⟩:BA) (qa o0_1) (qa a1) (qa a2) (qa a3) (qa a4) (qa o0_3) (qa o2) (qa o3_1)
   else
    Yi (qa a0) (qa j0) (qa t1) (qa o0_1) (qa a1) (qa a2) (qa a3) (qa a4) (qa o0_3) (qa o2) (qa o3_1)
 partial_fixpoint
def Jq (t2:Bool) (o0_1:Node) (a0:Int) (a1:BA) (a2:LB) (a3:LN) (o0_3:Int) (o2:BA) (o3_1:LU):Option (BA × LU × LB × LN):=
 if (decide ((a3.length:Int) < ((o0_1.kids.map Node.cells).length:Int)))=true then
  if t2=true then
   uw (qa o2) (qa o3_1) (qa o0_1) (qa a0) (qa a1) (qa a2) (qa a3) (qa o0_3) (⟨#[]⟩:BA) >>=fun x68=>
   W4 (qa o0_1) (qa a0) (qa a1) (qa a2) x68.2.2 (qa o0_3) x68.1 x68.2.1
  else
   y3 (qa o2) (qa o3_1) (qa o0_1) (qa a0) (qa a1) (qa a2) (qa a3) (qa o0_3) (⟨#[]⟩:BA) (⟨#[44]⟩:BA) >>=fun x69=>
   uw x69.1 x69.2.1 (qa o0_1) (qa a0) (qa a1) x69.2.2 (qa a3) (qa o0_3) (⟨#[32]⟩:BA) >>=fun x70=>
   W4 (qa o0_1) (qa a0) (qa a1) x69.2.2 x70.2.2 (qa o0_3) x70.1 x70.2.1
 else
  y3 (qa o2) (qa o3_1) (qa o0_1) (qa a0) (qa a1) (qa a2) (qa a3) (qa o0_3) (⟨#[]⟩:BA) (⟨#[41]⟩:BA) >>=fun x71=>
  some (x71.1,x71.2.1,x71.2.2,a3)
 partial_fixpoint
def Yj (t1:Int) (o0_1:Node) (a0:Int) (a1:BA) (a2:LB) (a3:LN) (o0_3:Int) (o2:BA) (o3_1:LU):Option (BA × LU × LB × LN × Int):=
 if (decide ((a3.length:Int) < ((o0_1.kids.map Node.cells).length:Int)))=true then
  K7 (qa o0_3) >>=fun x72=>
  uw (qa o2) (qa o3_1) (qa o0_1) (qa a0) (qa a1) (qa a2) (qa a3) (qa o0_3) (qa x72) >>=fun x73=>
  Yj (qa t1) (qa o0_1) (qa a0) (qa a1) (qa a2) x73.2.2 (qa o0_3) x73.1 x73.2.1
 else
  if (decide (t1 < ((o0_1.kids.map Node.cells).length:Int)))=true then
   K7 (IntKind.i64.wrap (o0_3 - (1:Int))) >>=fun x74=>
   y3 (qa o2) (qa o3_1) (qa o0_1) (qa a0) (qa a1) (qa a2) (qa a3) (IntKind.i64.wrap (o0_3 - (1:Int))) (qa x74) (⟨#[125]⟩:BA) >>=fun x75=>
   some (x75.1,x75.2.1,x75.2.2,a3,(IntKind.i64.wrap (o0_3 - (1:Int))))
  else
   y3 (qa o2) (qa o3_1) (qa o0_1) (qa a0) (qa a1) (qa a2) (qa a3) (IntKind.i64.wrap (o0_3 - (1:Int))) (⟨#[]⟩:BA) (⟨#[125]⟩:BA) >>=fun x76=>
   some (x76.1,x76.2.1,x76.2.2,a3,(IntKind.i64.wrap (o0_3 - (1:Int))))
 partial_fixpoint
def uz (a0:LN) (o0_1:Node) (a1:Int) (a2:BA) (a3:LB) (a4:LN) (o0_3:Int) (o2:BA) (o3_1:LU):Option (BA × LU × LB × LN):=
 match a0 with
 | []=>
   some (o2,o3_1,a3,a4)
 | x_0::a0=>
   uw (qa o2) (qa o3_1) (qa o0_1) (qa a1) (qa a2) (qa a3) (qa a4) (qa o0_3) (⟨#[32]⟩:BA) >>=fun x77=>
   uz (qa a0) (qa o0_1) (qa a1) (qa a2) (qa a3) x77.2.2 (qa o0_3) x77.1 x77.2.1
 partial_fixpoint
def Yi (a0:LN) (j0:Nat) (t1:BA) (o0_1:Node) (a1:Int) (a2:BA) (a3:LB) (a4:LN) (o0_3:Int) (o2:BA) (o3_1:LU):Option (BA × LU × LB × LN × Int):=
 uw (qa o2) (qa o3_1) (qa o0_1) (qa a1) (qa a2) (qa a3) (qa a4) (qa o0_3) (qa t1) >>=fun x79=>
 Ji (qa a0) (j0+1) (qa t1) (qa o0_1) (qa a1) (qa a2) (qa a3) x79.2.2 (qa o0_3) x79.1 x79.2.1
 partial_fixpoint
def W4 (o0_1:Node) (a0:Int) (a1:BA) (a2:LB) (a3:LN) (o0_3:Int) (o2:BA) (o3_1:LU):Option (BA × LU × LB × LN):=
 Jq (qa false) (qa o0_1) (qa a0) (qa a1) (qa a2) (qa a3) (qa o0_3) (qa o2) (qa o3_1)
 partial_fixpoint
end
@[reducible] def qmq (a0:BA) (a4:LU) (a1:Node) (a2:BA) (a3:Int) (r:Node × BA × LU):Prop:=
  AC Tryz.prog G 50 [(.ptr 0 0 0),(.agg (z7 a1)),(.str a2),(.int .i64 a3)] 4 [(0, .var 96 [(.fn 45 [(.ptr 1 1 0),(.ptr 2 2 0)])]),(1, .var 9 [(.str a0)]),(2, .var 86 [(.optr 2 2 0),(.bs 1 3 3 0 a4.length)]),(3, .row 5 (a4.map c8).flatten)] (.agg (z7 r.1)) 5 [(0, .var 96 [(.fn 45 [(.ptr 1 1 0),(.ptr 2 2 0)])]),(1, .var 9 [(.str r.2.1)]),(2, .var 86 [(.optr 2 2 0),(.bs 1 3 4 0 r.2.2.length)]),(4, .row 5 (r.2.2.map c8).flatten)]
@[reducible] def qco (a0:BA) (a2:LU) (a0_n:Node) (a3:Int) (a4:BA) (a5:LB) (a6:LN) (a7:Int) (a1:BA) (r:BA × LU × LB × LN):Prop:=
  AC Tryz.prog G 75 [(.ptr 0 0 0),(.str a1)] 7 [(0, .var 123 [(.ptr 1 1 0),(.int .i64 a0_n.kind),(.str a0_n.text),(.sl 1 false (a0_n.gaps.map sc)),(.sl 4 false (a0_n.kids.map Node.cells)),(.int .i64 a3),(.str a4),(.bs 1 5 5 0 a5.length),(.bs 4 6 6 0 a6.length),(.int .i64 a7)]),(1, .var 96 [(.fn 45 [(.ptr 2 2 0),(.ptr 3 3 0)])]),(2, .var 9 [(.str a0)]),(3, .var 86 [(.optr 3 3 0),(.bs 1 4 4 0 a2.length)]),(4, .row 5 (a2.map c8).flatten),(5, .row 9 (a5.map sc).flatten),(6, .row 45 (a6.map Node.cells).flatten)] (.tup []) 10 [(0, .var 123 [(.ptr 1 1 0),(.int .i64 a0_n.kind),(.str a0_n.text),(.sl 1 false (a0_n.gaps.map sc)),(.sl 4 false (a0_n.kids.map Node.cells)),(.int .i64 a3),(.str a4),(.bs 1 5 8 0 r.2.2.1.length),(.bs 4 6 9 0 r.2.2.2.length),(.int .i64 a7)]),(1, .var 96 [(.fn 45 [(.ptr 2 2 0),(.ptr 3 3 0)])]),(2, .var 9 [(.str r.1)]),(3, .var 86 [(.optr 3 3 0),(.bs 1 4 7 0 r.2.1.length)]),(7, .row 5 (r.2.1.map c8).flatten),(8, .row 9 (r.2.2.1.map sc).flatten),(9, .row 45 (r.2.2.2.map Node.cells).flatten)]
@[reducible] def qd0 (a0:BA) (a2:LU) (a0_n:Node) (a3:Int) (a4:BA) (a5:LB) (a6:LN) (a7:Int) (a1:BA) (r:BA × LU × LB × LN):Prop:=
  AC Tryz.prog G 76 [(.ptr 0 0 0),(.str a1)] 7 [(0, .var 123 [(.ptr 1 1 0),(.int .i64 a0_n.kind),(.str a0_n.text),(.sl 1 false (a0_n.gaps.map sc)),(.sl 4 false (a0_n.kids.map Node.cells)),(.int .i64 a3),(.str a4),(.bs 1 5 5 0 a5.length),(.bs 4 6 6 0 a6.length),(.int .i64 a7)]),(1, .var 96 [(.fn 45 [(.ptr 2 2 0),(.ptr 3 3 0)])]),(2, .var 9 [(.str a0)]),(3, .var 86 [(.optr 3 3 0),(.bs 1 4 4 0 a2.length)]),(4, .row 5 (a2.map c8).flatten),(5, .row 9 (a5.map sc).flatten),(6, .row 45 (a6.map Node.cells).flatten)] (.tup []) 10 [(0, .var 123 [(.ptr 1 1 0),(.int .i64 a0_n.kind),(.str a0_n.text),(.sl 1 false (a0_n.gaps.map sc)),(.sl 4 false (a0_n.kids.map Node.cells)),(.int .i64 a3),(.str a4),(.bs 1 5 8 0 r.2.2.1.length),(.bs 4 6 9 0 r.2.2.2.length),(.int .i64 a7)]),(1, .var 96 [(.fn 45 [(.ptr 2 2 0),(.ptr 3 3 0)])]),(2, .var 9 [(.str r.1)]),(3, .var 86 [(.optr 3 3 0),(.bs 1 4 7 0 r.2.1.length)]),(7, .row 5 (r.2.1.map c8).flatten),(8, .row 9 (r.2.2.1.map sc).flatten),(9, .row 45 (r.2.2.2.map Node.cells).flatten)]
@[reducible] def qkc (a0:BA) (a2:LU) (a0_n:Node) (a3:Int) (a4:BA) (a5:LB) (a6:LN) (a7:Int) (a1:BA) (r:BA × LU × LB × LN × Int):Prop:=
  AC Tryz.prog G 77 [(.ptr 0 0 0),(.str a1)] 7 [(0, .var 123 [(.ptr 1 1 0),(.int .i64 a0_n.kind),(.str a0_n.text),(.sl 1 false (a0_n.gaps.map sc)),(.sl 4 false (a0_n.kids.map Node.cells)),(.int .i64 a3),(.str a4),(.bs 1 5 5 0 a5.length),(.bs 4 6 6 0 a6.length),(.int .i64 a7)]),(1, .var 96 [(.fn 45 [(.ptr 2 2 0),(.ptr 3 3 0)])]),(2, .var 9 [(.str a0)]),(3, .var 86 [(.optr 3 3 0),(.bs 1 4 4 0 a2.length)]),(4, .row 5 (a2.map c8).flatten),(5, .row 9 (a5.map sc).flatten),(6, .row 45 (a6.map Node.cells).flatten)] (.tup []) 10 [(0, .var 123 [(.ptr 1 1 0),(.int .i64 a0_n.kind),(.str a0_n.text),(.sl 1 false (a0_n.gaps.map sc)),(.sl 4 false (a0_n.kids.map Node.cells)),(.int .i64 a3),(.str a4),(.bs 1 5 8 0 r.2.2.1.length),(.bs 4 6 9 0 r.2.2.2.1.length),(.int .i64 r.2.2.2.2)]),(1, .var 96 [(.fn 45 [(.ptr 2 2 0),(.ptr 3 3 0)])]),(2, .var 9 [(.str r.1)]),(3, .var 86 [(.optr 3 3 0),(.bs 1 4 7 0 r.2.1.length)]),(7, .row 5 (r.2.1.map c8).flatten),(8, .row 9 (r.2.2.1.map sc).flatten),(9, .row 45 (r.2.2.2.1.map Node.cells).flatten)]
@[reducible] def qmm (a0:BA) (a1:LU) (a0_n:Node) (a2:Int) (a3:BA) (a4:LB) (a5:LN) (a6:Int) (r:BA × LU × LB × LN):Prop:=
  AC Tryz.prog G 115 [(.ptr 0 0 0)] 7 [(0, .var 123 [(.ptr 1 1 0),(.int .i64 a0_n.kind),(.str a0_n.text),(.sl 1 false (a0_n.gaps.map sc)),(.sl 4 false (a0_n.kids.map Node.cells)),(.int .i64 a2),(.str a3),(.bs 1 5 5 0 a4.length),(.bs 4 6 6 0 a5.length),(.int .i64 a6)]),(1, .var 96 [(.fn 45 [(.ptr 2 2 0),(.ptr 3 3 0)])]),(2, .var 9 [(.str a0)]),(3, .var 86 [(.optr 3 3 0),(.bs 1 4 4 0 a1.length)]),(4, .row 5 (a1.map c8).flatten),(5, .row 9 (a4.map sc).flatten),(6, .row 45 (a5.map Node.cells).flatten)] (.tup []) 10 [(0, .var 123 [(.ptr 1 1 0),(.int .i64 a0_n.kind),(.str a0_n.text),(.sl 1 false (a0_n.gaps.map sc)),(.sl 4 false (a0_n.kids.map Node.cells)),(.int .i64 a2),(.str a3),(.bs 1 5 8 0 r.2.2.1.length),(.bs 4 6 9 0 r.2.2.2.length),(.int .i64 a6)]),(1, .var 96 [(.fn 45 [(.ptr 2 2 0),(.ptr 3 3 0)])]),(2, .var 9 [(.str r.1)]),(3, .var 86 [(.optr 3 3 0),(.bs 1 4 7 0 r.2.1.length)]),(7, .row 5 (r.2.1.map c8).flatten),(8, .row 9 (r.2.2.1.map sc).flatten),(9, .row 45 (r.2.2.2.map Node.cells).flatten)]
@[reducible] def qqx (a0:BA) (a2:LU) (a0_n:Node) (a3:Int) (a4:BA) (a5:LB) (a6:LN) (a7:Int) (a1:BA) (r:BA × LU × LN):Prop:=
  AC Tryz.prog G 116 [(.ptr 0 0 0),(.str a1)] 7 [(0, .var 123 [(.ptr 1 1 0),(.int .i64 a0_n.kind),(.str a0_n.text),(.sl 1 false (a0_n.gaps.map sc)),(.sl 4 false (a0_n.kids.map Node.cells)),(.int .i64 a3),(.str a4),(.bs 1 5 5 0 a5.length),(.bs 4 6 6 0 a6.length),(.int .i64 a7)]),(1, .var 96 [(.fn 45 [(.ptr 2 2 0),(.ptr 3 3 0)])]),(2, .var 9 [(.str a0)]),(3, .var 86 [(.optr 3 3 0),(.bs 1 4 4 0 a2.length)]),(4, .row 5 (a2.map c8).flatten),(5, .row 9 (a5.map sc).flatten),(6, .row 45 (a6.map Node.cells).flatten)] (.tup []) 9 [(0, .var 123 [(.ptr 1 1 0),(.int .i64 a0_n.kind),(.str a0_n.text),(.sl 1 false (a0_n.gaps.map sc)),(.sl 4 false (a0_n.kids.map Node.cells)),(.int .i64 a3),(.str a4),(.bs 1 5 5 0 a5.length),(.bs 4 6 8 0 r.2.2.length),(.int .i64 a7)]),(1, .var 96 [(.fn 45 [(.ptr 2 2 0),(.ptr 3 3 0)])]),(2, .var 9 [(.str r.1)]),(3, .var 86 [(.optr 3 3 0),(.bs 1 4 7 0 r.2.1.length)]),(7, .row 5 (r.2.1.map c8).flatten),(5, .row 9 (a5.map sc).flatten),(8, .row 45 (r.2.2.map Node.cells).flatten)]
@[reducible] def qkd (a0:BA) (a3:LU) (a0_n:Node) (a4:Int) (a5:BA) (a6:LB) (a7:LN) (a8:Int) (a1:BA) (a2:BA) (r:BA × LU × LB × LN):Prop:=
  AC Tryz.prog G 117 [(.ptr 0 0 0),(.str a1),(.str a2)] 7 [(0, .var 123 [(.ptr 1 1 0),(.int .i64 a0_n.kind),(.str a0_n.text),(.sl 1 false (a0_n.gaps.map sc)),(.sl 4 false (a0_n.kids.map Node.cells)),(.int .i64 a4),(.str a5),(.bs 1 5 5 0 a6.length),(.bs 4 6 6 0 a7.length),(.int .i64 a8)]),(1, .var 96 [(.fn 45 [(.ptr 2 2 0),(.ptr 3 3 0)])]),(2, .var 9 [(.str a0)]),(3, .var 86 [(.optr 3 3 0),(.bs 1 4 4 0 a3.length)]),(4, .row 5 (a3.map c8).flatten),(5, .row 9 (a6.map sc).flatten),(6, .row 45 (a7.map Node.cells).flatten)] (.tup []) 10 [(0, .var 123 [(.ptr 1 1 0),(.int .i64 a0_n.kind),(.str a0_n.text),(.sl 1 false (a0_n.gaps.map sc)),(.sl 4 false (a0_n.kids.map Node.cells)),(.int .i64 a4),(.str a5),(.bs 1 5 8 0 r.2.2.1.length),(.bs 4 6 9 0 r.2.2.2.length),(.int .i64 a8)]),(1, .var 96 [(.fn 45 [(.ptr 2 2 0),(.ptr 3 3 0)])]),(2, .var 9 [(.str r.1)]),(3, .var 86 [(.optr 3 3 0),(.bs 1 4 7 0 r.2.1.length)]),(7, .row 5 (r.2.1.map c8).flatten),(8, .row 9 (r.2.2.1.map sc).flatten),(9, .row 45 (r.2.2.2.map Node.cells).flatten)]
@[reducible] def qmr (a0:BA) (a2:LU) (a0_n:Node) (a3:Int) (a4:BA) (a5:LB) (a6:LN) (a7:Int) (a1:Int) (r:BA × LU × LB × LN × Int):Prop:=
  AC Tryz.prog G 118 [(.ptr 0 0 0),(.int .i64 a1)] 7 [(0, .var 123 [(.ptr 1 1 0),(.int .i64 a0_n.kind),(.str a0_n.text),(.sl 1 false (a0_n.gaps.map sc)),(.sl 4 false (a0_n.kids.map Node.cells)),(.int .i64 a3),(.str a4),(.bs 1 5 5 0 a5.length),(.bs 4 6 6 0 a6.length),(.int .i64 a7)]),(1, .var 96 [(.fn 45 [(.ptr 2 2 0),(.ptr 3 3 0)])]),(2, .var 9 [(.str a0)]),(3, .var 86 [(.optr 3 3 0),(.bs 1 4 4 0 a2.length)]),(4, .row 5 (a2.map c8).flatten),(5, .row 9 (a5.map sc).flatten),(6, .row 45 (a6.map Node.cells).flatten)] (.tup []) 10 [(0, .var 123 [(.ptr 1 1 0),(.int .i64 a0_n.kind),(.str a0_n.text),(.sl 1 false (a0_n.gaps.map sc)),(.sl 4 false (a0_n.kids.map Node.cells)),(.int .i64 a3),(.str a4),(.bs 1 5 8 0 r.2.2.1.length),(.bs 4 6 9 0 r.2.2.2.1.length),(.int .i64 r.2.2.2.2)]),(1, .var 96 [(.fn 45 [(.ptr 2 2 0),(.ptr 3 3 0)])]),(2, .var 9 [(.str r.1)]),(3, .var 86 [(.optr 3 3 0),(.bs 1 4 7 0 r.2.1.length)]),(7, .row 5 (r.2.1.map c8).flatten),(8, .row 9 (r.2.2.1.map sc).flatten),(9, .row 45 (r.2.2.2.1.map Node.cells).flatten)]
@[reducible] def W0 (t1:BA) (t4:BA) (o0_1:Node) (a0:Int) (a1:BA) (a2:LB) (a3:LN) (o0_3:Int) (o2:BA) (o3_1:LU) (r:BA × LU × LB × LN):Prop:=
  Ok Tryz.prog G tt 69 7 (Ret Tryz.prog [] (fun y H=>vj Tryz.prog G 7 H y (.tup []) ⟨10, [(0, .var 123 [(.ptr 1 1 0),(.int .i64 o0_1.kind),(.str o0_1.text),(.sl 1 false (o0_1.gaps.map sc)),(.sl 4 false (o0_1.kids.map Node.cells)),(.int .i64 a0),(.str a1),(.bs 1 5 8 0 r.2.2.1.length),(.bs 4 6 9 0 r.2.2.2.length),(.int .i64 o0_3)]),(1, .var 96 [(.fn 45 [(.ptr 2 2 0),(.ptr 3 3 0)])]),(2, .var 9 [(.str r.1)]),(3, .var 86 [(.optr 3 3 0),(.bs 1 4 7 0 r.2.1.length)]),(7, .row 5 (r.2.1.map c8).flatten),(8, .row 9 (r.2.2.1.map sc).flatten),(9, .row 45 (r.2.2.2.map Node.cells).flatten)]⟩)) (.go [] (v8 [53] Tryz.f76 53) [] (.n (.ptr 0 0 0) (.n (.str t1) .z .z) (.n .undef (.n (.str t4) .z .z) .z)) 10 [(0, .var 123 [(.ptr 1 1 0),(.int .i64 o0_1.kind),(.str o0_1.text),(.sl 1 false (o0_1.gaps.map sc)),(.sl 4 false (o0_1.kids.map Node.cells)),(.int .i64 a0),(.str a1),(.bs 1 5 8 0 a2.length),(.bs 4 6 9 0 a3.length),(.int .i64 o0_3)]),(1, .var 96 [(.fn 45 [(.ptr 2 2 0),(.ptr 3 3 0)])]),(2, .var 9 [(.str o2)]),(3, .var 86 [(.optr 3 3 0),(.bs 1 4 7 0 o3_1.length)]),(7, .row 5 (o3_1.map c8).flatten),(8, .row 9 (a2.map sc).flatten),(9, .row 45 (a3.map Node.cells).flatten)])
@[reducible] def qev (a0:LN) (j0:Nat) (t1:BA) (o0_1:Node) (a1:Int) (a2:BA) (a3:LB) (a4:LN) (o0_3:Int) (o2:BA) (o3_1:LU) (r:BA × LU × LB × LN × Int):Prop:=
  ∀(l0:LN),l0.drop j0=a0→j0≤l0.length→l0.length≤9223372036854775807→Ok Tryz.prog G tt 146 7 (Ret Tryz.prog [] (fun y H=>vj Tryz.prog G 7 H y (.tup []) ⟨10, [(0, .var 123 [(.ptr 1 1 0),(.int .i64 o0_1.kind),(.str o0_1.text),(.sl 1 false (o0_1.gaps.map sc)),(.sl 4 false (o0_1.kids.map Node.cells)),(.int .i64 a1),(.str a2),(.bs 1 5 8 0 r.2.2.1.length),(.bs 4 6 9 0 r.2.2.2.1.length),(.int .i64 r.2.2.2.2)]),(1, .var 96 [(.fn 45 [(.ptr 2 2 0),(.ptr 3 3 0)])]),(2, .var 9 [(.str r.1)]),(3, .var 86 [(.optr 3 3 0),(.bs 1 4 7 0 r.2.1.length)]),(7, .row 5 (r.2.1.map c8).flatten),(8, .row 9 (r.2.2.1.map sc).flatten),(9, .row 45 (r.2.2.2.1.map Node.cells).flatten)]⟩)) (.again (ju [22,33] Tryz.f77 0).1 (ju [22,33] Tryz.f77 0).2 (.n (.ptr 0 0 0) (.n (.str t1) .z (.n .undef (.n .undef (.n (.int .i64 ((l0.map Node.cells).length:Int)) .z .z) .z) .z)) (.n .undef (.n .undef (.n .undef (.n (.sl 4 false (l0.map Node.cells)) .z .z) .z) .z) (.n .undef (.n .undef (.n (.int .i64 ((j0:Nat):Int)) .z .z) .z) .z))) 10 [(0, .var 123 [(.ptr 1 1 0),(.int .i64 o0_1.kind),(.str o0_1.text),(.sl 1 false (o0_1.gaps.map sc)),(.sl 4 false (o0_1.kids.map Node.cells)),(.int .i64 a1),(.str a2),(.bs 1 5 8 0 a3.length),(.bs 4 6 9 0 a4.length),(.int .i64 o0_3)]),(1, .var 96 [(.fn 45 [(.ptr 2 2 0),(.ptr 3 3 0)])]),(2, .var 9 [(.str o2)]),(3, .var 86 [(.optr 3 3 0),(.bs 1 4 7 0 o3_1.length)]),(7, .row 5 (o3_1.map c8).flatten),(8, .row 9 (a3.map sc).flatten),(9, .row 45 (a4.map Node.cells).flatten)])
@[reducible] def qgr (t2:Bool) (o0_1:Node) (a0:Int) (a1:BA) (a2:LB) (a3:LN) (o0_3:Int) (o2:BA) (o3_1:LU) (r:BA × LU × LB × LN):Prop:=
  Ok Tryz.prog G tt 25 7 (Ret Tryz.prog [] (fun y H=>vj Tryz.prog G 7 H y (.tup []) ⟨10, [(0, .var 123 [(.ptr 1 1 0),(.int .i64 o0_1.kind),(.str o0_1.text),(.sl 1 false (o0_1.gaps.map sc)),(.sl 4 false (o0_1.kids.map Node.cells)),(.int .i64 a0),(.str a1),(.bs 1 5 8 0 r.2.2.1.length),(.bs 4 6 9 0 r.2.2.2.length),(.int .i64 o0_3)]),(1, .var 96 [(.fn 45 [(.ptr 2 2 0),(.ptr 3 3 0)])]),(2, .var 9 [(.str r.1)]),(3, .var 86 [(.optr 3 3 0),(.bs 1 4 7 0 r.2.1.length)]),(7, .row 5 (r.2.1.map c8).flatten),(8, .row 9 (r.2.2.1.map sc).flatten),(9, .row 45 (r.2.2.2.map Node.cells).flatten)]⟩)) (.again (ju [1000001] Tryz.f115 0).1 (ju [1000001] Tryz.f115 0).2 (.n (.ptr 0 0 0) .z (.n (.bool t2) .z .z)) 10 [(0, .var 123 [(.ptr 1 1 0),(.int .i64 o0_1.kind),(.str o0_1.text),(.sl 1 false (o0_1.gaps.map sc)),(.sl 4 false (o0_1.kids.map Node.cells)),(.int .i64 a0),(.str a1),(.bs 1 5 8 0 a2.length),(.bs 4 6 9 0 a3.length),(.int .i64 o0_3)]),(1, .var 96 [(.fn 45 [(.ptr 2 2 0),(.ptr 3 3 0)])]),(2, .var 9 [(.str o2)]),(3, .var 86 [(.optr 3 3 0),(.bs 1 4 7 0 o3_1.length)]),(7, .row 5 (o3_1.map c8).flatten),(8, .row 9 (a2.map sc).flatten),(9, .row 45 (a3.map Node.cells).flatten)])
@[reducible] def qgt (t1:Int) (o0_1:Node) (a0:Int) (a1:BA) (a2:LB) (a3:LN) (o0_3:Int) (o2:BA) (o3_1:LU) (r:BA × LU × LB × LN × Int):Prop:=
  Ok Tryz.prog G tt 55 7 (Ret Tryz.prog [] (fun y H=>vj Tryz.prog G 7 H y (.tup []) ⟨10, [(0, .var 123 [(.ptr 1 1 0),(.int .i64 o0_1.kind),(.str o0_1.text),(.sl 1 false (o0_1.gaps.map sc)),(.sl 4 false (o0_1.kids.map Node.cells)),(.int .i64 a0),(.str a1),(.bs 1 5 8 0 r.2.2.1.length),(.bs 4 6 9 0 r.2.2.2.1.length),(.int .i64 r.2.2.2.2)]),(1, .var 96 [(.fn 45 [(.ptr 2 2 0),(.ptr 3 3 0)])]),(2, .var 9 [(.str r.1)]),(3, .var 86 [(.optr 3 3 0),(.bs 1 4 7 0 r.2.1.length)]),(7, .row 5 (r.2.1.map c8).flatten),(8, .row 9 (r.2.2.1.map sc).flatten),(9, .row 45 (r.2.2.2.1.map Node.cells).flatten)]⟩)) (.again (ju [] Tryz.f118 0).1 (ju [] Tryz.f118 0).2 (.n (.ptr 0 0 0) (.n (.int .i64 t1) .z .z) .z) 10 [(0, .var 123 [(.ptr 1 1 0),(.int .i64 o0_1.kind),(.str o0_1.text),(.sl 1 false (o0_1.gaps.map sc)),(.sl 4 false (o0_1.kids.map Node.cells)),(.int .i64 a0),(.str a1),(.bs 1 5 8 0 a2.length),(.bs 4 6 9 0 a3.length),(.int .i64 o0_3)]),(1, .var 96 [(.fn 45 [(.ptr 2 2 0),(.ptr 3 3 0)])]),(2, .var 9 [(.str o2)]),(3, .var 86 [(.optr 3 3 0),(.bs 1 4 7 0 o3_1.length)]),(7, .row 5 (o3_1.map c8).flatten),(8, .row 9 (a2.map sc).flatten),(9, .row 45 (a3.map Node.cells).flatten)])
@[reducible] def qaz (a0:LN) (o0_1:Node) (a1:Int) (a2:BA) (a3:LB) (a4:LN) (o0_3:Int) (o2:BA) (o3_1:LU) (r:BA × LU × LB × LN):Prop:=
  ∀(l0:LN) (j0:Nat),l0.drop j0=a0→j0≤l0.length→l0.length≤9223372036854775807→Ok Tryz.prog G tt 69 7 (Ret Tryz.prog [] (fun y H=>vj Tryz.prog G 7 H y (.tup []) ⟨10, [(0, .var 123 [(.ptr 1 1 0),(.int .i64 o0_1.kind),(.str o0_1.text),(.sl 1 false (o0_1.gaps.map sc)),(.sl 4 false (o0_1.kids.map Node.cells)),(.int .i64 a1),(.str a2),(.bs 1 5 8 0 r.2.2.1.length),(.bs 4 6 9 0 r.2.2.2.length),(.int .i64 o0_3)]),(1, .var 96 [(.fn 45 [(.ptr 2 2 0),(.ptr 3 3 0)])]),(2, .var 9 [(.str r.1)]),(3, .var 86 [(.optr 3 3 0),(.bs 1 4 7 0 r.2.1.length)]),(7, .row 5 (r.2.1.map c8).flatten),(8, .row 9 (r.2.2.1.map sc).flatten),(9, .row 45 (r.2.2.2.map Node.cells).flatten)]⟩)) (.again (ju [53] Tryz.f76 0).1 (ju [53] Tryz.f76 0).2 (.n (.ptr 0 0 0) (.n .undef (.n .undef (.n .undef (.n .undef (.n .undef (.n (.int .i64 ((l0.map Node.cells).length:Int)) .z .z) .z) .z) .z) .z) .z) (.n .undef (.n .undef (.n .undef (.n .undef (.n .undef (.n (.int .i64 ((j0:Nat):Int)) .z .z) .z) .z) .z) .z) (.n .undef .z (.n .undef .z (.n .undef .z (.n (.sl 4 false (l0.map Node.cells)) .z .z)))))) 15 [(0, .var 123 [(.ptr 1 1 0),(.int .i64 o0_1.kind),(.str o0_1.text),(.sl 1 false (o0_1.gaps.map sc)),(.sl 4 false (o0_1.kids.map Node.cells)),(.int .i64 a1),(.str a2),(.bs 1 5 13 0 a3.length),(.bs 4 6 14 0 a4.length),(.int .i64 o0_3)]),(1, .var 96 [(.fn 45 [(.ptr 2 2 0),(.ptr 3 3 0)])]),(2, .var 9 [(.str o2)]),(3, .var 86 [(.optr 3 3 0),(.bs 1 4 12 0 o3_1.length)]),(12, .row 5 (o3_1.map c8).flatten),(13, .row 9 (a3.map sc).flatten),(14, .row 45 (a4.map Node.cells).flatten)])
@[reducible] def qd2 (a0:LN) (j0:Nat) (t1:BA) (o0_1:Node) (a1:Int) (a2:BA) (a3:LB) (a4:LN) (o0_3:Int) (o2:BA) (o3_1:LU) (r:BA × LU × LB × LN × Int):Prop:=
  ∀(l0:LN),l0.drop (j0+1)=a0→j0+1≤l0.length→l0.length≤9223372036854775807→Ok Tryz.prog G tt 146 7 (Ret Tryz.prog [] (fun y H=>vj Tryz.prog G 7 H y (.tup []) ⟨10, [(0, .var 123 [(.ptr 1 1 0),(.int .i64 o0_1.kind),(.str o0_1.text),(.sl 1 false (o0_1.gaps.map sc)),(.sl 4 false (o0_1.kids.map Node.cells)),(.int .i64 a1),(.str a2),(.bs 1 5 8 0 r.2.2.1.length),(.bs 4 6 9 0 r.2.2.2.1.length),(.int .i64 r.2.2.2.2)]),(1, .var 96 [(.fn 45 [(.ptr 2 2 0),(.ptr 3 3 0)])]),(2, .var 9 [(.str r.1)]),(3, .var 86 [(.optr 3 3 0),(.bs 1 4 7 0 r.2.1.length)]),(7, .row 5 (r.2.1.map c8).flatten),(8, .row 9 (r.2.2.1.map sc).flatten),(9, .row 45 (r.2.2.2.1.map Node.cells).flatten)]⟩)) (.go [] (v8 [22,33] Tryz.f77 22) [] (.n (.ptr 0 0 0) (.n (.str t1) .z (.n .undef (.n .undef (.n (.int .i64 ((l0.map Node.cells).length:Int)) .z .z) .z) .z)) (.n .undef (.n .undef (.n .undef (.n (.sl 4 false (l0.map Node.cells)) .z .z) .z) .z) (.n .undef (.n .undef (.n (.int .i64 ((j0:Nat):Int)) .z .z) .z) .z))) 13 [(0, .var 123 [(.ptr 1 1 0),(.int .i64 o0_1.kind),(.str o0_1.text),(.sl 1 false (o0_1.gaps.map sc)),(.sl 4 false (o0_1.kids.map Node.cells)),(.int .i64 a1),(.str a2),(.bs 1 5 11 0 a3.length),(.bs 4 6 12 0 a4.length),(.int .i64 o0_3)]),(1, .var 96 [(.fn 45 [(.ptr 2 2 0),(.ptr 3 3 0)])]),(2, .var 9 [(.str o2)]),(3, .var 86 [(.optr 3 3 0),(.bs 1 4 10 0 o3_1.length)]),(10, .row 5 (o3_1.map c8).flatten),(11, .row 9 (a3.map sc).flatten),(12, .row 45 (a4.map Node.cells).flatten)])
@[reducible] def qgs (o0_1:Node) (a0:Int) (a1:BA) (a2:LB) (a3:LN) (o0_3:Int) (o2:BA) (o3_1:LU) (r:BA × LU × LB × LN):Prop:=
  Ok Tryz.prog G tt 25 7 (Ret Tryz.prog [] (fun y H=>vj Tryz.prog G 7 H y (.tup []) ⟨10, [(0, .var 123 [(.ptr 1 1 0),(.int .i64 o0_1.kind),(.str o0_1.text),(.sl 1 false (o0_1.gaps.map sc)),(.sl 4 false (o0_1.kids.map Node.cells)),(.int .i64 a0),(.str a1),(.bs 1 5 8 0 r.2.2.1.length),(.bs 4 6 9 0 r.2.2.2.length),(.int .i64 o0_3)]),(1, .var 96 [(.fn 45 [(.ptr 2 2 0),(.ptr 3 3 0)])]),(2, .var 9 [(.str r.1)]),(3, .var 86 [(.optr 3 3 0),(.bs 1 4 7 0 r.2.1.length)]),(7, .row 5 (r.2.1.map c8).flatten),(8, .row 9 (r.2.2.1.map sc).flatten),(9, .row 45 (r.2.2.2.map Node.cells).flatten)]⟩)) (.go [] (qgn [1000001] Tryz.f115 1) [] (.n (.ptr 0 0 0) .z .z) 15 [(0, .var 123 [(.ptr 1 1 0),(.int .i64 o0_1.kind),(.str o0_1.text),(.sl 1 false (o0_1.gaps.map sc)),(.sl 4 false (o0_1.kids.map Node.cells)),(.int .i64 a0),(.str a1),(.bs 1 5 13 0 a2.length),(.bs 4 6 14 0 a3.length),(.int .i64 o0_3)]),(1, .var 96 [(.fn 45 [(.ptr 2 2 0),(.ptr 3 3 0)])]),(2, .var 9 [(.str o2)]),(3, .var 86 [(.optr 3 3 0),(.bs 1 4 12 0 o3_1.length)]),(12, .row 5 (o3_1.map c8).flatten),(13, .row 9 (a2.map sc).flatten),(14, .row 45 (a3.map Node.cells).flatten)])
theorem ub:PC5 qmq qdb∧PC9 qkc qfy∧PC10 qkd qcf∧PC9 qqx uw∧PC9 qmr qel∧PC9 qgt Yj∧PC8 qmm qda∧PC9 qgr Jq∧PC8 qgs W4∧PC11 qev Ji∧PC11 qd2 Yi∧PC9 qd0 K6∧PC10 W0 u5∧PC9 qaz uz∧PC9 qco Yx:=by
 refine qdb.mutual_partial_correctness qmq qkc qkd qqx qmr qgt qmm qgr qgs qev qd2 qd0 W0 qaz qco (fun qfy K6 Yx qq1 qh5 qg4 a0 a4 a1 a2 a3 r h=> ?_) (fun qcf uw qel qda Ji qgw kx qmx qfv qbw a0 a2 a0_n a3 a4 a5 a6 a7 a1 r h=> ?_) (fun uw kx a0 a3 a0_n a4 a5 a6 a7 a8 a1 a2 r h=> ?_) (fun qdb qmw a0 a2 a0_n a3 a4 a5 a6 a7 a1 r h=> ?_) (fun Yj qc9 a0 a2 a0_n a3 a4 a5 a6 a7 a1 r h=> ?_) (fun uw Yj kx qc9 t1 o0_1 a0 a1 a2 a3 o0_3 o2 o3_1 r h=> ?_) (fun Jq qc8 a0 a1 a0_n a2 a3 a4 a5 a6 r h=> ?_) (fun uw W4 kx qgv t2 o0_1 a0 a1 a2 a3 o0_3 o2 o3_1 r h=> ?_) (fun Jq qc8 o0_1 a0 a1 a2 a3 o0_3 o2 o3_1 r h=> ?_) (fun Yi qd5 a0 j0 t1 o0_1 a1 a2 a3 a4 o0_3 o2 o3_1 r h=> ?_) (fun uw Ji kx qbw a0 j0 t1 o0_1 a1 a2 a3 a4 o0_3 o2 o3_1 r h=> ?_) (fun qcf uw u5 qgw kx Zq a0 a2 a0_n a3 a4 a5 a6 a7 a1 r h=> ?_) (fun uz Y8 t1 t4 o0_1 a0 a1 a2 a3 o0_3 o2 o3_1 r h=> ?_) (fun uw uz kx Y8 a0 o0_1 a1 a2 a3 a4 o0_3 o2 o3_1 r h=> ?_) (fun uw qda kx qfv a0 a2 a0_n a3 a4 a5 a6 a7 a1 r h=> ?_)
 ·unfold qa at h
  refine ⟨?_,(zm rfl rfl (zm rfl rfl (zm rfl rfl (jn zr rfl j3)))),(qj (qj (qj (za zr zg)))),(zn rfl (zn rfl (zn rfl (jt zr j6)))),(qj (qj (qj (za zr zg)))),rfl,rfl,rfl,rfl⟩
  refine ku (T:=tt) (N:=41) (rs:= [.cell 8 45]) (fun vs w=>by simp) Tryz.func50 rfl rfl rfl (by kernel_rfl) (by kernel_rfl) ?_
  refine kr [23,30] ?_
  obtain ⟨x1,hx,h⟩:=bind_some h
  refine qn (qej _ _ hx) ?_
  refine kr [23,30] ?_
  refine qe (fun hb=> ?_) (fun hb=> ?_)
  ·replace h:=ql hb h
   refine kr [23,30] ?_
   obtain ⟨x2,hx,h⟩:=bind_some h
   refine qb (ACalls.ghost (e:=9) (ACalls.ghost (e:=45) (ACalls.wkg (AC.go (objs:= [(0, .var 96 [(.fn 45 [(.ptr 1 1 0),(.ptr 2 2 0)])]),(1, .var 9 [(.str a0)]),(2, .var 86 [(.optr 2 2 0),(.bs 1 3 3 0 a4.length)]),(3, .row 5 (a4.map c8).flatten),(4, .var 45 (z7 a1)),(5, .var 45 [(.int .i64 0),(.str ⟨#[]⟩),(.sl 0 true []),(.sl 0 true [])]),(6, .var 123 [(.ptr 0 0 0),(.int .i64 a1.kind),(.str a1.text),(.sl 1 false (a1.gaps.map sc)),(.sl 4 false (a1.kids.map Node.cells)),(.int .i64 a1.kind),(.str a1.text),(.bs 1 7 7 0 ([]:LB).length),(.bs 4 8 8 0 ([]:LN).length),(.int .i64 a3)]),(7, .row 9 (([]:LB).map sc).flatten),(8, .row 45 (([]:LN).map Node.cells).flatten)]) (xs:= [(.ptr 6 6 0),(.str a2)]) (qg4 _ _ _ _ _ _ _ _ _ _ hx) [6,0,1,2,3,7,8] [6,0,1,2,3,7,8] rfl rfl rfl rfl rfl rfl rfl rfl rfl) (qg (qq _) (qg (qq _) jb)) (qf (qf (qf (qf (qf (qf (je (qd (qk _) (qd (qk _) (qd (qk _) (qd (qk _) (qd (qk _) (qd (qk _) (qd (qk _) (qd (ze rfl) (qd (ze rfl) (qd (qk _) jw)))))))))) (zq _))))))))))) ?_
   refine kr [23,30] ?_
   exact qx (by kernel_rfl) rfl lQ (qje _ _ _ _ _ _ _ _ _ h)
  replace h:=qm hb h
  refine kr [23,30] ?_
  obtain ⟨x3,hx,h⟩:=bind_some h
  refine qn (qej _ _ hx) ?_
  refine kr [23,30] ?_
  refine qe (fun hb=> ?_) (fun hb=> ?_)
  ·replace h:=ql hb h
   refine kr [23,30] ?_
   obtain ⟨x4,hx,h⟩:=bind_some h
   refine qb (ACalls.ghost (e:=9) (ACalls.ghost (e:=45) (ACalls.wkg (AC.go (objs:= [(0, .var 96 [(.fn 45 [(.ptr 1 1 0),(.ptr 2 2 0)])]),(1, .var 9 [(.str a0)]),(2, .var 86 [(.optr 2 2 0),(.bs 1 3 3 0 a4.length)]),(3, .row 5 (a4.map c8).flatten),(4, .var 45 (z7 a1)),(5, .var 45 [(.int .i64 0),(.str ⟨#[]⟩),(.sl 0 true []),(.sl 0 true [])]),(6, .var 123 [(.ptr 0 0 0),(.int .i64 a1.kind),(.str a1.text),(.sl 1 false (a1.gaps.map sc)),(.sl 4 false (a1.kids.map Node.cells)),(.int .i64 a1.kind),(.str a1.text),(.bs 1 7 7 0 ([]:LB).length),(.bs 4 8 8 0 ([]:LN).length),(.int .i64 a3)]),(7, .row 9 (([]:LB).map sc).flatten),(8, .row 45 (([]:LN).map Node.cells).flatten)]) (xs:= [(.ptr 6 6 0),(.str a2)]) (qh5 _ _ _ _ _ _ _ _ _ _ hx) [6,0,1,2,3,7,8] [6,0,1,2,3,7,8] rfl rfl rfl rfl rfl rfl rfl rfl rfl) (qg (qq _) (qg (qq _) jb)) (qf (qf (qf (qf (qf (qf (je (qd (qk _) (qd (qk _) (qd (qk _) (qd (qk _) (qd (qk _) (qd (qk _) (qd (qk _) (qd (ze rfl) (qd (ze rfl) (qd (qk _) jw)))))))))) (zq _))))))))))) ?_
   refine kr [23,30] ?_
   exact qx (by kernel_rfl) rfl lQ (qjd _ _ _ _ _ _ _ _ _ h)
  replace h:=qm hb h
  refine kr [23,30] ?_
  obtain ⟨x5,hx,h⟩:=bind_some h
  refine qb (ACalls.ghost (e:=9) (ACalls.ghost (e:=45) (ACalls.wkg (AC.go (objs:= [(0, .var 96 [(.fn 45 [(.ptr 1 1 0),(.ptr 2 2 0)])]),(1, .var 9 [(.str a0)]),(2, .var 86 [(.optr 2 2 0),(.bs 1 3 3 0 a4.length)]),(3, .row 5 (a4.map c8).flatten),(4, .var 45 (z7 a1)),(5, .var 45 [(.int .i64 0),(.str ⟨#[]⟩),(.sl 0 true []),(.sl 0 true [])]),(6, .var 123 [(.ptr 0 0 0),(.int .i64 a1.kind),(.str a1.text),(.sl 1 false (a1.gaps.map sc)),(.sl 4 false (a1.kids.map Node.cells)),(.int .i64 a1.kind),(.str a1.text),(.bs 1 7 7 0 ([]:LB).length),(.bs 4 8 8 0 ([]:LN).length),(.int .i64 a3)]),(7, .row 9 (([]:LB).map sc).flatten),(8, .row 45 (([]:LN).map Node.cells).flatten)]) (xs:= [(.ptr 6 6 0),(.str a2)]) (qq1 _ _ _ _ _ _ _ _ _ _ hx) [6,0,1,2,3,7,8] [6,0,1,2,3,7,8] rfl rfl rfl rfl rfl rfl rfl rfl rfl) (qg (qq _) (qg (qq _) jb)) (qf (qf (qf (qf (qf (qf (je (qd (qk _) (qd (qk _) (qd (qk _) (qd (qk _) (qd (qk _) (qd (qk _) (qd (qk _) (qd (ze rfl) (qd (ze rfl) (qd (qk _) jw)))))))))) (zq _))))))))))) ?_
  refine kr [23,30] ?_
  exact qx (by kernel_rfl) rfl lQ (qjd _ _ _ _ _ _ _ _ _ h)
 ·unfold qa at h
  refine ⟨?_,(zm rfl rfl (zm rfl rfl (zm rfl rfl (zm rfl rfl (jn zr rfl (jn zp rfl (jn qo rfl j3))))))),(qj (qj (qj (qj (za zr (za zp (za qo zg))))))),(zn rfl (zn rfl (zn rfl (zn rfl (jt zr (jt zp (jt qo j6))))))),(qj (qj (qj (qj (za zr (za zp (za qo zg))))))),rfl,rfl,rfl,rfl⟩
  refine ku (T:=tt) (N:=146) (rs:= []) (fun vs w=>by simp) Tryz.func77 rfl rfl rfl (by kernel_rfl) (by kernel_rfl) ?_
  refine kr [22,33] ?_
  refine qe (fun hb=> ?_) (fun hb=> ?_)
  ·replace h:=ql hb h
   refine kr [22,33] ?_
   refine Wv 16 rfl (fun hm=> ?_)
   exact jr (by kernel_rfl) lQ (qbw _ _ _ _ _ _ _ _ _ _ _ _ h a0_n.kids rfl (AD _) (Qw hm))
  replace h:=qm hb h
  refine kr [22,33] ?_
  refine qe (fun hb=> ?_) (fun hb=> ?_)
  ·replace h:=ql hb h
   refine kr [22,33] ?_
   obtain ⟨x37,hx,h⟩:=bind_some h
   refine qb (AC.g9 (jq _ _ _ _ _ _ _ _ _ _ _ hx) [0,1,2,3,4,5,6] [0,1,2,3,4,5,6]) ?_
   refine kr [22,33] ?_
   obtain ⟨x38,hx,h⟩:=bind_some h
   refine qb (AC.g9 (jq _ _ _ _ _ _ _ _ _ _ _ hx) [0,1,2,3,4,5,6] [0,1,2,3,7,8,6]) ?_
   refine kr [22,33] ?_
   obtain ⟨x39,hx,h⟩:=bind_some h
   refine qb (AC.g9 (kx _ _ _ _ _ _ _ _ _ _ hx) [0,1,2,3,4,5,6] [0,1,2,3,9,10,6]) ?_
   refine kr [22,33] ?_
   obtain ⟨x40,hx,h⟩:=bind_some h
   refine qb (AC.g9 (kx _ _ _ _ _ _ _ _ _ _ hx) [0,1,2,3,4,5,6] [0,1,2,3,11,10,12]) ?_
   refine kr [22,33] ?_
   obtain ⟨x41,hx,h⟩:=bind_some h
   refine qb (AC.g9 (kx _ _ _ _ _ _ _ _ _ _ hx) [0,1,2,3,4,5,6] [0,1,2,3,13,10,14]) ?_
   refine kr [22,33] ?_
   cases h
   exact jh env rfl (tS [some 0,some 1,some 2,some 3,some 4,some 5,some 6] (sV (lS (lS (lS (lS (lS (lS (lS (lS (lS (lS lN)))))))))) (sV (lS lN) (sV (lS lN) (sV (lS (lS lN)) (sR zr (sR zp (sR qo q8))))))) (jy jf))
  replace h:=qm hb h
  refine kr [22,33] ?_
  refine qe (fun hb=> ?_) (fun hb=> ?_)
  ·replace h:=ql hb h
   refine kr [22,33] ?_
   obtain ⟨x42,hx,h⟩:=bind_some h
   refine qb (AC.g9 (jq _ _ _ _ _ _ _ _ _ _ _ hx) [0,1,2,3,4,5,6] [0,1,2,3,4,5,6]) ?_
   refine kr [22,33] ?_
   obtain ⟨x43,hx,h⟩:=bind_some h
   refine qb (AC.g9 (qfv _ _ _ _ _ _ _ _ _ hx) [0,1,2,3,4,5,6] [0,1,2,3,7,8,6]) ?_
   refine kr [22,33] ?_
   cases h
   exact jh env rfl (tS [some 0,some 1,some 2,some 3,some 4,some 5,some 6] (sV (lS (lS (lS (lS (lS (lS (lS (lS (lS (lS lN)))))))))) (sV (lS lN) (sV (lS lN) (sV (lS (lS lN)) (sR zr (sR zp (sR qo q8))))))) (jy jf))
  replace h:=qm hb h
  refine kr [22,33] ?_
  refine qe (fun hb=> ?_) (fun hb=> ?_)
  ·replace h:=ql hb h
   refine kr [22,33] ?_
   obtain ⟨x44,hx,h⟩:=bind_some h
   refine qb (AC.g9 (jq _ _ _ _ _ _ _ _ _ _ _ hx) [0,1,2,3,4,5,6] [0,1,2,3,4,5,6]) ?_
   refine kr [22,33] ?_
   obtain ⟨x45,hx,h⟩:=bind_some h
   refine qb (AC.g9 (kx _ _ _ _ _ _ _ _ _ _ hx) [0,1,2,3,4,5,6] [0,1,2,3,7,8,6]) ?_
   refine kr [22,33] ?_
   cases h
   exact jh env rfl (tS [some 0,some 1,some 2,some 3,some 4,some 5,some 6] (sV (lS (lS (lS (lS (lS (lS (lS (lS (lS (lS lN)))))))))) (sV (lS lN) (sV (lS lN) (sV (lS (lS lN)) (sR zr (sR zp (sR qo q8))))))) (jy jf))
  replace h:=qm hb h
  refine kr [22,33] ?_
  refine qe (fun hb=> ?_) (fun hb=> ?_)
  ·replace h:=ql hb h
   refine kr [22,33] ?_
   obtain ⟨x46,hx,h⟩:=bind_some h
   refine qb (AC.g9 (jq _ _ _ _ _ _ _ _ _ _ _ hx) [0,1,2,3,4,5,6] [0,1,2,3,4,5,6]) ?_
   refine kr [22,33] ?_
   cases h
   exact jh env rfl (tS [some 0,some 1,some 2,some 3,some 4,some 5,some 6] (sV (lS (lS (lS (lS (lS (lS (lS (lS (lS (lS lN)))))))))) (sV (lS lN) (sV (lS lN) (sV (lS (lS lN)) (sR zr (sR zp (sR qo q8))))))) (jy jf))
  replace h:=qm hb h
  refine kr [22,33] ?_
  refine qe (fun hb=> ?_) (fun hb=> ?_)
  ·replace h:=ql hb h
   refine kr [22,33] ?_
   obtain ⟨x47,hx,h⟩:=bind_some h
   refine qb (AC.g9 (jq _ _ _ _ _ _ _ _ _ _ _ hx) [0,1,2,3,4,5,6] [0,1,2,3,4,5,6]) ?_
   refine kr [22,33] ?_
   obtain ⟨x48,hx,h⟩:=bind_some h
   refine qb (AC.g9 (qmx _ _ _ _ _ _ _ _ _ _ hx) [0,1,2,3,4,5,6] [0,1,2,3,7,8,6]) ?_
   refine kr [22,33] ?_
   cases h
   exact jh env rfl (tS [some 0,some 1,some 2,some 3,some 4,some 5,some 6] (sV (lS (lS (lS (lS (lS (lS (lS (lS (lS (lS lN)))))))))) (sV (lS lN) (sV (lS lN) (sV (lS (lS lN)) (sR zr (sR zp (sR qo q8))))))) (jy jf))
  replace h:=qm hb h
  refine kr [22,33] ?_
  refine qe (fun hb=> ?_) (fun hb=> ?_)
  ·replace h:=ql hb h
   refine kr [22,33] ?_
   obtain ⟨x49,hx,h⟩:=bind_some h
   refine qb (AC.g9 (jq _ _ _ _ _ _ _ _ _ _ _ hx) [0,1,2,3,4,5,6] [0,1,2,3,4,5,6]) ?_
   refine kr [22,33] ?_
   obtain ⟨x50,hx,h⟩:=bind_some h
   refine qb (AC.g9 (jq _ _ _ _ _ _ _ _ _ _ _ hx) [0,1,2,3,4,5,6] [0,1,2,3,7,8,6]) ?_
   refine kr [22,33] ?_
   obtain ⟨x51,hx,h⟩:=bind_some h
   refine qb (AC.g9 (kx _ _ _ _ _ _ _ _ _ _ hx) [0,1,2,3,4,5,6] [0,1,2,3,9,10,6]) ?_
   refine kr [22,33] ?_
   obtain ⟨x52,hx,h⟩:=bind_some h
   refine qb (AC.g9 (jq _ _ _ _ _ _ _ _ _ _ _ hx) [0,1,2,3,4,5,6] [0,1,2,3,11,10,12]) ?_
   refine kr [22,33] ?_
   obtain ⟨x53,hx,h⟩:=bind_some h
   refine qb (AC.g9 (qmx _ _ _ _ _ _ _ _ _ _ hx) [0,1,2,3,4,5,6] [0,1,2,3,13,14,12]) ?_
   refine kr [22,33] ?_
   cases h
   exact jh env rfl (tS [some 0,some 1,some 2,some 3,some 4,some 5,some 6] (sV (lS (lS (lS (lS (lS (lS (lS (lS (lS (lS lN)))))))))) (sV (lS lN) (sV (lS lN) (sV (lS (lS lN)) (sR zr (sR zp (sR qo q8))))))) (jy jf))
  replace h:=qm hb h
  refine kr [22,33] ?_
  refine qe (fun hb=> ?_) (fun hb=> ?_)
  ·replace h:=ql hb h
   refine kr [22,33] ?_
   refine qe (fun hb=> ?_) (fun hb=> ?_)
   ·replace h:=ql hb h
    refine kr [22,33] ?_
    obtain ⟨x54,hx,h⟩:=bind_some h
    refine qb (AC.g9 (jq _ _ _ _ _ _ _ _ _ _ _ hx) [0,1,2,3,4,5,6] [0,1,2,3,4,5,6]) ?_
    refine kr [22,33] ?_
    obtain ⟨x55,hx,h⟩:=bind_some h
    refine qb (AC.g9 (jq _ _ _ _ _ _ _ _ _ _ _ hx) [0,1,2,3,4,5,6] [0,1,2,3,7,8,6]) ?_
    refine kr [22,33] ?_
    cases h
    exact jh env rfl (tS [some 0,some 1,some 2,some 3,some 4,some 5,some 6] (sV (lS (lS (lS (lS (lS (lS (lS (lS (lS (lS lN)))))))))) (sV (lS lN) (sV (lS lN) (sV (lS (lS lN)) (sR zr (sR zp (sR qo q8))))))) (jy jf))
   replace h:=qm hb h
   refine kr [22,33] ?_
   cases h
   exact jh env rfl (tS [some 0,some 1,some 2,some 3,some 4,some 5,some 6] (sV (lS (lS (lS (lS (lS (lS (lS (lS (lS (lS lN)))))))))) (sV (lS lN) (sV (lS lN) (sV (lS (lS lN)) (sR zr (sR zp (sR qo q8))))))) (jy jf))
  replace h:=qm hb h
  refine kr [22,33] ?_
  refine qe (fun hb=> ?_) (fun hb=> ?_)
  ·replace h:=ql hb h
   refine kr [22,33] ?_
   obtain ⟨x56,hx,h⟩:=bind_some h
   refine qb (AC.g9 (qgw _ _ _ _ _ _ _ _ _ _ _ hx) [0,1,2,3,4,5,6] [0,1,2,3,4,5,6]) ?_
   refine kr [22,33] ?_
   cases h
   exact jh env rfl (tS [some 0,some 1,some 2,some 3,some 4,some 5,some 6] (sV (lS (lS (lS (lS (lS (lS (lS (lS (lS (lS lN)))))))))) (sV (lS lN) (sV (lS lN) (sV (lS (lS lN)) (sR zr (sR zp (sR qo q8))))))) (jy jf))
  replace h:=qm hb h
  refine kr [22,33] ?_
  refine qe (fun hb=> ?_) (fun hb=> ?_)
  ·replace h:=ql hb h
   refine kr [22,33] ?_
   refine qe (fun hb=> ?_) (fun hb=> ?_)
   ·replace h:=ql hb h
    refine kr [22,33] ?_
    obtain ⟨x57,hx,h⟩:=bind_some h
    refine qb (AC.g9 (jq _ _ _ _ _ _ _ _ _ _ _ hx) [0,1,2,3,4,5,6] [0,1,2,3,4,5,6]) ?_
    refine kr [22,33] ?_
    obtain ⟨x58,hx,h⟩:=bind_some h
    refine qb (AC.g9 (kx _ _ _ _ _ _ _ _ _ _ hx) [0,1,2,3,4,5,6] [0,1,2,3,7,8,6]) ?_
    refine kr [22,33] ?_
    cases h
    exact jh env rfl (tS [some 0,some 1,some 2,some 3,some 4,some 5,some 6] (sV (lS (lS (lS (lS (lS (lS (lS (lS (lS (lS lN)))))))))) (sV (lS lN) (sV (lS lN) (sV (lS (lS lN)) (sR zr (sR zp (sR qo q8))))))) (jy jf))
   replace h:=qm hb h
   refine kr [22,33] ?_
   cases h
   exact jh env rfl (tS [some 0,some 1,some 2,some 3,some 4,some 5,some 6] (sV (lS (lS (lS (lS (lS (lS (lS (lS (lS (lS lN)))))))))) (sV (lS lN) (sV (lS lN) (sV (lS (lS lN)) (sR zr (sR zp (sR qo q8))))))) (jy jf))
  replace h:=qm hb h
  refine kr [22,33] ?_
  cases h
  exact jh env rfl (tS [some 0,some 1,some 2,some 3,some 4,some 5,some 6] (sV (lS (lS (lS (lS (lS (lS (lS (lS (lS (lS lN)))))))))) (sV (lS lN) (sV (lS lN) (sV (lS (lS lN)) (sR zr (sR zp (sR qo q8))))))) (jy jf))
 ·unfold qa at h
  refine ⟨?_,(zm rfl rfl (zm rfl rfl (zm rfl rfl (zm rfl rfl (jn zr rfl (jn zp rfl (jn qo rfl j3))))))),(qj (qj (qj (qj (za zr (za zp (za qo zg))))))),(zn rfl (zn rfl (zn rfl (zn rfl (jt zr (jt zp (jt qo j6))))))),(qj (qj (qj (qj (za zr (za zp (za qo zg))))))),rfl,rfl,rfl,rfl⟩
  refine ku (T:=tt) (N:=23) (rs:= []) (fun vs w=>by simp) Tryz.func117 rfl rfl rfl (by kernel_rfl) (by kernel_rfl) ?_
  refine kr [] ?_
  obtain ⟨x62,hx,h⟩:=bind_some h
  refine qb (AC.g9 (jq _ _ _ _ _ _ _ _ _ _ _ hx) [0,1,2,3,4,5,6] [0,1,2,3,4,5,6]) ?_
  refine kr [] ?_
  obtain ⟨x63,hx,h⟩:=bind_some h
  refine qb (AC.g9 (jq _ _ _ _ _ _ _ _ _ _ _ hx) [0,1,2,3,4,5,6] [0,1,2,3,7,8,6]) ?_
  refine kr [] ?_
  obtain ⟨x64,hx,h⟩:=bind_some h
  refine qb (AC.g9 (jq _ _ _ _ _ _ _ _ _ _ _ hx) [0,1,2,3,4,5,6] [0,1,2,3,9,10,6]) ?_
  refine kr [] ?_
  obtain ⟨x65,hx,h⟩:=bind_some h
  refine qb (AC.g9 (kx _ _ _ _ _ _ _ _ _ _ hx) [0,1,2,3,4,5,6] [0,1,2,3,11,12,6]) ?_
  refine kr [] ?_
  obtain ⟨x66,hx,h⟩:=bind_some h
  refine qb (AC.g9 (jq _ _ _ _ _ _ _ _ _ _ _ hx) [0,1,2,3,4,5,6] [0,1,2,3,13,12,14]) ?_
  refine kr [] ?_
  cases h
  exact jh env rfl (tS [some 0,some 1,some 2,some 3,some 4,some 5,some 6] (sV (lS (lS (lS (lS (lS (lS (lS (lS (lS (lS lN)))))))))) (sV (lS lN) (sV (lS lN) (sV (lS (lS lN)) (sR zr (sR zp (sR qo q8))))))) (jy jf))
 ·unfold qa at h
  refine ⟨?_,(zm rfl rfl (zm rfl rfl (zm rfl rfl (zm rfl rfl (jn zr rfl (jn zp rfl (jn qo rfl j3))))))),(qj (qj (qj (qj (za zr (za zp (za qo zg))))))),(zn rfl (zn rfl (zn rfl (zn rfl (jt zr (jt zp (jt qo j6))))))),(qj (qj (qj (qj (za zr (za zp (za qo zg))))))),rfl,rfl,rfl,rfl⟩
  refine ku (T:=tt) (N:=41) (rs:= []) (fun vs w=>by simp) Tryz.func116 rfl rfl rfl (by kernel_rfl) (by kernel_rfl) ?_
  refine kr [] ?_
  obtain ⟨x59,hx,h⟩:=bind_some h
  refine y7 env hx rfl rfl rfl rfl (Node.cells_eq x59) ?_
  refine kr [] ?_
  obtain ⟨x60,hx,h⟩:=bind_some h
  refine qb (AC.g9 (qmw _ _ _ _ _ _ hx) [1,2,3,4] [1,2,3,4]) ?_
  refine kr [] ?_
  obtain ⟨x61,hx,h⟩:=bind_some h
  have hz_x61:=hx
  refine qqr (C:=Node.cells) env hx rfl rfl Node.cells_len rfl rfl rfl rfl rfl (by decide) rfl rfl rfl ?_
  refine kr [] ?_
  refine qj9 env rfl rfl rfl rfl (BL _) (qqj hz_x61) ?_
  refine kr [] ?_
  refine qmi hz_x61 qo rfl rfl (Node.cells_eq x60.1).symm rfl rfl rfl ?_
  refine kr [] ?_
  cases h
  exact jh env rfl (tS [some 0,some 1,some 2,some 3,some 4,some 5,some 6] (sV (lS (lS (lS (lS (lS (lS (lS (lS (lS (lS lN)))))))))) (sV (lS lN) (sV (lS lN) (sV (lS (lS lN)) (sR zr (sR zp (sR qo q8))))))) (jy jf))
 ·unfold qa at h
  refine ⟨?_,(zm rfl rfl (zm rfl rfl (zm rfl rfl (zm rfl rfl (jn zr rfl (jn zp rfl (jn qo rfl j3))))))),(qj (qj (qj (qj (za zr (za zp (za qo zg))))))),(zn rfl (zn rfl (zn rfl (zn rfl (jt zr (jt zp (jt qo j6))))))),(qj (qj (qj (qj (za zr (za zp (za qo zg))))))),rfl,rfl,rfl,rfl⟩
  refine ku (T:=tt) (N:=55) (rs:= []) (fun vs w=>by simp) Tryz.func118 rfl rfl rfl (by kernel_rfl) (by kernel_rfl) ?_
  refine kr [] ?_
  exact jr (by kernel_rfl) lQ (qc9 _ _ _ _ _ _ _ _ _ _ h)
 ·unfold qa at h
  refine yb ?_
  refine kr [] ?_
  refine qe (fun hb=> ?_) (fun hb=> ?_)
  ·replace h:=ql hb h
   refine kr [] ?_
   obtain ⟨x72,hx,h⟩:=bind_some h
   refine qn (qh6 _ _ hx) ?_
   refine kr [] ?_
   obtain ⟨x73,hx,h⟩:=bind_some h
   refine qb (AC.g9 (kx _ _ _ _ _ _ _ _ _ _ hx) [0,1,2,3,4,5,6] [0,1,2,3,7,8,9]) ?_
   refine kr [] ?_
   exact ja (by kernel_rfl) lQ (qc9 _ _ _ _ _ _ _ _ _ _ h)
  replace h:=qm hb h
  refine kr [] ?_
  refine qe (fun hb=> ?_) (fun hb=> ?_)
  ·replace h:=ql hb h
   refine kr [] ?_
   obtain ⟨x74,hx,h⟩:=bind_some h
   refine qn (qh6 _ _ hx) ?_
   refine kr [] ?_
   obtain ⟨x75,hx,h⟩:=bind_some h
   refine qb (AC.g9 (jq _ _ _ _ _ _ _ _ _ _ _ hx) [0,1,2,3,4,5,6] [0,1,2,3,7,8,9]) ?_
   refine kr [] ?_
   cases h
   exact jh env rfl (tS [some 0,some 1,some 2,some 3,some 4,some 5,some 6] (sV (lS (lS (lS (lS (lS (lS (lS (lS (lS (lS lN)))))))))) (sV (lS lN) (sV (lS lN) (sV (lS (lS lN)) (sR zr (sR zp (sR qo q8))))))) (jy jf))
  replace h:=qm hb h
  refine kr [] ?_
  obtain ⟨x76,hx,h⟩:=bind_some h
  refine qb (AC.g9 (jq _ _ _ _ _ _ _ _ _ _ _ hx) [0,1,2,3,4,5,6] [0,1,2,3,7,8,9]) ?_
  refine kr [] ?_
  cases h
  exact jh env rfl (tS [some 0,some 1,some 2,some 3,some 4,some 5,some 6] (sV (lS (lS (lS (lS (lS (lS (lS (lS (lS (lS lN)))))))))) (sV (lS lN) (sV (lS lN) (sV (lS (lS lN)) (sR zr (sR zp (sR qo q8))))))) (jy jf))
 ·unfold qa at h
  refine ⟨?_,(zm rfl rfl (zm rfl rfl (zm rfl rfl (zm rfl rfl (jn zr rfl (jn zp rfl (jn qo rfl j3))))))),(qj (qj (qj (qj (za zr (za zp (za qo zg))))))),(zn rfl (zn rfl (zn rfl (zn rfl (jt zr (jt zp (jt qo j6))))))),(qj (qj (qj (qj (za zr (za zp (za qo zg))))))),rfl,rfl,rfl,rfl⟩
  refine ku (T:=tt) (N:=25) (rs:= []) (fun vs w=>by simp) Tryz.func115 rfl rfl rfl (by kernel_rfl) (by kernel_rfl) ?_
  refine kr [1000001] ?_
  exact jr (by kernel_rfl) lQ (qc8 _ _ _ _ _ _ _ _ _ _ h)
 ·unfold qa at h
  refine yb ?_
  refine kr [1000001] ?_
  refine qe (fun hb=> ?_) (fun hb=> ?_)
  ·replace h:=ql hb h
   refine kr [1000001] ?_
   refine qe (fun hb=> ?_) (fun hb=> ?_)
   ·replace h:=ql hb h
    refine kr [1000001] ?_
    obtain ⟨x68,hx,h⟩:=bind_some h
    refine qb (AC.g9 (kx _ _ _ _ _ _ _ _ _ _ hx) [0,1,2,3,4,5,6] [0,1,2,3,7,8,9]) ?_
    refine kr [1000001] ?_
    exact qx (by kernel_rfl) rfl lQ (qgv _ _ _ _ _ _ _ _ _ h)
   replace h:=qm hb h
   refine kr [1000001] ?_
   obtain ⟨x69,hx,h⟩:=bind_some h
   refine qb (AC.g9 (jq _ _ _ _ _ _ _ _ _ _ _ hx) [0,1,2,3,4,5,6] [0,1,2,3,7,8,9]) ?_
   refine kr [1000001] ?_
   obtain ⟨x70,hx,h⟩:=bind_some h
   refine qb (AC.g9 (kx _ _ _ _ _ _ _ _ _ _ hx) [0,1,2,3,4,5,6] [0,1,2,3,10,11,9]) ?_
   refine kr [1000001] ?_
   exact qx (by kernel_rfl) rfl lQ (qgv _ _ _ _ _ _ _ _ _ h)
  replace h:=qm hb h
  refine kr [1000001] ?_
  obtain ⟨x71,hx,h⟩:=bind_some h
  refine qb (AC.g9 (jq _ _ _ _ _ _ _ _ _ _ _ hx) [0,1,2,3,4,5,6] [0,1,2,3,7,8,9]) ?_
  refine kr [1000001] ?_
  cases h
  exact jh env rfl (tS [some 0,some 1,some 2,some 3,some 4,some 5,some 6] (sV (lS (lS (lS (lS (lS (lS (lS (lS (lS (lS lN)))))))))) (sV (lS lN) (sV (lS lN) (sV (lS (lS lN)) (sR zr (sR zp (sR qo q8))))))) (jy jf))
 ·unfold qa at h
  refine kr [1000001] ?_
  exact ja (by kernel_rfl) lQ (qc8 _ _ _ _ _ _ _ _ _ _ h)
 ·unfold qa at h
  intro l0 hl0 hj0 hm0
  refine yb ?_
  cases a0 with
  | nil=>
    have hb:=Z7 (C:=Node.cells) hl0 hj0
    refine kr [22,33] ?_
    refine qz hb ?_
    refine kr [22,33] ?_
    refine qe (fun hb=> ?_) (fun hb=> ?_)
    ·replace h:=ql hb h
     refine kr [22,33] ?_
     exact qx (by kernel_rfl) rfl lQ (qh9 _ _ _ _ _ _ _ _ _ _ h)
    replace h:=qm hb h
    refine kr [22,33] ?_
    exact qx (by kernel_rfl) rfl lQ (qh9 _ _ _ _ _ _ _ _ _ _ h)
  | cons x_0 a0=>
    obtain ⟨hb,hx0,hd0,hk0,hw0⟩:=Qv (C:=Node.cells) hl0 hm0
    refine kr [22,33] ?_
    refine qy hb ?_
    refine kr [22,33] ?_
    refine qe (fun hb=> ?_) (fun hb=> ?_)
    ·replace h:=ql hb h
     refine kr [22,33] ?_
     exact qx (by kernel_rfl) rfl lQ (qd5 _ _ _ _ _ _ _ _ _ _ _ _ h l0 hd0 hk0 hm0)
    replace h:=qm hb h
    refine kr [22,33] ?_
    exact qx (by kernel_rfl) rfl lQ (qd5 _ _ _ _ _ _ _ _ _ _ _ _ h l0 hd0 hk0 hm0)
 ·unfold qa at h
  intro l0 hd0 hk0 hm0
  have hw0:=qaj hk0 hm0
  refine kr [22,33] ?_
  obtain ⟨x79,hx,h⟩:=bind_some h
  refine qb (AC.g9 (kx _ _ _ _ _ _ _ _ _ _ hx) [0,1,2,3,4,5,6] [0,1,2,3,10,11,12]) ?_
  refine kr [22,33] ?_
  exact ja (by kernel_rfl) (qpm (qpr rfl) (Ao rfl) (by simp only [hw0];simp <;> (repeat' apply Bd) <;> first | rfl | exact fun x a _ h=>(qo.all a x h).2 | exact fun x a _ h=>(zr.all a x h).2 | exact fun x a _ h=>(zp.all a x h).2) (by simp <;> (repeat' apply Bd) <;> first | rfl | exact fun x a _ h=>(qo.all a x h).2 | exact fun x a _ h=>(zr.all a x h).2 | exact fun x a _ h=>(zp.all a x h).2)) (qbw _ _ _ _ _ _ _ _ _ _ _ _ h l0 hd0 hk0 hm0)
 ·unfold qa at h
  refine ⟨?_,(zm rfl rfl (zm rfl rfl (zm rfl rfl (zm rfl rfl (jn zr rfl (jn zp rfl (jn qo rfl j3))))))),(qj (qj (qj (qj (za zr (za zp (za qo zg))))))),(zn rfl (zn rfl (zn rfl (zn rfl (jt zr (jt zp (jt qo j6))))))),(qj (qj (qj (qj (za zr (za zp (za qo zg))))))),rfl,rfl,rfl,rfl⟩
  refine ku (T:=tt) (N:=69) (rs:= []) (fun vs w=>by simp) Tryz.func76 rfl rfl rfl (by kernel_rfl) (by kernel_rfl) ?_
  refine kr [53] ?_
  refine qe (fun hb=> ?_) (fun hb=> ?_)
  ·replace h:=ql hb h
   refine kr [53] ?_
   obtain ⟨x27,hx,h⟩:=bind_some h
   refine qb (AC.g9 (qgw _ _ _ _ _ _ _ _ _ _ _ hx) [0,1,2,3,4,5,6] [0,1,2,3,4,5,6]) ?_
   refine kr [53] ?_
   cases h
   exact jh env rfl (tS [some 0,some 1,some 2,some 3,some 4,some 5,some 6] (sV (lS (lS (lS (lS (lS (lS (lS (lS (lS (lS lN)))))))))) (sV (lS lN) (sV (lS lN) (sV (lS (lS lN)) (sR zr (sR zp (sR qo q8))))))) (jy jf))
  replace h:=qm hb h
  refine kr [53] ?_
  refine qe (fun hb=> ?_) (fun hb=> ?_)
  ·replace h:=ql hb h
   refine kr [53] ?_
   obtain ⟨x28,hx,h⟩:=bind_some h
   refine qb (AC.g9 (jq _ _ _ _ _ _ _ _ _ _ _ hx) [0,1,2,3,4,5,6] [0,1,2,3,4,5,6]) ?_
   refine kr [53] ?_
   obtain ⟨x29,hx,h⟩:=bind_some h
   refine qb (AC.g9 (jq _ _ _ _ _ _ _ _ _ _ _ hx) [0,1,2,3,4,5,6] [0,1,2,3,7,8,6]) ?_
   refine kr [53] ?_
   obtain ⟨x30,hx,h⟩:=bind_some h
   refine qb (AC.g9 (kx _ _ _ _ _ _ _ _ _ _ hx) [0,1,2,3,4,5,6] [0,1,2,3,9,10,6]) ?_
   refine kr [53] ?_
   obtain ⟨x31,hx,h⟩:=bind_some h
   refine qb (AC.g9 (jq _ _ _ _ _ _ _ _ _ _ _ hx) [0,1,2,3,4,5,6] [0,1,2,3,11,10,12]) ?_
   refine kr [53] ?_
   cases h
   exact jh env rfl (tS [some 0,some 1,some 2,some 3,some 4,some 5,some 6] (sV (lS (lS (lS (lS (lS (lS (lS (lS (lS (lS lN)))))))))) (sV (lS lN) (sV (lS lN) (sV (lS (lS lN)) (sR zr (sR zp (sR qo q8))))))) (jy jf))
  replace h:=qm hb h
  refine kr [53] ?_
  refine qe (fun hb=> ?_) (fun hb=> ?_)
  ·replace h:=ql hb h
   refine kr [53] ?_
   obtain ⟨x32,hx,h⟩:=bind_some h
   refine qb (AC.g9 (jq _ _ _ _ _ _ _ _ _ _ _ hx) [0,1,2,3,4,5,6] [0,1,2,3,4,5,6]) ?_
   refine kr [53] ?_
   obtain ⟨x33,hx,h⟩:=bind_some h
   refine qb (AC.g9 (kx _ _ _ _ _ _ _ _ _ _ hx) [0,1,2,3,4,5,6] [0,1,2,3,7,8,6]) ?_
   refine kr [53] ?_
   obtain ⟨x34,hx,h⟩:=bind_some h
   refine qb (AC.g9 (jq _ _ _ _ _ _ _ _ _ _ _ hx) [0,1,2,3,4,5,6] [0,1,2,3,9,8,10]) ?_
   refine kr [53] ?_
   cases h
   exact jh env rfl (tS [some 0,some 1,some 2,some 3,some 4,some 5,some 6] (sV (lS (lS (lS (lS (lS (lS (lS (lS (lS (lS lN)))))))))) (sV (lS lN) (sV (lS lN) (sV (lS (lS lN)) (sR zr (sR zp (sR qo q8))))))) (jy jf))
  replace h:=qm hb h
  refine kr [53] ?_
  refine qe (fun hb=> ?_) (fun hb=> ?_)
  ·replace h:=ql hb h
   refine kr [53] ?_
   refine qe (fun hb=> ?_) (fun hb=> ?_)
   ·replace h:=ql hb h
    refine kr [53] ?_
    exact qx (by kernel_rfl) rfl lQ (Zq _ _ _ _ _ _ _ _ _ _ _ h)
   replace h:=qm hb h
   refine kr [53] ?_
   exact qx (by kernel_rfl) rfl lQ (Zq _ _ _ _ _ _ _ _ _ _ _ h)
  replace h:=qm hb h
  refine kr [53] ?_
  refine qe (fun hb=> ?_) (fun hb=> ?_)
  ·replace h:=ql hb h
   refine kr [53] ?_
   refine qe (fun hb=> ?_) (fun hb=> ?_)
   ·replace h:=ql hb h
    refine kr [53] ?_
    exact qx (by kernel_rfl) rfl lQ (Zq _ _ _ _ _ _ _ _ _ _ _ h)
   replace h:=qm hb h
   refine kr [53] ?_
   exact qx (by kernel_rfl) rfl lQ (Zq _ _ _ _ _ _ _ _ _ _ _ h)
  replace h:=qm hb h
  refine kr [53] ?_
  obtain ⟨x35,hx,h⟩:=bind_some h
  refine qb (AC.g9 (kx _ _ _ _ _ _ _ _ _ _ hx) [0,1,2,3,4,5,6] [0,1,2,3,4,5,6]) ?_
  refine kr [53] ?_
  obtain ⟨x36,hx,h⟩:=bind_some h
  refine qb (AC.g9 (jq _ _ _ _ _ _ _ _ _ _ _ hx) [0,1,2,3,4,5,6] [0,1,2,3,7,5,8]) ?_
  refine kr [53] ?_
  cases h
  exact jh env rfl (tS [some 0,some 1,some 2,some 3,some 4,some 5,some 6] (sV (lS (lS (lS (lS (lS (lS (lS (lS (lS (lS lN)))))))))) (sV (lS lN) (sV (lS lN) (sV (lS (lS lN)) (sR zr (sR zp (sR qo q8))))))) (jy jf))
 ·unfold qa at h
  refine kr [53] ?_
  obtain ⟨x67,hx,h⟩:=bind_some h
  refine qb (AC.g9 (jq _ _ _ _ _ _ _ _ _ _ _ hx) [0,1,2,3,4,5,6] [0,1,2,3,7,8,9]) ?_
  refine kr [53] ?_
  refine Wv 62 rfl (fun hm=> ?_)
  exact jr (by kernel_rfl) lQ (Y8 _ _ _ _ _ _ _ _ _ _ h o0_1.kids 0 rfl (AD _) (Qw hm))
 ·unfold qa at h
  intro l0 j0 hl0 hj0 hm0
  refine yb ?_
  cases a0 with
  | nil=>
    have hb:=Z7 (C:=Node.cells) hl0 hj0
    refine kr [53] ?_
    refine qz hb ?_
    refine kr [53] ?_
    cases h
    exact jh env rfl (tS [some 0,some 1,some 2,some 3,some 4,some 5,some 6] (sV (lS (lS (lS (lS (lS (lS (lS (lS (lS (lS lN)))))))))) (sV (lS lN) (sV (lS lN) (sV (lS (lS lN)) (sR zr (sR zp (sR qo q8))))))) (jy jf))
  | cons x_0 a0=>
    obtain ⟨hb,hx0,hd0,hk0,hw0⟩:=Qv (C:=Node.cells) hl0 hm0
    refine kr [53] ?_
    refine qy hb ?_
    refine kr [53] ?_
    obtain ⟨x77,hx,h⟩:=bind_some h
    refine qb (AC.g9 (kx _ _ _ _ _ _ _ _ _ _ hx) [0,1,2,3,4,5,6] [0,1,2,3,12,13,14]) ?_
    refine kr [53] ?_
    exact ja (by kernel_rfl) (qpm (qpr rfl) (Ao rfl) (by simp only [hw0];simp <;> (repeat' apply Bd) <;> first | rfl | exact fun x a _ h=>(qo.all a x h).2 | exact fun x a _ h=>(zr.all a x h).2 | exact fun x a _ h=>(zp.all a x h).2) (by simp <;> (repeat' apply Bd) <;> first | rfl | exact fun x a _ h=>(qo.all a x h).2 | exact fun x a _ h=>(zr.all a x h).2 | exact fun x a _ h=>(zp.all a x h).2)) (Y8 _ _ _ _ _ _ _ _ _ _ h l0 (j0+1) hd0 hk0 hm0)
 unfold qa at h
 refine ⟨?_,(zm rfl rfl (zm rfl rfl (zm rfl rfl (zm rfl rfl (jn zr rfl (jn zp rfl (jn qo rfl j3))))))),(qj (qj (qj (qj (za zr (za zp (za qo zg))))))),(zn rfl (zn rfl (zn rfl (zn rfl (jt zr (jt zp (jt qo j6))))))),(qj (qj (qj (qj (za zr (za zp (za qo zg))))))),rfl,rfl,rfl,rfl⟩
 refine ku (T:=tt) (N:=100) (rs:= []) (fun vs w=>by simp) Tryz.func75 rfl rfl rfl (by kernel_rfl) (by kernel_rfl) ?_
 refine kr [] ?_
 refine qe (fun hb=> ?_) (fun hb=> ?_)
 ·replace h:=ql hb h
  refine kr [] ?_
  obtain ⟨x6,hx,h⟩:=bind_some h
  refine qb (AC.g9 (jq _ _ _ _ _ _ _ _ _ _ _ hx) [0,1,2,3,4,5,6] [0,1,2,3,4,5,6]) ?_
  refine kr [] ?_
  obtain ⟨x7,hx,h⟩:=bind_some h
  refine qb (AC.g9 (jq _ _ _ _ _ _ _ _ _ _ _ hx) [0,1,2,3,4,5,6] [0,1,2,3,7,8,6]) ?_
  refine kr [] ?_
  obtain ⟨x8,hx,h⟩:=bind_some h
  refine qb (AC.g9 (qfv _ _ _ _ _ _ _ _ _ hx) [0,1,2,3,4,5,6] [0,1,2,3,9,10,6]) ?_
  refine kr [] ?_
  cases h
  exact jh env rfl (tS [some 0,some 1,some 2,some 3,some 4,some 5,some 6] (sV (lS (lS (lS (lS (lS (lS (lS (lS (lS (lS lN)))))))))) (sV (lS lN) (sV (lS lN) (sV (lS (lS lN)) (sR zr (sR zp (sR qo q8))))))) (jy jf))
 replace h:=qm hb h
 refine kr [] ?_
 refine qe (fun hb=> ?_) (fun hb=> ?_)
 ·replace h:=ql hb h
  refine kr [] ?_
  obtain ⟨x9,hx,h⟩:=bind_some h
  refine qb (AC.g9 (kx _ _ _ _ _ _ _ _ _ _ hx) [0,1,2,3,4,5,6] [0,1,2,3,4,5,6]) ?_
  refine kr [] ?_
  obtain ⟨x10,hx,h⟩:=bind_some h
  refine qb (AC.g9 (jq _ _ _ _ _ _ _ _ _ _ _ hx) [0,1,2,3,4,5,6] [0,1,2,3,7,5,8]) ?_
  refine kr [] ?_
  obtain ⟨x11,hx,h⟩:=bind_some h
  refine qb (AC.g9 (jq _ _ _ _ _ _ _ _ _ _ _ hx) [0,1,2,3,4,5,6] [0,1,2,3,9,10,8]) ?_
  refine kr [] ?_
  obtain ⟨x12,hx,h⟩:=bind_some h
  refine qb (AC.g9 (jq _ _ _ _ _ _ _ _ _ _ _ hx) [0,1,2,3,4,5,6] [0,1,2,3,11,12,8]) ?_
  refine kr [] ?_
  obtain ⟨x13,hx,h⟩:=bind_some h
  refine qb (AC.g9 (qfv _ _ _ _ _ _ _ _ _ hx) [0,1,2,3,4,5,6] [0,1,2,3,13,14,8]) ?_
  refine kr [] ?_
  cases h
  exact jh env rfl (tS [some 0,some 1,some 2,some 3,some 4,some 5,some 6] (sV (lS (lS (lS (lS (lS (lS (lS (lS (lS (lS lN)))))))))) (sV (lS lN) (sV (lS lN) (sV (lS (lS lN)) (sR zr (sR zp (sR qo q8))))))) (jy jf))
 replace h:=qm hb h
 refine kr [] ?_
 refine qe (fun hb=> ?_) (fun hb=> ?_)
 ·replace h:=ql hb h
  refine kr [] ?_
  obtain ⟨x14,hx,h⟩:=bind_some h
  refine qb (AC.g9 (jq _ _ _ _ _ _ _ _ _ _ _ hx) [0,1,2,3,4,5,6] [0,1,2,3,4,5,6]) ?_
  refine kr [] ?_
  obtain ⟨x15,hx,h⟩:=bind_some h
  refine qb (AC.g9 (jq _ _ _ _ _ _ _ _ _ _ _ hx) [0,1,2,3,4,5,6] [0,1,2,3,7,8,6]) ?_
  refine kr [] ?_
  obtain ⟨x16,hx,h⟩:=bind_some h
  refine qb (AC.g9 (jq _ _ _ _ _ _ _ _ _ _ _ hx) [0,1,2,3,4,5,6] [0,1,2,3,9,10,6]) ?_
  refine kr [] ?_
  obtain ⟨x17,hx,h⟩:=bind_some h
  refine qb (AC.g9 (jq _ _ _ _ _ _ _ _ _ _ _ hx) [0,1,2,3,4,5,6] [0,1,2,3,11,12,6]) ?_
  refine kr [] ?_
  cases h
  exact jh env rfl (tS [some 0,some 1,some 2,some 3,some 4,some 5,some 6] (sV (lS (lS (lS (lS (lS (lS (lS (lS (lS (lS lN)))))))))) (sV (lS lN) (sV (lS lN) (sV (lS (lS lN)) (sR zr (sR zp (sR qo q8))))))) (jy jf))
 replace h:=qm hb h
 refine kr [] ?_
 refine qe (fun hb=> ?_) (fun hb=> ?_)
 ·replace h:=ql hb h
  refine kr [] ?_
  obtain ⟨x18,hx,h⟩:=bind_some h
  refine qb (AC.g9 (kx _ _ _ _ _ _ _ _ _ _ hx) [0,1,2,3,4,5,6] [0,1,2,3,4,5,6]) ?_
  refine kr [] ?_
  obtain ⟨x19,hx,h⟩:=bind_some h
  refine qb (AC.g9 (jq _ _ _ _ _ _ _ _ _ _ _ hx) [0,1,2,3,4,5,6] [0,1,2,3,7,5,8]) ?_
  refine kr [] ?_
  obtain ⟨x20,hx,h⟩:=bind_some h
  refine qb (AC.g9 (kx _ _ _ _ _ _ _ _ _ _ hx) [0,1,2,3,4,5,6] [0,1,2,3,9,10,8]) ?_
  refine kr [] ?_
  cases h
  exact jh env rfl (tS [some 0,some 1,some 2,some 3,some 4,some 5,some 6] (sV (lS (lS (lS (lS (lS (lS (lS (lS (lS (lS lN)))))))))) (sV (lS lN) (sV (lS lN) (sV (lS (lS lN)) (sR zr (sR zp (sR qo q8))))))) (jy jf))
 replace h:=qm hb h
 refine kr [] ?_
 refine qe (fun hb=> ?_) (fun hb=> ?_)
 ·replace h:=ql hb h
  refine kr [] ?_
  obtain ⟨x21,hx,h⟩:=bind_some h
  refine qb (AC.g9 (jq _ _ _ _ _ _ _ _ _ _ _ hx) [0,1,2,3,4,5,6] [0,1,2,3,4,5,6]) ?_
  refine kr [] ?_
  obtain ⟨x22,hx,h⟩:=bind_some h
  refine qb (AC.g9 (kx _ _ _ _ _ _ _ _ _ _ hx) [0,1,2,3,4,5,6] [0,1,2,3,7,8,6]) ?_
  refine kr [] ?_
  cases h
  exact jh env rfl (tS [some 0,some 1,some 2,some 3,some 4,some 5,some 6] (sV (lS (lS (lS (lS (lS (lS (lS (lS (lS (lS lN)))))))))) (sV (lS lN) (sV (lS lN) (sV (lS (lS lN)) (sR zr (sR zp (sR qo q8))))))) (jy jf))
 replace h:=qm hb h
 refine kr [] ?_
 refine qe (fun hb=> ?_) (fun hb=> ?_)
 ·replace h:=ql hb h
  refine kr [] ?_
  obtain ⟨x23,hx,h⟩:=bind_some h
  refine qb (AC.g9 (jq _ _ _ _ _ _ _ _ _ _ _ hx) [0,1,2,3,4,5,6] [0,1,2,3,4,5,6]) ?_
  refine kr [] ?_
  obtain ⟨x24,hx,h⟩:=bind_some h
  refine qb (AC.g9 (kx _ _ _ _ _ _ _ _ _ _ hx) [0,1,2,3,4,5,6] [0,1,2,3,7,8,6]) ?_
  refine kr [] ?_
  obtain ⟨x25,hx,h⟩:=bind_some h
  refine qb (AC.g9 (jq _ _ _ _ _ _ _ _ _ _ _ hx) [0,1,2,3,4,5,6] [0,1,2,3,9,8,10]) ?_
  refine kr [] ?_
  cases h
  exact jh env rfl (tS [some 0,some 1,some 2,some 3,some 4,some 5,some 6] (sV (lS (lS (lS (lS (lS (lS (lS (lS (lS (lS lN)))))))))) (sV (lS lN) (sV (lS lN) (sV (lS (lS lN)) (sR zr (sR zp (sR qo q8))))))) (jy jf))
 replace h:=qm hb h
 refine kr [] ?_
 obtain ⟨x26,hx,h⟩:=bind_some h
 refine qb (AC.g9 (jq _ _ _ _ _ _ _ _ _ _ _ hx) [0,1,2,3,4,5,6] [0,1,2,3,4,5,6]) ?_
 refine kr [] ?_
 cases h
 exact jh env rfl (tS [some 0,some 1,some 2,some 3,some 4,some 5,some 6] (sV (lS (lS (lS (lS (lS (lS (lS (lS (lS (lS lN)))))))))) (sV (lS lN) (sV (lS lN) (sV (lS (lS lN)) (sR zr (sR zp (sR qo q8))))))) (jy jf))
theorem qmw:PC5 qmq qdb:=ub.1
theorem qq1:PC9 qkc qfy:=ub.2.1
theorem qgw:PC10 qkd qcf:=ub.2.2.1
theorem kx:PC9 qqx uw:=ub.2.2.2.1
theorem qmx:PC9 qmr qel:=ub.2.2.2.2.1
theorem qc9:PC9 qgt Yj:=ub.2.2.2.2.2.1
theorem qfv:PC8 qmm qda:=ub.2.2.2.2.2.2.1
theorem qc8:PC9 qgr Jq:=ub.2.2.2.2.2.2.2.1
theorem qgv:PC8 qgs W4:=ub.2.2.2.2.2.2.2.2.1
theorem qbw:PC11 qev Ji:=ub.2.2.2.2.2.2.2.2.2.1
theorem qd5:PC11 qd2 Yi:=ub.2.2.2.2.2.2.2.2.2.2.1
theorem qh5:PC9 qd0 K6:=ub.2.2.2.2.2.2.2.2.2.2.2.1
theorem Zq:PC10 W0 u5:=ub.2.2.2.2.2.2.2.2.2.2.2.2.1
theorem Y8:PC9 qaz uz:=ub.2.2.2.2.2.2.2.2.2.2.2.2.2.1
theorem qg4:PC9 qco Yx:=ub.2.2.2.2.2.2.2.2.2.2.2.2.2.2
def J7 (l:LU):Option Int:=some ((l.length:Int))
theorem qd8 (l:LU) (r:Int) (h:J7 l=some r):AC Tryz.prog G 51 [.ptr 0 0 0] 2 [(0, .var 86 [.optr 0 0 0, .bs 1 1 1 0 l.length]),(1, .row 5 (l.map c8).flatten)] (.int .i64 r) 2 [(0, .var 86 [.optr 0 0 0, .bs 1 1 1 0 l.length]),(1, .row 5 (l.map c8).flatten)]:=by
 cases h;exact zae l
def Zt (l:LU):Option BA:=some ((⟨l.toArray⟩:BA))
theorem qct (l:LU) (r:BA) (h:Zt l=some r):AC Tryz.prog G 52 [.ptr 0 0 0] 2 [(0, .var 86 [.optr 0 0 0, .bs 1 1 1 0 l.length]),(1, .row 5 (l.map c8).flatten)] (.str r) 2 [(0, .dead),(1, .dead)]:=by
 cases h;exact q2x l
def Zh (a0:Node):Option (BA × Int):=
 u0 a0 >>=fun x1=>
 if (!decide (x1=(0:Int)))=true then
  some ((⟨#[]⟩:BA),x1)
 else
  qdb (⟨#[]⟩:BA) ([]:LU) a0 (⟨#[]⟩:BA) (0:Int) >>=fun x2=>
  J7 x2.2.2 >>=fun x3=>
  if (decide ((65536:Int) < x3))=true then
   some ((⟨#[]⟩:BA),(3:Int))
  else
   Zt x2.2.2 >>=fun x4=>
   some (x4,(0:Int))
@[reducible] def qqu (a0:Node) (r:BA × Int):Prop:=
  Fn Tryz.prog G 28 [(.agg (z7 a0))] (.tup [(.str r.1),(.int .i64 r.2)])
theorem qh7:PC1 qqu Zh:=fun a0 r h=>by
 rw [Zh.eq_def] at h
 refine z8 (T:=tt) (N:=22) (rs:= [.tmp 2, .tmp 3]) (fun vs w=>by simp) Tryz.func28 rfl rfl rfl rfl (by kernel_rfl) (yk rfl) (zt _ rfl) ?_
 refine kr [] ?_
 obtain ⟨x1,hx,h⟩:=bind_some h
 refine qn (qek _ _ hx) ?_
 refine kr [] ?_
 refine qe (fun hb=> ?_) (fun hb=> ?_)
 ·replace h:=ql hb h
  refine kr [] ?_
  cases h
  exact kf
 replace h:=qm hb h
 refine kr [] ?_
 obtain ⟨x2,hx,h⟩:=bind_some h
 refine qb (ACalls.ghost (e:=5) (ACalls.wkg (AC.go (objs:= [(0, .var 45 (z7 a0)),(1, .var 86 [(.optr 1 1 0),(.bs 1 4 4 0 ([]:LU).length)]),(2, .var 9 [(.str (⟨#[]⟩:BA))]),(3, .var 96 [(.fn 45 [(.ptr 2 2 0),(.ptr 1 1 0)])]),(4, .row 5 (([]:LU).map c8).flatten)]) (xs:= [(.ptr 3 3 0),(.agg (z7 a0)),(.str (⟨#[]⟩:BA)),(.int .i64 (0:Int))]) (qmw _ _ _ _ _ _ hx) [3,2,1,4] [3,2,1,4] rfl rfl rfl rfl rfl rfl rfl rfl rfl) (qg (qq _) (qg (qq _) (qg (qq _) (qg (qq _) jb)))) (qf (je (qd (q1h rfl) (qd (ze rfl) jw)) (zq _))))) ?_
 refine kr [] ?_
 obtain ⟨x3,hx,h⟩:=bind_some h
 refine qb (AC.g9 (qd8 _ _ hx) [1,4] [1,5]) ?_
 refine kr [] ?_
 refine qe (fun hb=> ?_) (fun hb=> ?_)
 ·replace h:=ql hb h
  refine kr [] ?_
  cases h
  exact kf
 replace h:=qm hb h
 refine kr [] ?_
 obtain ⟨x4,hx,h⟩:=bind_some h
 refine qb (AC.g9 (qct _ _ hx) [1,4] [1,5]) ?_
 refine kr [] ?_
 cases h
 exact kf
def J8 (a0:BA) (a1:Node):Option (Unit × Int):=
 Ks a0 >>=fun x1=>
 if (!x1)=true then
  some ((Unit.mk (⟨#[]⟩) (⟨#[]⟩) (Node.mk 0 (⟨#[]⟩) ([]:LB) ([]:LN)) false),(4:Int))
 else
  if (!decide (a1.kind=(1:Int)))=true then
   some ((Unit.mk (⟨#[]⟩) (⟨#[]⟩) (Node.mk 0 (⟨#[]⟩) ([]:LB) ([]:LN)) false),(7:Int))
  else
   Zh a1 >>=fun x2=>
   if (!decide (x2.2=(0:Int)))=true then
    some ((Unit.mk (⟨#[]⟩) (⟨#[]⟩) (Node.mk 0 (⟨#[]⟩) ([]:LB) ([]:LN)) false),x2.2)
   else
    K8 x2.1 >>=fun x3=>
    if (!decide (x3.2.1=(0:Int)))=true then
     some ((Unit.mk (⟨#[]⟩) (⟨#[]⟩) (Node.mk 0 (⟨#[]⟩) ([]:LB) ([]:LN)) false),x3.2.1)
    else
     some ((Unit.mk a0 x2.1 x3.1 false),(0:Int))
@[reducible] def qmn (a0:BA) (a1:Node) (r:Unit × Int):Prop:=
  Fn Tryz.prog G 23 [(.str a0),(.agg (z7 a1))] (.tup [(.agg (Unit.cells r.1)),(.int .i64 r.2)])
theorem qmu:PC2 qmn J8:=fun a0 a1 r h=>by
 rw [J8.eq_def] at h
 refine z8 (T:=tt) (N:=41) (rs:= [.cell 4 48, .tmp 5]) (fun vs w=>by simp) Tryz.func23 rfl rfl rfl rfl (by kernel_rfl) (yk rfl) (zt _ rfl) ?_
 refine kr [] ?_
 obtain ⟨x1,hx,h⟩:=bind_some h
 refine qn (qjf _ _ hx) ?_
 refine kr [] ?_
 refine qe (fun hb=> ?_) (fun hb=> ?_)
 ·replace h:=ql hb h
  refine kr [] ?_
  cases h
  exact yg env rfl rfl (Z6 (Yt (j8 (qhf (jk (z6 rfl) (jk (z6 rfl) (jk (zo rfl) (jk (z6 rfl) (jk (y6 (.inr rfl)) (jk (y6 (.inr rfl)) (jk (qbh rfl) qe2)))))))) (j8 (uq (zo rfl) (by simp)) Jk))))
 replace h:=qm hb h
 refine kr [] ?_
 refine qe (fun hb=> ?_) (fun hb=> ?_)
 ·replace h:=ql hb h
  refine kr [] ?_
  cases h
  exact yg env rfl rfl (Z6 (Yt (j8 (qhf (jk (z6 rfl) (jk (z6 rfl) (jk (zo rfl) (jk (z6 rfl) (jk (y6 (.inr rfl)) (jk (y6 (.inr rfl)) (jk (qbh rfl) qe2)))))))) (j8 (uq (zo rfl) (by simp)) Jk))))
 replace h:=qm hb h
 refine kr [] ?_
 obtain ⟨x2,hx,h⟩:=bind_some h
 refine qn (qh7 _ _ hx) ?_
 refine kr [] ?_
 refine qe (fun hb=> ?_) (fun hb=> ?_)
 ·replace h:=ql hb h
  refine kr [] ?_
  cases h
  exact yg env rfl rfl (Z6 (Yt (j8 (qhf (jk (z6 rfl) (jk (z6 rfl) (jk (zo rfl) (jk (z6 rfl) (jk (y6 (.inr rfl)) (jk (y6 (.inr rfl)) (jk (qbh rfl) qe2)))))))) (j8 (uq (zo rfl) (by simp)) Jk))))
 replace h:=qm hb h
 refine kr [] ?_
 obtain ⟨x3,hx,h⟩:=bind_some h
 refine qn (qh8 _ _ hx) ?_
 refine kr [] ?_
 refine qe (fun hb=> ?_) (fun hb=> ?_)
 ·replace h:=ql hb h
  refine kr [] ?_
  cases h
  exact yg env rfl rfl (Z6 (Yt (j8 (qhf (jk (z6 rfl) (jk (z6 rfl) (jk (zo rfl) (jk (z6 rfl) (jk (y6 (.inr rfl)) (jk (y6 (.inr rfl)) (jk (qbh rfl) qe2)))))))) (j8 (uq (zo rfl) (by simp)) Jk))))
 replace h:=qm hb h
 refine kr [] ?_
 cases h
 exact kf
def ua (t0:(List File)) (t1:(List File)) (t5:Int):Option Bool:=
 if (decide (t5 < ((t0.map File.cells).length:Int)))=true then
  ix t0 t5 >>=fun x1=>
  ix t1 t5 >>=fun x2=>
  if (!(decide (x1.Path=x2.Path) && (decide (x1.Text=x2.Text) && true)))=true then
   some false
  else
   ua (qa t0) (qa t1) (IntKind.i64.wrap (t5+(1:Int)))
 else
  some true
 partial_fixpoint
@[reducible] def qca (t0:(List File)) (t1:(List File)) (t5:Int) (r:Bool):Prop:=
  Ok Tryz.prog G tt 26 0 (Ret Tryz.prog [.tmp 4] (fun y H=>Told Tryz.prog G H y (.bool r))) (.again (ju [] Tryz.f25 0).1 (ju [] Tryz.f25 0).2 (.n (.sl 2 false (t0.map File.cells)) (.n (.sl 2 false (t1.map File.cells)) .z (.n (.int .i64 t5) .z .z)) .z) 0 [])
theorem Kq:PC3 qca ua:=by
 refine ua.partial_correctness qca (fun ua Kq t0 t1 t5 r h=> ?_)
 unfold qa at h
 refine yb ?_
 refine kr [] ?_
 refine qe (fun hb=> ?_) (fun hb=> ?_)
 ·replace h:=ql hb h
  refine kr [] ?_
  obtain ⟨x1,hx,h⟩:=bind_some h
  refine y7 env hx rfl rfl rfl rfl rfl ?_
  refine kr [] ?_
  obtain ⟨x2,hx,h⟩:=bind_some h
  refine y7 env hx rfl rfl rfl rfl rfl ?_
  refine kr [] ?_
  refine qe (fun hb=> ?_) (fun hb=> ?_)
  ·replace h:=ql hb h
   refine kr [] ?_
   cases h
   exact kf
  replace h:=qm hb h
  refine kr [] ?_
  exact ja (by kernel_rfl) lA (Kq _ _ _ _ h)
 replace h:=qm hb h
 refine kr [] ?_
 cases h
 exact kf
def Ys (a0:(List File)) (a1:(List File)):Option Bool:=
 if (!decide (((a0.map File.cells).length:Int)=((a1.map File.cells).length:Int)))=true then
  some false
 else
  ua a0 a1 (0:Int)
@[reducible] def qlo (a0:(List File)) (a1:(List File)) (r:Bool):Prop:=
  Fn Tryz.prog G 25 [(.sl 2 false (a0.map File.cells)),(.sl 2 false (a1.map File.cells))] (.bool r)
theorem qlt:PC2 qlo Ys:=fun a0 a1 r h=>by
 rw [Ys.eq_def] at h
 refine z8 (T:=tt) (N:=26) (rs:= [.tmp 4]) (fun vs w=>by simp) Tryz.func25 rfl rfl rfl rfl (by kernel_rfl) (yk rfl) (zt _ rfl) ?_
 refine kr [] ?_
 refine qe (fun hb=> ?_) (fun hb=> ?_)
 ·replace h:=ql hb h
  refine kr [] ?_
  cases h
  exact kf
 replace h:=qm hb h
 refine kr [] ?_
 exact jr (by kernel_rfl) lA (Kq _ _ _ _ h)
def w7 (a0:(List Unit)) (t3:(List File)):Option ((List File)):=
 match a0 with
 | []=>
   some t3
 | x_0::a0=>
   app 32 t3 ([(File.mk x_0.Path x_0.Text)]) >>=fun x1=>
   w7 (qa a0) (qa x1)
 partial_fixpoint
@[reducible] def qb7 (a0:(List Unit)) (t3:(List File)) (r:(List File)):Prop:=
  ∀(l0:List Unit) (j0:Nat),l0.drop j0=a0→j0≤l0.length→l0.length≤9223372036854775807→Ok Tryz.prog G tt 22 0 (Ret Tryz.prog [.tmp 2] (fun y H=>Told Tryz.prog G H y (.sl 2 false (r.map File.cells)))) (.again (ju [] Tryz.f26 0).1 (ju [] Tryz.f26 0).2 (.n .undef (.n .undef (.n (.bs 2 0 0 0 t3.length) (.n (.int .i64 ((l0.map Unit.cells).length:Int)) .z .z) .z) .z) (.n .undef (.n .undef (.n (.int .i64 ((j0:Nat):Int)) .z .z) .z) (.n (.sl 7 false (l0.map Unit.cells)) .z .z))) 1 [(0, .row 57 (t3.map File.cells).flatten)])
theorem Kk:PC2 qb7 w7:=by
 refine w7.partial_correctness qb7 (fun w7 Kk a0 t3 r h=> ?_)
 unfold qa at h
 intro l0 j0 hl0 hj0 hm0
 refine yb ?_
 cases a0 with
 | nil=>
   have hb:=Z7 (C:=Unit.cells) hl0 hj0
   refine kr [] ?_
   refine qz hb ?_
   refine kr [] ?_
   cases h
   exact yg env rfl rfl (Z6 (qrz (uq (jm qa6 rfl) (by simp)) (by simp)))
 | cons x_0 a0=>
   obtain ⟨hb,hx0,hd0,hk0,hw0⟩:=Qv (C:=Unit.cells) hl0 hm0
   refine kr [] ?_
   refine qy hb ?_
   refine kr [] ?_
   refine qay env rfl rfl rfl rfl (m:=j0) rfl (qak hx0 rfl) ?_
   refine kr [] ?_
   obtain ⟨x1,hx,h⟩:=bind_some h
   have hp_x1:=qav hx (by simp)
   refine qbv (C:=File.cells) env hx rfl rfl (by simp) (fun _=>rfl) rfl rfl rfl rfl rfl (by decide) rfl rfl rfl ?_
   refine kr [] ?_
   exact ja (by kernel_rfl) (qc3 (by simp only [hw0];simp <;> (repeat' apply Bd) <;> first | rfl | exact fun x a _ h=>(qa6.all a x h).2) (by simp <;> (repeat' apply Bd) <;> first | rfl | exact fun x a _ h=>(qa6.all a x h).2)) (Kk _ _ _ h l0 (j0+1) hd0 hk0 hm0)
def Ja (a0:(List Unit)):Option ((List File)):=
 w7 a0 ([]:List File)
@[reducible] def qlk (a0:(List Unit)) (r:(List File)):Prop:=
  Fn Tryz.prog G 26 [(.sl 7 false (a0.map Unit.cells))] (.sl 2 false (r.map File.cells))
theorem qlr:PC1 qlk Ja:=fun a0 r h=>by
 rw [Ja.eq_def] at h
 refine z8 (T:=tt) (N:=22) (rs:= [.tmp 2]) (fun vs w=>by simp) Tryz.func26 rfl rfl rfl rfl (by kernel_rfl) (yk rfl) (zt _ rfl) ?_
 refine kr [] ?_
 refine quu 3 _ 2 57 rfl rfl ?_
 refine Wv 6 rfl (fun hm=> ?_)
 exact jr (by kernel_rfl) lA (Kk _ _ _ h a0 0 rfl (AD _) (Qw hm))
mutual
def yz (t3:(List Unit)) (t5:Int):Option Bool:=
 if (decide (t5 < ((t3.map Unit.cells).length:Int)))=true then
  ix t3 t5 >>=fun x8=>
  if x8.Broken=true then
   ws (qa t3) (qa t5)
  else
   ix t3 t5 >>=fun x9=>
   Zh x9.Tree >>=fun x10=>
   ix t3 t5 >>=fun x11=>
   ix t3 t5 >>=fun x12=>
   J8 x11.Path x12.Tree >>=fun x13=>
   if (!decide (x10.2=(0:Int)))=true then
    some false
   else
    ix t3 t5 >>=fun x14=>
    if (!decide (x10.1=x14.Text))=true then
     some false
    else
     if (!decide (x13.2=(0:Int)))=true then
      some false
     else
      ix t3 t5 >>=fun x15=>
      qd7 ([x13.1]) ([x15]) >>=fun x16=>
      if (!x16)=true then
       some false
      else
       ws (qa t3) (qa t5)
 else
  Kt >>=fun x17=>
  some x17
 partial_fixpoint
def ws (t3:(List Unit)) (t5:Int):Option Bool:=
 yz (qa t3) (IntKind.i64.wrap (t5+(1:Int)))
 partial_fixpoint
end
@[reducible] def Jy (t3:(List Unit)) (t5:Int) (r:Bool):Prop:=
  Ok Tryz.prog G tt 99 0 (Ret Tryz.prog [.tmp 2] (fun y H=>Told Tryz.prog G H y (.bool r))) (.again (ju [1000001] Tryz.f7 0).1 (ju [1000001] Tryz.f7 0).2 (.n .undef (.n .undef (.n (.sl 7 false (t3.map Unit.cells)) .z .z) (.n (.int .i64 t5) .z .z)) .z) 0 [])
@[reducible] def Jz (t3:(List Unit)) (t5:Int) (r:Bool):Prop:=
  Ok Tryz.prog G tt 99 0 (Ret Tryz.prog [.tmp 2] (fun y H=>Told Tryz.prog G H y (.bool r))) (.go [] (qgn [1000001] Tryz.f7 1) [] (.n .undef (.n .undef (.n (.sl 7 false (t3.map Unit.cells)) .z .z) (.n (.int .i64 t5) .z .z)) .z) 0 [])
theorem We:PC2 Jy yz∧PC2 Jz ws:=by
 refine yz.mutual_partial_correctness Jy Jz (fun ws J3 t3 t5 r h=> ?_) (fun yz J2 t3 t5 r h=> ?_)
 ·unfold qa at h
  refine yb ?_
  refine kr [1000001] ?_
  refine qe (fun hb=> ?_) (fun hb=> ?_)
  ·replace h:=ql hb h
   refine kr [1000001] ?_
   obtain ⟨x8,hx,h⟩:=bind_some h
   refine y7 env hx rfl rfl rfl rfl rfl ?_
   refine kr [1000001] ?_
   refine qe (fun hb=> ?_) (fun hb=> ?_)
   ·replace h:=ql hb h
    refine kr [1000001] ?_
    exact qx (by kernel_rfl) rfl lA (J3 _ _ _ h)
   replace h:=qm hb h
   refine kr [1000001] ?_
   obtain ⟨x9,hx,h⟩:=bind_some h
   refine y7 env hx rfl rfl rfl rfl rfl ?_
   refine kr [1000001] ?_
   obtain ⟨x10,hx,h⟩:=bind_some h
   refine qn (qh7 _ _ hx) ?_
   refine kr [1000001] ?_
   obtain ⟨x11,hx,h⟩:=bind_some h
   refine y7 env hx rfl rfl rfl rfl rfl ?_
   refine kr [1000001] ?_
   obtain ⟨x12,hx,h⟩:=bind_some h
   refine y7 env hx rfl rfl rfl rfl rfl ?_
   refine kr [1000001] ?_
   obtain ⟨x13,hx,h⟩:=bind_some h
   refine qn (qmu _ _ _ hx) ?_
   refine kr [1000001] ?_
   refine q9 (fun hb=> ?_) (fun hb=> ?_)
   ·replace h:=qm hb h
    refine kr [1000001] ?_
    obtain ⟨x14,hx,h⟩:=bind_some h
    refine y7 env hx rfl rfl rfl rfl rfl ?_
    refine kr [1000001] ?_
    refine q9 (fun hb=> ?_) (fun hb=> ?_)
    ·replace h:=qm hb h
     refine kr [1000001] ?_
     refine q9 (fun hb=> ?_) (fun hb=> ?_)
     ·replace h:=qm hb h
      refine kr [1000001] ?_
      obtain ⟨x15,hx,h⟩:=bind_some h
      refine y7 env hx rfl rfl rfl rfl rfl ?_
      refine kr [1000001] ?_
      obtain ⟨x16,hx,h⟩:=bind_some h
      refine qn (Fn.wk (quz _ _ _ hx) (qii (qy9 (.inl rfl)) (qii (qy9 (.inl rfl)) qog))) ?_
      refine kr [1000001] ?_
      refine qe (fun hb=> ?_) (fun hb=> ?_)
      ·replace h:=ql hb h
       refine kr [1000001] ?_
       cases h
       exact kf
      replace h:=qm hb h
      refine kr [1000001] ?_
      exact qx (by kernel_rfl) rfl lA (J3 _ _ _ h)
     replace h:=ql hb h
     refine kr [1000001] ?_
     cases h
     exact kf
    replace h:=ql hb h
    refine kr [1000001] ?_
    cases h
    exact kf
   replace h:=ql hb h
   refine kr [1000001] ?_
   cases h
   exact kf
  replace h:=qm hb h
  refine kr [1000001] ?_
  obtain ⟨x17,hx,h⟩:=bind_some h
  refine qn (qew _ hx) ?_
  refine kr [1000001] ?_
  cases h
  exact kf
 unfold qa at h
 refine kr [1000001] ?_
 exact ja (by kernel_rfl) lA (J2 _ _ _ h)
theorem J2:PC2 Jy yz:=We.1
theorem J3:PC2 Jz ws:=We.2
def Yk (a0:(List File)):Option Bool:=
 qcg a0 >>=fun x1=>
 if (!x1)=true then
  Kt >>=fun x2=>
  some x2
 else
  Zu a0 >>=fun x3=>
  if (!decide (x3.2=(0:Int)))=true then
   if (decide (((x3.1.map Unit.cells).length:Int)=(0:Int)))=true then
    Q2 a0 >>=fun x4=>
    if (decide (x4=x3.2))=true then
     Kt >>=fun x5=>
     some x5
    else
     some false
   else
    some false
  else
   Ja x3.1 >>=fun x6=>
   Ys x6 a0 >>=fun x7=>
   if (!x7)=true then
    some false
   else
    yz x3.1 (0:Int)
@[reducible] def qcb (a0:(List File)) (r:Bool):Prop:=
  Fn Tryz.prog G 7 [(.sl 2 false (a0.map File.cells))] (.bool r)
theorem qib:PC1 qcb Yk:=fun a0 r h=>by
 rw [Yk.eq_def] at h
 refine z8 (T:=tt) (N:=99) (rs:= [.tmp 2]) (fun vs w=>by simp) Tryz.func7 rfl rfl rfl rfl (by kernel_rfl) (yk rfl) (zt _ rfl) ?_
 refine kr [1000001] ?_
 obtain ⟨x1,hx,h⟩:=bind_some h
 refine qn (qrs _ _ hx) ?_
 refine kr [1000001] ?_
 refine qe (fun hb=> ?_) (fun hb=> ?_)
 ·replace h:=ql hb h
  refine kr [1000001] ?_
  obtain ⟨x2,hx,h⟩:=bind_some h
  refine qn (qew _ hx) ?_
  refine kr [1000001] ?_
  cases h
  exact kf
 replace h:=qm hb h
 refine kr [1000001] ?_
 obtain ⟨x3,hx,h⟩:=bind_some h
 refine qn (qfw _ _ hx) ?_
 refine kr [1000001] ?_
 refine qe (fun hb=> ?_) (fun hb=> ?_)
 ·replace h:=ql hb h
  refine kr [1000001] ?_
  refine qr (fun hb=> ?_) (fun hb=> ?_)
  ·replace h:=ql hb h
   refine kr [1000001] ?_
   obtain ⟨x4,hx,h⟩:=bind_some h
   refine qn (qa3 _ _ hx) ?_
   refine kr [1000001] ?_
   refine qr (fun hb=> ?_) (fun hb=> ?_)
   ·replace h:=ql hb h
    refine kr [1000001] ?_
    obtain ⟨x5,hx,h⟩:=bind_some h
    refine qn (qew _ hx) ?_
    refine kr [1000001] ?_
    cases h
    exact kf
   replace h:=qm hb h
   refine kr [1000001] ?_
   cases h
   exact kf
  replace h:=qm hb h
  refine kr [1000001] ?_
  cases h
  exact kf
 replace h:=qm hb h
 refine kr [1000001] ?_
 obtain ⟨x6,hx,h⟩:=bind_some h
 refine qn (qlr _ _ hx) ?_
 refine kr [1000001] ?_
 obtain ⟨x7,hx,h⟩:=bind_some h
 refine qn (qlt _ _ _ hx) ?_
 refine kr [1000001] ?_
 refine qe (fun hb=> ?_) (fun hb=> ?_)
 ·replace h:=ql hb h
  refine kr [1000001] ?_
  cases h
  exact kf
 replace h:=qm hb h
 refine kr [1000001] ?_
 exact jr (by kernel_rfl) lA (J2 _ _ _ h)
end Go.Proofs.YtpnkemogepoioaaGreatDoorW.Ex.Gr
