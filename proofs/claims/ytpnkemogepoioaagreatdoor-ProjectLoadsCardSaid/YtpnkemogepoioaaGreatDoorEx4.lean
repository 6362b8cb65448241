/- A symbolic executor for the machine's code, part 3: arithmetic, comparisons, strings, slices, parts of structs, on abstract values, and that it is so. General over the program; no conditions beside those in each theorem. A symbolic executor for the machine's code, part 4: new objects, stores, literals, append, and that it is so. General over the program; no conditions beside those in each theorem. -/
import Derived.Test.YtpnkemogepoioaaGreatDoorEx2
import Derived.Laws.Strings
import Derived.Laws.StructEq
namespace Go.Proofs.YtpnkemogepoioaaGreatDoorW.Ex
set_option linter.all false
open Go
variable {G:Nat→List AV} {P:Program} {w:World} {S F:Nat→Prop} {β:Nat→Nat} {n:Nat}
theorem Kd {vs:Array Value} {i:Nat} (h:i < vs.size):vs[i]? =some (vs.getD i Go.undef):=by
 rw [AP h,Ag,AP h,Bo]
theorem qk3 {vs:Array Value} {a b i:Nat} (h:a+i < vs.size) (hb:a+i < b):(vs.extract a b).getD i Go.undef=vs.getD (a+i) Go.undef:=by
 rw [Ag,Ag,Array.getElem?_extract,if_pos (by omega)]
def qky (op:BinOp) (k:IntKind) (a b:Int):Option AV:=
 match op with
 | .add=>some (.int k (k.wrap (a+b)))
 | .sub=>some (.int k (k.wrap (a - b)))
 | .mul=>some (.int k (k.wrap (a*b)))
 | .quo=>if b=0 then none else some (.int k (k.wrap (a.tdiv b)))
 | .rem=>if b=0 then none else some (.int k (a.tmod b))
 | .eql=>some (.bool (decide (a=b)))
 | .neq=>some (.bool (!decide (a=b)))
 | .lss=>some (.bool (decide (a < b)))
 | .leq=>some (.bool (decide (a≤b)))
 | .gtr=>some (.bool (decide (b < a)))
 | .geq=>some (.bool (decide (b≤a)))
 | _=>none
def qhh (op:BinOp) (a b:ByteArray):Option AV:=
 match op with
 | .add=>if a.size+b.size≤9223372036854775807 then some (.str (a++b)) else none
 | .eql=>some (.bool (decide (a=b)))
 | .neq=>some (.bool (!decide (a=b)))
 | .lss=>some (.bool (Op.bytesLess a.toList b.toList))
 | .leq=>some (.bool (Op.bytesLess a.toList b.toList || decide (a=b)))
 | .gtr=>some (.bool (!(Op.bytesLess a.toList b.toList || decide (a=b))))
 | .geq=>some (.bool (!Op.bytesLess a.toList b.toList))
 | _=>none
def eqAV (x y:AV):Option Bool:=
 match x,y with
 | .bool a, .bool b=>some (a==b)
 | .nilp, .nilp=>some true
 | .ptr _ _ _, .nilp=>some false
 | .nilp, .ptr _ _ _=>some false
 | .rptr _, .nilp=>some false
 | .nilp, .rptr _=>some false
 | .nilf, .nilf=>some true
 | .fn _ _, .nilf=>some false
 | .nilf, .fn _ _=>some false
 | _,_=>none
def eqTypeAV (P:Program) (t:TypeId) (x:AV):Bool:=
 match P.underlying t,x with
 | some .bool, .bool _=>true
 | some (.pointer _), .ptr _ _ _ | some (.pointer _), .rptr _ | some (.pointer _), .nilp=>true
 | some (.func _ _ _), .nilf | some (.func _ _ _), .fn _ _=>true
 | _,_=>false
inductive SK where | i | s | b
def skOf (P:Program) (t:TypeId):Option SK:=match P.underlying t with | some (.int _)=>some .i | some .string=>some .s | some .bool=>some .b | _=>none
def qtl:SK→AV→AV→Option Bool
 | .i, .int k a, .int k' b=>if k=k' then some (decide (a=b)) else none
 | .s, .str a, .str b=>some (decide (a=b))
 | .b, .bool a, .bool b=>some (a==b)
 | _,_,_=>none
def Qo:List SK→List AV→List AV→Option Bool
 | [], [], []=>some true
 | k::ks,x::xs,y::ys=>match qtl k x y,Qo ks xs ys with
   | some a,some b=>some (a && b)
   | _,_=>none
 | _,_,_=>none
def qhy (P:Program):Nat→List Field→Option (List SK)
 | _, []=>some []
 | o,f::fs=>if f.offset=o∧f.name≠ "_" then match skOf P f.type,qhy P (o+1) fs with
    | some k,some ks=>some (k::ks)
    | _,_=>none
   else none
def qdf (P:Program):Nat→List Field→Option (List SK)
 | _, []=>some []
 | o, f ::fs=>if f.offset=o∧f.name≠ "_" then match skOf P f.type with
    | some k=>(qdf P (o+1) fs).map (k:: ·)
    | none=>match P.underlying f.type with
      | some (.struct gs)=>if P.stoodInHeld f.type=false then match qhy P 0 gs.toList with
         | some ls=>if szP P f.type=some ls.length then (qdf P (o+ls.length) fs).map (ls++ ·) else none
         | none=>none
        else none
      | _=>none
   else none
def structSK (P:Program) (t:TypeId):Option (List SK):=
 match P.underlying t with
 | some (.struct fs)=>if P.stoodInHeld t=false∧P.eqGuardType P.depth t=false then qdf P 0 fs.toList else none
 | _=>none
def qlf (P:Program) (op:BinOp) (t:TypeId) (x y:AV):Option AV:=
 match x,y with
 | .int k a, .int k' b=>match op with
   | .shl=>if b < 0 then none else some (.int k (k.wrap (a*2 ^ min b.toNat k.bits)))
   | .shr=>if b < 0 then none else some (.int k (a.fdiv (2 ^ min b.toNat k.bits)))
   | _=>if k=k' then qky op k a b else none
 | .str a, .str b=>qhh op a b
 | .agg xs, .agg ys=>match structSK P t with
   | some ks=>match op with
     | .eql=>(Qo ks xs ys).map .bool
     | .neq=>(Qo ks xs ys).map fun b=> .bool (!b)
     | _=>none
   | none=>none
 | x,y=>if eqTypeAV P t x then match op with
   | .eql=>(eqAV x y).map .bool
   | .neq=>(eqAV x y).map fun b=> .bool (!b)
   | _=>none
   else none
theorem qs1 (a b:ByteArray):(a.toList==b.toList)=decide (a=b):=by
 rw [ByteArray.toList_eq,ByteArray.toList_eq]
 by_cases h:a=b
 ·subst h;simp
 simp only [h,decide_false,beq_eq_false_iff_ne,ne_eq]
 intro e
 apply h
 obtain ⟨⟨a⟩⟩:=a
 obtain ⟨⟨b⟩⟩:=b
 simp_all
theorem qr4 {t:TypeId} {k:SK} (h:skOf P t=some k):aggP P t=some false:=by
 unfold skOf at h
 unfold aggP
 split at h <;> first
  | (rename_i hu;rw [hu];rfl)
  | cases h
theorem qv0 {t:TypeId} {x y:AV} {v u:Value} {k:SK} {b:Bool} {d:Nat} (ht:skOf P t=some k) (hx:RV w S β n x v) (hy:RV w S β n y u) (h:qtl k x y=some b):(Op.equalIn (d+1) t v u).run P w= .ok b w:=by
 unfold qtl at h
 unfold skOf at ht
 split at h
 ·cases hx;cases hy
  split at h
  ·rename_i hkk
   subst hkk
   simp only [Ab] at h;subst h
   split at ht <;> first
    | (cases ht;done)
    | (rename_i hu;rw [run_equalIn_int w d t _ _ _ _ hu];rfl)
  cases h
 ·cases hx;cases hy
  simp only [Ab] at h;subst h
  split at ht <;> first
   | (cases ht;done)
   | (rename_i hu;rw [run_equalIn_string w d t _ _ hu,qs1])
 ·cases hx;cases hy
  simp only [Ab] at h;subst h
  split at ht <;> first
   | (cases ht;done)
   | (rename_i hu;rw [run_equalIn_bool' w d t _ _ hu])
 cases h
theorem qla {vs us:Array Value} {d:Nat}:∀(fs:List Field) (o:Nat) (ks:List SK) (xs ys:List AV) (b:Bool),qhy P o fs=some ks→Qo ks xs ys=some b→
 (∀(i:Nat) (x:AV),xs[i]? =some x→o+i < vs.size∧RV w S β n x (vs.getD (o+i) Go.undef))→(∀(i:Nat) (x:AV),ys[i]? =some x→o+i < us.size∧RV w S β n x (us.getD (o+i) Go.undef))→(Op.eqFields (d+1) vs us fs).run P w= .ok b w
 | [],o,ks,xs,ys,b,hf,he,_,_=>by
   simp only [qhy,Ab] at hf
   subst hf
   unfold Qo at he
   split at he
   ·simp only [Ab] at he;subst he;rfl
   ·rename_i hk _ _;cases hk
   cases he
 | f :: fs,o,ks,xs,ys,b,hf,he,hx,hy=>by
   simp only [qhy] at hf
   split at hf
   ·rename_i hcond
    split at hf
    ·rename_i k ks' hk hks
     simp only [Ab] at hf
     subst hf
     unfold Qo at he
     split at he
     ·rename_i hh;cases hh
     ·rename_i k0 ks0 x xs' y ys' hh
      simp only [B7] at hh
      obtain ⟨rfl,rfl⟩:=hh
      split at he
      ·rename_i a b' ha hb
       simp only [Ab] at he;subst he
       obtain ⟨hxl,hxr⟩:=hx 0 x rfl
       obtain ⟨hyl,hyr⟩:=hy 0 y rfl
       simp only [BJ] at hxl hxr hyl hyr
       have ih:=qla (vs:=vs) (us:=us) (d:=d) fs (o+1) ks' xs' ys' b' hks hb (fun i z hz=>by have:=hx (i+1) z hz;rwa [show o+(i+1)=o+1+i by omega] at this) (fun i z hz=>by have:=hy (i+1) z hz;rwa [show o+(i+1)=o+1+i by omega] at this)
       have hp:∀(vs:Array Value),o < vs.size→(part f.type vs f.offset).run P w= .ok (vs.getD o Go.undef) w:=by
        intro vs hl
        rw [hcond.1]
        simp only [part,qfj (qr4 hk),Sem.run_bind,Result.andThen_ok,AA,if_false,Kd hl,Sem.run_pure]
       simp only [Op.eqFields,hcond.2,ne_eq,not_false_eq_true,if_true,Sem.run_bind,hp vs hxl,hp us hyl,Result.andThen_ok,qv0 hk hxr hyr ha]
       cases a with
       | false=>simp
       | true=>simpa using ih
      cases he
     cases he
    cases hf
   cases hf
theorem qpk:∀(ks:List SK) (xs ys:List AV) (b:Bool),Qo ks xs ys=some b→xs.length=ks.length∧ys.length=ks.length
 | [],xs,ys,b,h=>by cases xs <;> cases ys <;> simp [Qo] at h ⊢
 | k::ks, [],ys,b,h=>by simp [Qo] at h
 | k::ks,x::xs, [],b,h=>by simp [Qo] at h
 | k ::ks,x::xs,y::ys,b,h=>by
   simp only [Qo] at h
   split at h
   ·rename_i a c ha hc
    obtain ⟨h1,h2⟩:=qpk _ _ _ _ hc
    simp [h1,h2]
   cases h
theorem qi8:∀(ks ls:List SK) (xs ys:List AV) (b:Bool),Qo (ks++ls) xs ys=some b→
 ∃a c,Qo ks (xs.take ks.length) (ys.take ks.length)=some a∧Qo ls (xs.drop ks.length) (ys.drop ks.length)=some c∧b=(a && c)
 | [],ls,xs,ys,b,h=>⟨true,b,by simp [Qo],by simpa using h,by simp⟩
 | k :: ks,ls,xs,ys,b,h=>by
   cases xs with
   | nil=>simp [Qo] at h
   | cons x xs=>
     cases ys with
     | nil=>simp [Qo] at h
     | cons y ys=>
       simp only [AJ,Qo] at h
       split at h
       ·rename_i a c ha hc
        simp only [Ab] at h
        subst h
        obtain ⟨a',c',h1,h2,rfl⟩:=qi8 ks ls xs ys c hc
        exact ⟨a && a',c',by simp [Qo,ha,h1],by simpa using h2,by rw [Bool.and_assoc]⟩
       cases h
theorem qer {vs us:Array Value} {d:Nat}:∀(fs:List Field) (o:Nat) (ks:List SK) (xs ys:List AV) (b:Bool),qdf P o fs=some ks→Qo ks xs ys=some b→
 (∀(i:Nat) (x:AV),xs[i]? =some x→o+i < vs.size∧RV w S β n x (vs.getD (o+i) Go.undef))→(∀(i:Nat) (x:AV),ys[i]? =some x→o+i < us.size∧RV w S β n x (us.getD (o+i) Go.undef))→(Op.eqFields (d+2) vs us fs).run P w= .ok b w
 | [],o,ks,xs,ys,b,hf,he,_,_=>by
   simp only [qdf,Ab] at hf
   subst hf
   unfold Qo at he
   split at he
   ·simp only [Ab] at he;subst he;rfl
   ·rename_i hk _ _;cases hk
   cases he
 | f :: fs,o,ks,xs,ys,b,hf,he,hx,hy=>by
   simp only [qdf] at hf
   split at hf
   ·rename_i hcond
    split at hf
    ·rename_i k hk
     simp only [Am] at hf
     obtain ⟨ks',hks,rfl⟩:=hf
     unfold Qo at he
     split at he
     ·rename_i hh;cases hh
     ·rename_i k0 ks0 x xs' y ys' hh
      simp only [B7] at hh
      obtain ⟨rfl,rfl⟩:=hh
      split at he
      ·rename_i a b' ha hb
       simp only [Ab] at he;subst he
       obtain ⟨hxl,hxr⟩:=hx 0 x rfl
       obtain ⟨hyl,hyr⟩:=hy 0 y rfl
       simp only [BJ] at hxl hxr hyl hyr
       have ih:=qer (vs:=vs) (us:=us) (d:=d) fs (o+1) ks' xs' ys' b' hks hb (fun i z hz=>by have:=hx (i+1) z hz;rwa [show o+(i+1)=o+1+i by omega] at this) (fun i z hz=>by have:=hy (i+1) z hz;rwa [show o+(i+1)=o+1+i by omega] at this)
       have hp:∀(vs:Array Value),o < vs.size→(part f.type vs f.offset).run P w= .ok (vs.getD o Go.undef) w:=by
        intro vs hl
        rw [hcond.1]
        simp only [part,qfj (qr4 hk),Sem.run_bind,Result.andThen_ok,AA,if_false,Kd hl,Sem.run_pure]
       simp only [Op.eqFields,hcond.2,ne_eq,not_false_eq_true,if_true,Sem.run_bind,hp vs hxl,hp us hyl,Result.andThen_ok,qv0 (d:=d+1) hk hxr hyr ha]
       cases a with
       | false=>simp
       | true=>simpa using ih
      cases he
     cases he
    split at hf
    ·rename_i gs hu
     split at hf
     ·rename_i hst
      split at hf
      ·rename_i ls hls
       split at hf
       ·rename_i hsz
        simp only [Am] at hf
        obtain ⟨ks',hks,rfl⟩:=hf
        obtain ⟨hlx,hly⟩:=qpk _ _ _ _ he
        rw [Ad] at hlx hly
        obtain ⟨a,c,ha,hc,rfl⟩:=qi8 _ _ _ _ _ he
        have ih:=qer (vs:=vs) (us:=us) (d:=d) fs (o+ls.length) ks' _ _ c hks hc (fun i z hz=>by rw [Bg] at hz;have:=hx _ z hz;rwa [show o+(ls.length+i)=o+ls.length+i by omega] at this) (fun i z hz=>by rw [Bg] at hz;have:=hy _ z hz;rwa [show o+(ls.length+i)=o+ls.length+i by omega] at this)
        have hagg:aggP P f.type=some true:=by simp [aggP,hu]
        have hp:∀(vs:Array Value),(part f.type vs f.offset).run P w= .ok (.agg (vs.extract o (o+ls.length))) w:=by
         intro vs
         rw [hcond.1]
         simp [part,qfj hagg,Kv hsz]
        have hq:∀(zs:List AV) (vs:Array Value),(∀(i:Nat) (x:AV),zs[i]? =some x→o+i < vs.size∧RV w S β n x (vs.getD (o+i) Go.undef))→
         ∀(i:Nat) (x:AV),(zs.take ls.length)[i]? =some x→0+i < (vs.extract o (o+ls.length)).size∧RV w S β n x ((vs.extract o (o+ls.length)).getD (0+i) Go.undef):=by
         intro zs vs hz i x hi
         rw [Bl] at hi
         split at hi
         ·rename_i hik
          obtain ⟨h1,h2⟩:=hz i x hi
          refine ⟨by simp;omega,?_⟩
          rw [AN,qk3 h1 (by omega)]
          exact h2
         cases hi
        have hfo:P.fieldsOf f.type=gs:=by simp [Program.fieldsOf,hu]
        have main:(Op.equalIn (d+2) f.type (.agg (vs.extract o (o+ls.length))) (.agg (us.extract o (o+ls.length)))).run P w= .ok a w:=by
         rw [run_equalIn_struct w (d+1) f.type _ _ (by rw [hfo];exact hu) hst,hfo]
         exact qla (d:=d) gs.toList 0 ls _ _ a hls ha (hq xs vs hx) (hq ys us hy)
        simp only [Op.eqFields,hcond.2,ne_eq,not_false_eq_true,if_true,Sem.run_bind,hp vs,hp us,Result.andThen_ok,main]
        cases a with
        | false=>simp
        | true=>simpa using ih
       cases hf
      cases hf
     cases hf
    cases hf
   cases hf
theorem q9o {op:BinOp} {t:TypeId} {o1 o2:Operand} {x y z:AV} {v u:Value} (hx:RV w S β n x v) (hy:RV w S β n y u) (h:qlf P op t x y=some z):
 ∃v',((do eqGuard op t o1 o2 v u;binOp op t v u):Sem Value).run P w= .ok v' w∧RV w S β n z v':=by
 unfold qlf at h
 split at h
 ·rename_i k a k' b
  cases hx;cases hy
  split at h
  ·split at h
   ·cases h
   rename_i h0
   simp only [Ab] at h;subst h
   exact ⟨_,by simp [eqGuard_at_int,binOp,Op.shift,h0], .int _ _⟩
  ·split at h
   ·cases h
   rename_i h0
   simp only [Ab] at h;subst h
   exact ⟨_,by simp [eqGuard_at_int,binOp,Op.shift,h0], .int _ _⟩
  rename_i hl hr
  split at h
  ·rename_i hk
   subst hk
   unfold qky at h
   split at h <;> first
    | (cases h;done)
    | (simp only [Ab] at h;subst h
       refine ⟨_,?_, .int _ _⟩
       simp only [eqGuard_at_int,binOp,Op.intArith,Sem.run_bind,Sem.run_pure,Result.andThen_ok,ne_eq,not_true_eq_false,if_false]
       done)
    | (simp only [Ab] at h;subst h
       refine ⟨_,?_, .bool _⟩
       simp only [eqGuard_at_int,binOp,Op.intCmp,Sem.run_bind,Sem.run_pure,Result.andThen_ok,ne_eq,not_true_eq_false,if_false]
       first | done | rfl)
    | (split at h
       ·cases h
       rename_i h0
       simp only [Ab] at h;subst h
       refine ⟨_,?_, .int _ _⟩
       simp only [eqGuard_at_int,binOp,Op.intDiv,Sem.run_bind,Sem.run_pure,Result.andThen_ok,ne_eq,not_true_eq_false,if_false,h0])
  cases h
 ·rename_i a b
  cases hx;cases hy
  unfold qhh at h
  split at h <;> first
   | (cases h;done)
   | (simp only [Ab] at h;subst h
      refine ⟨_,?_, .bool _⟩
      simp only [eqGuard_at_string,binOp,Op.stringOp,qs1,Sem.run_bind,Sem.run_pure,Result.andThen_ok]
      first | done | rfl)
   | (split at h
      ·rename_i h0
       simp only [Ab] at h;subst h
       refine ⟨.string (a++b),?_, .str _⟩
       have:¬((a.size+b.size:Nat):Int) > IntKind.i64.max:=by rw [IntKind.max_i64];omega
       simp only [eqGuard_at_string,binOp,Op.stringOp,Sem.run_bind,Sem.run_pure,Result.andThen_ok,this,if_false]
      cases h)
 ·rename_i xs ys
  split at h
  ·rename_i ks hks
   unfold structSK at hks
   split at hks
   ·rename_i fs hu
    split at hks
    ·rename_i hcond
     cases hx with
     | agg _ vs hs h1 hr=>
       cases hy with
       | agg _ us hs' h1' hr'=>
         have hfo:P.fieldsOf t=fs:=by simp [Program.fieldsOf,hu]
         have main:∀b,Qo ks xs ys=some b→(Op.equalIn 10000 t (.agg vs) (.agg us)).run P w= .ok b w:=by
          intro b hb
          rw [show (10000:Nat)=9999+1 from rfl,run_equalIn_struct w 9999 t vs us (by rw [hfo];exact hu) hcond.1,hfo]
          exact qer (d:=9997) fs.toList 0 ks xs ys b hks hb (fun i x hi=>⟨by have:=(Ah.1 hi).1;omega,by rw [AN];exact hr i x hi⟩) (fun i x hi=>⟨by have:=(Ah.1 hi).1;omega,by rw [AN];exact hr' i x hi⟩)
         split at h <;> first
          | (cases h;done)
          | (simp only [Am] at h
             obtain ⟨b,hb,rfl⟩:=h
             first
              | (refine ⟨.bool b,?_, .bool _⟩;simp only [Sem.run_bind,run_eqGuard_agg w _ t o1 o2 vs us hcond.2,Result.andThen_ok,run_eql_struct,main b hb];done)
              | (refine ⟨.bool (!b),?_, .bool _⟩;simp only [Sem.run_bind,run_eqGuard_agg w _ t o1 o2 vs us hcond.2,Result.andThen_ok,run_neq_struct,main b hb];done))
    cases hks
   cases hks
  cases h
 rename_i hni hns hna
 split at h
 ·rename_i ht
  have key : ∀b,eqAV x y=some b→(eqGuard op t o1 o2 v u=pure ())∧(Op.equal t v u).run P w= .ok b w∧(∀z,binOp .eql t v u=z→z=(do pure (.bool (←Op.equal t v u))))∧(∀z,binOp .neq t v u=z→z=(do pure (.bool (!(←Op.equal t v u))))):=by
   intro b hb
   unfold eqTypeAV at ht
   unfold eqAV at hb
   cases hu:P.underlying t with
   | none=>simp [hu] at ht
   | some d =>
     split at hb <;> first
      | (cases hb;done)
      | (cases hx;cases hy
         simp only [Ab] at hb;subst hb
         cases d <;> simp only [hu] at ht <;> first
          | (cases ht;done)
          | (refine ⟨by cases op <;> rfl,?_,fun z hz=>by rw [←hz];rfl,fun z hz=>by rw [←hz];rfl⟩
             show (Op.equalIn (9999+1) t _ _).run P w=_
             rw [Op.equalIn,Sem.run_bind,run_underlying hu,Result.andThen_ok]
             rfl))
  split at h <;> first
   | (cases h;done)
   | (simp only [Am] at h
      obtain ⟨b,hb,rfl⟩:=h
      obtain ⟨h1,h2,h3,h4⟩:=key b hb
      first
       | (refine ⟨.bool b,?_, .bool _⟩;rw [h1,h3 _ rfl];simp [h2];done)
       | (refine ⟨.bool (!b),?_, .bool _⟩;rw [h1,h4 _ rfl];simp [h2];done))
 cases h
def unAV (op:UnOp) (x:AV):Option AV:=
 match op,x with
 | .not, .bool b=>some (.bool (!b))
 | .neg, .int k m=>some (.int k (k.wrap (0 - m)))
 | _,_=>none
theorem zag {op:UnOp} {x z:AV} {v:Value} (hx:RV w S β n x v) (h:unAV op x=some z):∃v',(Op.unary op v).run P w= .ok v' w∧RV w S β n z v':=by
 unfold unAV at h
 split at h
 ·cases hx;simp only [Ab] at h;subst h;exact ⟨_,rfl, .bool _⟩
 ·cases hx;simp only [Ab] at h;subst h;exact ⟨_,rfl, .int _ _⟩
 cases h
def ql6 (t:Bool) (x y:AV):AV:=if t=true then x else y
theorem qv9 (x y:AV):ql6 true x y=x:=rfl
theorem qtu (x y:AV):ql6 false x y=y:=rfl
theorem qwa (t a b:Bool):ql6 t (.bool a) (.bool b)= .bool (if t=true then a else b):=by cases t <;> rfl
def qj3 (P:Program) (src dst:TypeId) (x:AV):Option AV:=
 match x with
 | .int _ m=>match P.underlying src,intP P dst with
   | some _,some k=>some (.int k (k.wrap m))
   | _,_=>none
 | .str s=>match P.underlying src with
   | some _=>if strP P dst then some (.str s) else none
   | none=>none
 | _=>none
theorem q7b {src dst:TypeId} {x z:AV} {v:Value} (hx:RV w S β n x v) (h:qj3 P src dst x=some z):∃v',(convert src dst v).run P w= .ok v' w∧RV w S β n z v':=by
 unfold qj3 at h
 split at h
 ·cases hx
  split at h
  ·rename_i d k hs hd
   simp only [Ab] at h;subst h
   unfold intP at hd
   split at hd
   ·rename_i k' hu
    simp only [Ab] at hd;subst hd
    refine ⟨_,?_, .int _ _⟩
    simp only [convert,Sem.run_bind,run_underlying hs,run_underlying hu,Result.andThen_ok]
    cases d <;> rfl
   cases hd
  cases h
 ·cases hx
  split at h
  ·rename_i d hs
   split at h
   ·rename_i hd
    simp only [Ab] at h;subst h
    unfold strP at hd
    split at hd
    ·rename_i hu
     refine ⟨_,?_, .str _⟩
     simp only [convert,Sem.run_bind,run_underlying hs,run_underlying hu,Result.andThen_ok]
     cases d <;> rfl
    cases hd
   cases h
  cases h
 cases h
def qjq (P:Program) (t:TypeId) (cs:List AV) (off:Nat):Option AV:=
 match aggP P t,szP P t with
 | some true,some k=>if off+k≤cs.length then some (.agg ((cs.drop off).take k)) else none
 | some false,_=>cs[off]?
 | _,_=>none
theorem part_ok {t:TypeId} {cs:List AV} {vs:Array Value} {off:Nat} {x:AV} (h:RV w S β n (.agg cs) (.agg vs)) (hx:qjq P t cs off=some x):∃v',(part t vs off).run P w= .ok v' w∧RV w S β n x v':=by
 cases h with
 | agg _ _ hs h1 hr=>
   unfold qjq at hx
   split at hx
   ·rename_i k hagg hsz
    split at hx
    ·rename_i hk
     simp only [Ab] at hx;subst hx
     refine ⟨.agg (vs.extract off (off+k)),by simp [part,qfj hagg,Kv hsz], .agg _ _ (by simp;omega) (fun x hx=>h1 x (List.mem_of_mem_drop (List.mem_of_mem_take hx))) (fun i x hi=> ?_)⟩
     rw [Bl] at hi
     split at hi
     ·rename_i hik
      rw [Bg] at hi
      have:=hr _ _ hi
      have hlt:=(Ah.1 hi).1
      rw [qk3 (by omega) (by omega)]
      exact this
     cases hi
    cases hx
   ·rename_i hagg
    have hlt:=(Ah.1 hx).1
    refine ⟨vs.getD off Go.undef,?_,hr _ _ hx⟩
    have:vs[off]? =some (vs.getD off Go.undef):=Kd (by omega)
    simp only [part,qfj hagg,Sem.run_bind,Result.andThen_ok,AA,if_false,this,Sem.run_pure]
   cases hx
def qis (P:Program) (t:TypeId) (x:AV) (f:Nat):Option AV:=
 match x,fieldP P t f with
 | .agg cs,some (ft,off,_)=>qjq P ft cs off
 | _,_=>none
theorem q2i {t:TypeId} {f:Nat} {x z:AV} {v:Value} (hx:RV w S β n x v) (h:qis P t x f=some z):∃v',(Instr.field t v f).run P w= .ok v' w∧RV w S β n z v':=by
 unfold qis at h
 split at h
 ·rename_i cs ft off k hf
  unfold fieldP at hf
  cases hu:P.underlying t with
  | none=>simp [hu] at hf
  | some d =>
    cases d with
    | struct fs=>
      simp only [hu] at hf
      cases hfs:fs[f]? with
      | none=>simp [hfs] at hf
      | some fd=>
        simp only [hfs,Bt,Am,Al] at hf
        obtain ⟨k',hk',rfl,rfl,rfl⟩:=hf
        cases hx with
        | agg _ vs hs h1 hr=>
          obtain ⟨v',hv,hR⟩:=part_ok (P:=P) (.agg cs vs hs h1 hr) h
          exact ⟨v',by simp [Instr.field,run_underlying hu,hfs,asAgg,hv],hR⟩
    | _=>simp [hu] at hf
 cases h
def qkz (P:Program) (t:TypeId) (x i:AV):Option AV:=
 match i with
 | .int _ i=>if 0≤i then match x with
   | .str s=>if strP P t then (s[i.toNat]?).map fun b=> .int .u8 b.toNat else none
   | .agg cs=>match arrP P t with
     | some (len,e,k)=>if i.toNat < len then qjq P e cs (i.toNat*k) else none
     | none=>none
   | _=>none
   else none
 | _=>none
theorem q4s {t:TypeId} {x i z:AV} {v iv:Value} (hx:RV w S β n x v) (hi:RV w S β n i iv) (h:qkz P t x i=some z):∃v',(Instr.index t v iv).run P w= .ok v' w∧RV w S β n z v':=by
 unfold qkz at h
 split at h
 ·cases hi
  rename_i k i
  split at h
  ·rename_i h0
   split at h
   ·rename_i s
    cases hx
    split at h
    ·rename_i ht
     simp only [Am] at h
     obtain ⟨b,hb,rfl⟩:=h
     unfold strP at ht
     split at ht
     ·rename_i hu
      exact ⟨_,by simp [Instr.index,asIntOf,run_underlying hu,h0,hb], .int _ _⟩
     cases ht
    cases h
   ·rename_i cs
    split at h
    ·rename_i len e k he
     obtain ⟨hu,hk⟩:=qiv he
     split at h
     ·rename_i hlt
      cases hx with
      | agg _ vs hs h1 hr=>
        obtain ⟨v',hv,hR⟩:=part_ok (P:=P) (.agg cs vs hs h1 hr) h
        have:i < (len:Int):=by omega
        exact ⟨v',by simp [Instr.index,asIntOf,run_underlying hu,h0,this,Kv hk,hv],hR⟩
     cases h
    cases h
   cases h
  cases h
 cases h
def qfe (x:AV) (i:Nat):Option AV:=match x with | .tup cs=>cs[i]? | _=>none
theorem qyp {x z:AV} {i:Nat} {v:Value} (hx:RV w S β n x v) (h:qfe x i=some z):∃v',(Instr.extract v i).run P w= .ok v' w∧RV w S β n z v':=by
 unfold qfe at h
 split at h
 ·cases hx with
  | tup cs vs hs hr=>
    have hlt:=(Ah.1 h).1
    refine ⟨vs.getD i Go.undef,?_,hr _ _ h⟩
    have:vs[i]? =some (vs.getD i Go.undef):=Kd (by omega)
    simp only [Instr.extract,this,Sem.run_pure]
 cases h
def vp (x:Option AV) (d:Nat):Option Nat:=match x with | none=>some d | some (.int _ i)=>if 0≤i then some i.toNat else none | _=>none
def qf3 (P :Program) (t:TypeId) (x:AV) (lo hi mx:Option AV):Option AV:=
 match x with
 | .str s=>if strP P t∧mx.isNone then match vp hi s.size with
   | some h=>match vp lo 0 with
     | some l=>if l≤h∧h≤s.size then some (.str (s.extract l h)) else none
     | none=>none
   | none=>none
   else none
 | .sl sz full xs=>match elemP P t with
   | some (_,k)=>if 0 < k∧(sz=k∨xs= []) then match vp hi xs.length with
     | some h=>match vp lo 0 with
       | some l=>match mx with
         | none=>if l≤h∧h≤xs.length then some (.sl k (full && decide (h=xs.length)) ((xs.take h).drop l)) else none
         | some m=>match hi,vp (some m) 0 with
           | some _,some m=>if l≤h∧h≤m∧m≤xs.length then some (.sl k (decide (h=m)) ((xs.take h).drop l)) else none
           | _,_=>none
       | none=>none
     | none=>none
     else none
   | none=>none
 | .bs sz id s off len=>match elemP P t with
   | some (_,k)=>if sz=k∧mx.isNone then match vp hi len with
     | some h=>match vp lo 0 with
       | some l=>if l < h∧h≤len then some (.bs sz id s (off+l*sz) (h - l)) else none
       | none=>none
     | none=>none
     else none
   | none=>none
 | _=>none
def OptR (w:World) (S:Nat→Prop) (β:Nat→Nat) (n:Nat):Option AV→Option Value→Prop
 | none,none=>True
 | some a,some v=>RV w S β n a v
 | _,_=>False
theorem qgl {x:Option AV} {d i:Nat} (h:vp x d=some i) (hr:OptR w S β n x none):i=d:=by
 cases x with
 | none=>simpa [vp] using h.symm
 | some a=>exact hr.elim
theorem Yg {x:Option AV} {u:Value} {d i y:Nat} {c:BoundsCode} (h:vp x d=some i) (hr:OptR w S β n x (some u)) (hy:i≤y):(Instr.sliceBound u y c).run P w= .ok i w:=by
 cases x with
 | none=>exact hr.elim
 | some a=>
   have hu:RV w S β n a u:=hr
   unfold vp at h
   split at h
   ·rename_i hh;cases hh
   ·rename_i k m hh
    simp only [Ab] at hh;subst hh
    cases hu
    split at h
    ·rename_i h0
     simp only [Ab] at h;subst h
     have:m≤(y:Int):=by omega
     simp [Instr.sliceBound,asIntOf,h0,this]
    cases h
   cases h
theorem qj6 {lo hi:Option AV} {lv hv:Option Value} {b:Bool} {len cap l h:Nat} (hh:vp hi len=some h) (hl:vp lo 0=some l) (rl:OptR w S β n lo lv) (rh:OptR w S β n hi hv)
 (h1:l≤h) (h2:h≤cap):(Instr.sliceBounds b len cap lv hv none).run P w= .ok (l,h,cap) w:=by
 cases lv with
 | none=>
   obtain rfl:=qgl hl rl
   cases hv with
   | none=>obtain rfl:=qgl hh rh;simp [Instr.sliceBounds]
   | some u=>simp [Instr.sliceBounds,Yg hh rh h2]
 | some a=>
   cases hv with
   | none=>obtain rfl:=qgl hh rh;simp [Instr.sliceBounds,Yg hl rl h1]
   | some u=>simp [Instr.sliceBounds,Yg hh rh h2,Yg hl rl h1]
theorem qxb {lo hi mx:Option AV} {lv:Option Value} {hv mv:Value} {b:Bool} {len cap l h m:Nat} (hh:vp hi len=some h) (hl:vp lo 0=some l) (hm:vp mx 0=some m)
 (rl:OptR w S β n lo lv) (rh:OptR w S β n hi (some hv)) (rm:OptR w S β n mx (some mv)) (h1:l≤h) (h2:h≤m) (h3:m≤cap):(Instr.sliceBounds b len cap lv (some hv) (some mv)).run P w= .ok (l,h,m) w:=by
 cases lv with
 | none=>obtain rfl:=qgl hl rl;simp [Instr.sliceBounds,Yg hh rh h2,Yg hm rm h3]
 | some a=>simp [Instr.sliceBounds,Yg hh rh h2,Yg hl rl h1,Yg hm rm h3]
theorem RV.sub {sz:Nat} {full f':Bool} {xs:List (List AV)} {A:Option Addr} {cap l h m:Nat} (hx:RV w S β n (.sl sz full xs) (.slice A xs.length cap)) (hl:l≤h) (hh:h≤xs.length) (hm:h≤m) (hc:m≤cap)
 (hf:f'=true→m=h) (hz:0 < sz):RV w S β n (.sl sz f' ((xs.take h).drop l)) (.slice (if m=l then A else A.map (·.add (l*sz))) (h - l) (m - l)):=by
 generalize hV:Value.slice A xs.length cap=V at hx
 cases hx with
 | sl _ _ _ _ _ u hl' hm' hf' hA hA1 hS hsz h1 hcell hr=>
   injection hV with e1 e2 e3
   subst e1 e3
   have hlen:((xs.take h).drop l).length=h - l:=by simp;omega
   have hget:∀(j:Nat) (c:List AV),((xs.take h).drop l)[j]? =some c→xs[l+j]? =some c:=by
    intro j c hj
    rw [Bg,Bl] at hj
    split at hj
    ·exact hj
    cases hj
   have hne:((xs.take h).drop l)≠ []→xs≠ []:=by intro hn e;subst e;simp at hn
   rw [←hlen]
   by_cases hml:m=l
   ·subst hml
    have h0:((xs.take h).drop m)= []:=by rw [←AZ,hlen];omega
    simp only [if_true,h0]
    exact .sl _ _ [] A _ u (by simp) (by omega) (fun hf1=>by have:=hf hf1;simp) (fun h=>absurd rfl h) (fun h=>absurd rfl h) (fun _ _ _ h=>absurd rfl h) (by simp) (by simp) (by simp) (by simp) (fun _ h=>absurd h (Nat.ne_of_gt hz))
   simp only [if_neg hml]
   refine .sl _ _ _ _ _ (fun j i=>u (l+j) i) (by omega) (by omega) (fun hf1=>by have:=hf hf1;omega) (fun hn a ha=> ?_) (fun hn=> ?_) (fun b o hb hn=> ?_) (fun c hc=> ?_) (fun c hc=> ?_) (fun b o hb j c i x hj hi=> ?_) (fun j c i x hj hi=>hr _ _ _ _ (hget j c hj) hi) (fun _ h=>absurd h (Nat.ne_of_gt hz))
   ·simp only [Am] at ha
    obtain ⟨a0,ha0,rfl⟩:=ha
    unfold Addr.add;split
    ·exact hA (hne hn) _ ha0
    rfl
   ·simpa using hA1 (hne hn)
   ·simp only [Am] at hb
    obtain ⟨⟨b0,o0,sp⟩,ha0,hb⟩:=hb
    have:=hA (hne hn) _ ha0;simp only at this;subst this
    rw [Addr.add_lit] at hb
    injection hb with e1 e2
    subst e1
    exact hS b0 o0 ha0 (hne hn)
   ·obtain ⟨j,hj⟩:=AB hc
    exact hsz c (Af (hget j c hj))
   ·obtain ⟨j,hj⟩:=AB hc
    exact h1 c (Af (hget j c hj))
   simp only [Am] at hb
   obtain ⟨⟨b0,o0,sp⟩,ha0,hb⟩:=hb
   have:=hA (by intro e;subst e;simp at hj) _ ha0;simp only at this;subst this
   rw [Addr.add_lit] at hb
   injection hb with e1 e2
   subst e1 e2
   have:=hcell b0 o0 ha0 (l+j) c i x (hget j c hj) hi
   rw [Bn] at this
   rwa [BB,←BB (l*sz)]
theorem q3k {t :TypeId} {x z:AV} {lo hi mx:Option AV} {v:Value} {lv hv mv:Option Value} (hx:RV w S β n x v) (rl:OptR w S β n lo lv) (rh:OptR w S β n hi hv) (rm:OptR w S β n mx mv)
 (h:qf3 P t x lo hi mx=some z):∃v',(Instr.slice t v lv hv mv).run P w= .ok v' w∧RV w S β n z v':=by
 unfold qf3 at h
 split at h
 ·rename_i s
  cases hx
  split at h
  ·rename_i ht
   obtain ⟨ht,hmx⟩:=ht
   split at h
   ·rename_i hh hhi
    split at h
    ·rename_i l hlo
     split at h
     ·rename_i hle
      simp only [Ab] at h;subst h
      unfold strP at ht
      split at ht
      ·rename_i hu
       have hmv:mv=none:=by
        cases mx with
        | none=>cases mv with
          | none=>rfl
          | some _=>exact rm.elim
        | some _=>cases hmx
       subst hmv
       exact ⟨_,by simp [Instr.slice,run_underlying hu,qj6 (P:=P) hhi hlo rl rh hle.1 hle.2], .str _⟩
      cases ht
     cases h
    cases h
   cases h
  cases h
 ·rename_i sz full xs
  split at h
  ·rename_i e k he
   obtain ⟨hu,hk⟩:=Qh he
   split at h
   ·rename_i hsz
    obtain ⟨hk0,hsz⟩:=hsz
    have hx':RV w S β n (.sl k full xs) v:=by
     rcases hsz with rfl | rfl
     ·exact hx
     cases hx with
     | sl _ _ _ A cap u hl hm hf hA hA1 hS hsz h1 hc hr hV=>exact .sl k full [] A cap u hl hm hf hA hA1 hS (by simp) (by simp) (by simp) (by simp) (fun _ h=>absurd h (Nat.ne_of_gt hk0))
    split at h
    ·rename_i hh hhi
     split at h
     ·rename_i l hlo
      split at h
      ·split at h
       ·rename_i hle
        simp only [Ab] at h;subst h
        have hmv:mv=none:=by cases mv with
         | none=>rfl
         | some _=>exact rm.elim
        subst hmv
        have hx2:=hx'
        cases hx' with
        | sl _ _ _ A cap u hl hm hf hA hA1 hS hsz' h1 hc hr=>
          refine ⟨_,?_,RV.sub hx2 hle.1 hle.2 (BD hle.2 hl) (Aj _) (fun hf1=> ?_) hk0⟩
          ·simp [Instr.slice,run_underlying hu,Kv hk,qj6 (P:=P) (b:=true) hhi hlo rl rh hle.1 (BD hle.2 hl)]
          simp only [An,decide_eq_true_eq] at hf1
          rw [hf hf1.1,hf1.2]
       cases h
      rename_i m
      split at h
      ·rename_i m' hv0 m'' hmb
       split at h
       ·rename_i hle
        simp only [Ab] at h;subst h
        cases mv with
        | none=>exact rm.elim
        | some mv=>
          cases hv with
          | none=>exact rh.elim
          | some hv=>
            have hx2:=hx'
            cases hx' with
            | sl _ _ _ A cap u hl hm hf hA hA1 hS hsz' h1 hc hr=>
              refine ⟨_,?_,RV.sub hx2 hle.1 (BD hle.2.1 hle.2.2) hle.2.1 (BD hle.2.2 hl) (fun hf1=>(of_decide_eq_true hf1).symm) hk0⟩
              simp [Instr.slice,run_underlying hu,Kv hk,qxb (P:=P) (b:=true) hhi hlo hmb rl rh rm hle.1 hle.2.1 (BD hle.2.2 hl)]
       cases h
      cases h
     cases h
    cases h
   cases h
  cases h
 ·rename_i sz id s off len
  split at h
  ·rename_i e k he
   obtain ⟨hu,hk⟩:=Qh he
   split at h
   ·rename_i hsz
    obtain ⟨rfl,hmx⟩:=hsz
    split at h
    ·rename_i hh hhi
     split at h
     ·rename_i l hlo
      split at h
      ·rename_i hle
       simp only [Ab] at h;subst h
       have hmv:mv=none:=by
        cases mx with
        | none=>cases mv with
          | none=>rfl
          | some _=>exact rm.elim
        | some _=>cases hmx
       subst hmv
       cases hx with
       | bs0=>exfalso;omega
       | bs _ _ _ _ _ cap m e' hs hsh hn hl hm h0=>
         refine ⟨.slice (some ⟨β s,off+l*sz,none⟩) (hh - l) (cap - l),?_, .bs _ _ _ _ _ (cap - l) m e' hs hsh ?_ (by omega) (by omega) (by omega)⟩
         ·have:¬cap=l:=by omega
          simp [Instr.slice,run_underlying hu,Kv hk,qj6 (P:=P) (b:=true) hhi hlo rl rh (Nat.le_of_lt hle.1) (BD hle.2 hl),this,Addr.add_lit]
         rw [←hn,BB,←Bn];congr 2;omega
      cases h
     cases h
    cases h
   cases h
  cases h
 cases h
def qm5 (P:Program) (t:TypeId) (x:AV):Option AV:=
 match x with
 | .str s=>if strP P t then some (.int .i64 s.size) else none
 | .sl _ _ l=>match elemP P t with | some _=>some (.int .i64 l.length) | none=>none
 | .bs _ _ _ _ len=>match elemP P t with | some _=>some (.int .i64 len) | none=>none
 | _=>none
theorem q86 {t ty:TypeId} {ts:Array TypeId} {vs:Array Value} {x z:AV} {v:Value} (ht:ts[0]? =some t) (hv:vs[0]? =some v) (hx:RV w S β n x v) (h:qm5 P t x=some z):
 ∃v',(Builtin.len_ ts ty vs).run P w= .ok v' w∧RV w S β n z v':=by
 unfold qm5 at h
 split at h
 ·cases hx
  split at h
  ·rename_i hs
   simp only [Ab] at h;subst h
   unfold strP at hs
   split at hs
   ·rename_i hu
    exact ⟨_,by simp [Builtin.len_,ht,hv,run_underlying hu,goInt], .int _ _⟩
   cases hs
  cases h
 ·split at h
  ·rename_i he
   simp only [Ab] at h;subst h
   obtain ⟨hu,_⟩:=Qh he
   cases hx with
   | sl _ _ _ A cap u=>exact ⟨_,by simp [Builtin.len_,ht,hv,run_underlying hu,goInt], .int _ _⟩
  cases h
 ·split at h
  ·rename_i he
   simp only [Ab] at h;subst h
   obtain ⟨hu,_⟩:=Qh he
   cases hx <;> exact ⟨_,by simp [Builtin.len_,ht,hv,run_underlying hu,goInt], .int _ _⟩
  cases h
 cases h
end Go.Proofs.YtpnkemogepoioaaGreatDoorW.Ex

namespace Go.Proofs.YtpnkemogepoioaaGreatDoorW.Ex
set_option linter.all false
open Go
variable {G:Nat→List AV} {P:Program} {w:World} {S F:Nat→Prop} {β:Nat→Nat} {n:Nat}
def K1:AV→Option (List AV)
 | .agg cs=>some cs
 | .undef | .tup _=>none
 | x=>some [x]
def CR (w:World) (S:Nat→Prop) (β:Nat→Nat) (n:Nat) (cs:List AV) (c:Array Value):Prop:=
 c.size=cs.length∧∀(i:Nat) (x:AV),cs[i]? =some x→x.one=true∧RV w S β n x (c.getD i Go.undef)
theorem CR.one {cs:List AV} {c:Array Value} (h:CR w S β n cs c):∀u∈c.toList,u.oneCell'=true:=by
 intro u hu
 obtain ⟨i,hi⟩:=AB hu
 have hlt:=(Ah.1 hi).1
 rw [AY,h.1] at hlt
 obtain ⟨h1,h2⟩:=h.2 i cs[i] (Ak hlt)
 have:c.getD i Go.undef=u:=by
  rw [Ag,←Bk,hi,Bo]
 rw [this] at h2
 exact h2.one h1
theorem qj5 {x:AV} {v:Value} {cs:List AV} (hx:RV w S β n x v) (h:K1 x=some cs):CR w S β n cs v.cells:=by
 have single:∀x v,RV w S β n x v→x.one=true→v.cells= #[v]→CR w S β n [x] v.cells:=by
  intro x v hx h1 hv
  rw [hv]
  refine ⟨rfl,fun i y hi=> ?_⟩
  cases i with
  | zero=>simp only [Aq,Ab] at hi;subst hi;exact ⟨h1,hx⟩
  | succ i=>simp at hi
 have hx0:=hx
 cases hx with
 | agg cs' vs hs h1 hr=>
   simp only [K1,Ab] at h;subst h
   exact ⟨hs,fun i x hi=>⟨h1 x (Af hi),hr i x hi⟩⟩
 | undef v=>cases h
 | tup _ _=>cases h
 | optr _ _ _ v hs hv=>simp only [K1,Ab] at h;subst h;exact single _ _ hx0 rfl (by rcases hv with rfl | rfl <;> rfl)
 | _=>simp only [K1,Ab] at h;subst h;exact single _ _ hx0 rfl rfl
def Hp.push (H:Hp) (o:Obj):Hp:=⟨H.n+1,H.objs++ [(H.n,o)]⟩
def Obj.cells:Obj→List AV | .dead=> [] | .var _ cs | .row _ cs | .froz _ cs=>cs
theorem qqf {b:Nat}:∀s,s < n→(fun s=>if s=n then b else β s) s=β s:=fun s hs=>if_neg (by omega)
theorem Ext.grew {w':World} {S':Nat→Prop} (hs:∀k,S k→k < w.heap.size) (hf:∀k,F k→k < w.heap.size) (os:w'.os=w.os) (tape:w'.tape=w.tape) (output:w'.output=w.output) (size:w.heap.size≤w'.heap.size)
 (same:∀k,k < w.heap.size→w'.heap[k]? =w.heap[k]?) (sub:∀k,S k→S' k) (new:∀k,S' k→S k∨¬F k) (n':Nat) (hn:n≤n') (β':Nat→Nat) (hb:∀s,s < n→β' s=β s):Ext w S F β n w' S' β' n':=
 ⟨os,tape,output,size,hn,hb,sub,new,fun k hk=>same k (hs k hk),fun k hk=>same k (hf k hk),fun k x hx=>by
   have hk:k < w.heap.size:=by
    unfold World.shape? at hx
    split at hx
    ·rename_i h;exact (Au.1 h).1
    cases hx
   unfold World.shape? at*
   rw [same k hk];exact hx⟩
theorem HR.grew {H:Hp} (h:HR G w S F β H) {w':World} (os:w'.os=w.os) (tape:w'.tape=w.tape) (output:w'.output=w.output)
 (same:∀k,k < w.heap.size→w'.heap[k]? =w.heap[k]?) {c:Array Value} {t:TypeId} (hc:w'.heap[w.heap.size]? =some (.cells c t (0,0))) {o:Obj} (ho:(∃cs,o= .var t cs∧c.size=cs.length)∨(∃cs,o= .row t cs∧cs.length≤c.size))
 (hcs:∀(i:Nat) (x:AV),o.cells[i]? =some x→x.one=true∧RV w S β H.n x (c.getD i Go.undef)):
 Ext w S F β H.n w' S (fun s=>if s=H.n then w.heap.size else β s) (H.n+1)∧HR G w' S F (fun s=>if s=H.n then w.heap.size else β s) (H.push o):=by
 have hlt:=(Au.1 hc).1
 have hx:Ext w S F β H.n w' S (fun s=>if s=H.n then w.heap.size else β s) (H.n+1):=
  Ext.grew h.lts h.ltf os tape output (by omega) same (fun _ h=>h) (fun _ h=> .inl h) _ (by omega) _ qqf
 refine ⟨hx,fun k hk=>by have:=h.lts k hk;omega,fun k hk=>by have:=h.ltf k hk;omega,fun g=>(h.glob g).ext hx,fun i s o' hi=> ?_,fun i j si sj oi oj hi hj hne h1 h2=> ?_,fun i s o' hi=> ?_⟩
 ·simp only [Hp.push,AH] at hi
  split at hi
  ·have:=h.ltn i s o' hi;simp only [Hp.push];omega
  have:=Af hi
  simp only [AO,Al] at this
  simp only [Hp.push];omega
 ·simp only [Hp.push,AH] at hi hj
  have hb:∀(i s:Nat) (o:Obj),H.objs[i]? =some (s,o)→o.live=true→β s < w.heap.size:=fun i s o hi hl=>(h.obj i s o hi).lt hl
  split at hi
  ·rw [if_neg (by have:=h.ltn i si oi hi;omega)]
   split at hj
   ·rw [if_neg (by have:=h.ltn j sj oj hj;omega)]
    exact h.inj i j si sj oi oj hi hj hne h1 h2
   have:=Af hj
   simp only [AO,Al] at this
   rw [if_pos this.1]
   have:=hb i si oi hi h1;omega
  have h0:=Af hi
  simp only [AO,Al] at h0
  rw [if_pos h0.1]
  split at hj
  ·rw [if_neg (by have:=h.ltn j sj oj hj;omega)]
   have:=hb j sj oj hj h2;omega
  exfalso
  have hi1:=(Ah.1 hi).1
  have hj1:=(Ah.1 hj).1
  simp only [Ai] at hi1 hj1
  omega
 simp only [Hp.push,AH] at hi
 split at hi
 ·rename_i hil
  have hs:=h.ltn i s o' hi
  rw [if_neg (by omega)]
  have ho:=h.obj i s o' hi
  have hb:(match o' with | .dead=>False | .row _ cs=>cs≠ [] | _=>True)→β s < w.heap.size:=by
   intro hd
   cases o' with
   | dead=>exact hd.elim
   | var t cs=>exact ho.lt rfl
   | row t cs=>exact ho.lt (qb1 (hd ·))
   | froz t cs=>obtain ⟨_,_,_,_,hS,_⟩:=ho;exact h.lts _ hS
  cases o' with
  | dead=>trivial
  | row t cs=>exact fun hne=>ho.to (o:= .row t cs) (fun _ _=>RV.ext hx) (same _ (hb hne)) (fun h=>h) (fun h=>h) (fun h=>h) hne
  | _=>exact ho.to (fun _ _=>RV.ext hx) (same _ (hb (by simp))) (fun h=>h) (fun h=>h) (fun h=>h)
 have h0:=Af hi
 simp only [AO,Al] at h0
 obtain ⟨h0,rfl⟩:=h0
 rw [if_pos h0]
 have hnS:¬S w.heap.size:=fun hk=>by have:=h.lts _ hk;omega
 have hnF:¬F w.heap.size:=fun hk=>by have:=h.ltf _ hk;omega
 rcases ho with ⟨cs,rfl,hsz⟩ | ⟨cs,rfl,hsz⟩
 ·exact ⟨c,hc,hsz,hnS,hnF,fun i x hi=>⟨(hcs i x hi).1,((hcs i x hi).2).ext hx⟩⟩
 exact fun _=>⟨c,hc,hsz,hnS,hnF,fun i x hi=>⟨(hcs i x hi).1,((hcs i x hi).2).ext hx⟩⟩
theorem q5k {H:Hp} (h:HR G w S F β H) {t:TypeId} {cs:List AV} {v:Value} (hc:CR w S β H.n cs v.cells):
 ∃v' w' β',(Instr.box t v).run P w= .ok v' w'∧Ext w S F β H.n w' S β' (H.n+1)∧HR G w' S F β' (H.push (.var t cs))∧RV w' S β' (H.n+1) (.ptr H.objs.length H.n 0) v':=by
 have hg:=h.grew (w':=w.alloc (.cells v.cells t)) rfl rfl rfl (fun k hk=>heap_alloc_old w _ k hk) (heap_alloc_new w _) (o:= .var t cs) (.inl ⟨cs,rfl,hc.1⟩) hc.2
 refine ⟨.pointer (some ⟨w.heap.size,0,none⟩),_,_,rfl,hg.1,hg.2,?_⟩
 have:=RV.ptr (w:=w.alloc (.cells v.cells t)) (S:=S) (β:=fun s=>if s=H.n then w.heap.size else β s) (n:=H.n+1) H.objs.length H.n 0 (by omega)
 simpa using this
def zeroAV (P:Program) (t:TypeId):Option (List AV):=((P.info? t).bind (·.zero)).map fun z=>z.cells.toList.map ofV
theorem qlz {t:TypeId} {cs:List AV} (h:zeroAV P t=some cs) (h1:cs.all (·.one)=true):∃v,(zeroValue t).run P w= .ok v w∧CR w S β n cs v.cells:=by
 unfold zeroAV at h
 cases hi:P.info? t with
 | none=>simp [hi] at h
 | some i=>
   cases hz:i.zero with
   | none=>simp [hi,hz] at h
   | some z=>
     simp [hi,hz] at h
     refine ⟨z,by simp [zeroValue,typeInfo,hi,hz],by rw [←h];simp,fun j x hj=>⟨?_,?_⟩⟩
     ·exact Aw.1 h1 x (Af hj)
     rw [←h] at hj
     simp only [Av,Am] at hj
     obtain ⟨u,hu,rfl⟩:=hj
     rw [Bk] at hu
     rw [Ag,hu]
     exact qyf u
theorem q5r {H:Hp} (h:HR G w S F β H) {t:TypeId} {cs:List AV} (hz:zeroAV P t=some cs) (h1:cs.all (·.one)=true):
 ∃v' w' β',(Instr.alloc t true (.tuple #[])).run P w= .ok v' w'∧Ext w S F β H.n w' S β' (H.n+1)∧HR G w' S F β' (H.push (.var t cs))∧RV w' S β' (H.n+1) (.ptr H.objs.length H.n 0) v':=by
 obtain ⟨v,hv,hc⟩:=qlz (P:=P) (w:=w) (S:=S) (β:=β) (n:=H.n) hz h1
 obtain ⟨v',w',β',hr,r⟩:=q5k (P:=P) h (t:=t) hc
 refine ⟨v',w',β',?_,r⟩
 simp only [Instr.alloc,Sem.run_bind,hv,Result.andThen_ok]
 exact hr
def Qu (cs:List AV) (off:Nat) (xs:List AV):List AV:=cs.take off++xs++cs.drop (off+xs.length)
def Q6 (P:Program) (H:Hp) (t:TypeId) (p x:AV):Option Hp:=
 match p,K1 x,szP P t with
 | .ptr id s off,some xs,some k=>if xs.length=k then
    match H.objs[id]? with
    | some (s', .var ty cs)=>if s'=s∧off+xs.length≤cs.length then some ⟨H.n,H.objs.set id (s, .var ty (Qu cs off xs))⟩ else none
    | some (s', .row ty cs)=>if s'=s∧off+xs.length≤cs.length∧0 < cs.length then some ⟨H.n,H.objs.set id (s, .row ty (Qu cs off xs))⟩ else none
    | _=>none
   else none
 | _,_,_=>none
theorem qdk {cs xs:List AV} {off:Nat} (h:off+xs.length≤cs.length):(Qu cs off xs).length=cs.length:=by
 simp only [Qu,Ad,Bs,BH];omega
theorem HR.turn {H:Hp} (h:HR G w S F β H) {id s:Nat} {o o':Obj} (hi:H.objs[id]? =some (s,o)) (hl:o.live=true) {w':World} (os:w'.os=w.os) (tape:w'.tape=w.tape) (output:w'.output=w.output) (size:w'.heap.size=w.heap.size)
 (same:∀k,k≠β s→w'.heap[k]? =w.heap[k]?) (shape:∀x,w.shape? (β s)=some x→w'.shape? (β s)=some x)
 (ho:(∀x v,RV w S β H.n x v→RV w' S β H.n x v)→OR w' S F β H.n (β s) o'):Ext w S F β H.n w' S β H.n∧HR G w' S F β ⟨H.n,H.objs.set id (s,o')⟩:=by
 have hnS:=(h.obj id s o hi).notS hl
 have hx:Ext w S F β H.n w' S β H.n:=⟨os,tape,output,by omega,Aj _,fun _ _=>rfl,fun _ h=>h,fun _ h=> .inl h,fun k hk=>same k (by intro e;subst e;exact hnS.1 hk),fun k hk=>same k (by intro e;subst e;exact hnS.2 hk),fun k x hk=>by
  by_cases he:k=β s
  ·subst he;exact shape x hk
  unfold World.shape? at*;rw [same k he];exact hk⟩
 have hid:id < H.objs.length:=(Ah.1 hi).1
 have at_:∀(i:Nat) (y:Nat × Obj),(H.objs.set id (s,o'))[i]? =some y→(i=id∧y=(s,o'))∨(i≠id∧H.objs[i]? =some y):=by
  intro i y hy
  by_cases he:i=id
  ·subst he
   rw [Bz hid] at hy
   simp only [Ab] at hy
   exact .inl ⟨rfl,hy.symm⟩
  rw [BF (Ne.symm he)] at hy
  exact .inr ⟨he,hy⟩
 refine ⟨hx,fun k hk=>by rw [size];exact h.lts k hk,fun k hk=>by rw [size];exact h.ltf k hk,fun g=>(h.glob g).ext hx,fun i s1 o1 h1=> ?_,fun i j si sj oi oj h1 h2 hne l1 l2=> ?_,fun i s1 o1 h1=> ?_⟩
 ·rcases at_ i _ h1 with ⟨rfl,e⟩ | ⟨_,e⟩
  ·injection e with e1 e2;subst e1;exact h.ltn _ _ _ hi
  exact h.ltn _ _ _ e
 ·rcases at_ i _ h1 with ⟨rfl,e⟩ | ⟨hi',e⟩
  ·injection e with e1 e2;subst e1
   rcases at_ j _ h2 with ⟨rfl,e⟩ | ⟨hj',e⟩
   ·exact absurd rfl hne
   exact h.inj _ _ _ _ _ _ hi e hne hl l2
  rcases at_ j _ h2 with ⟨rfl,e'⟩ | ⟨hj',e'⟩
  ·injection e' with e1 e2;subst e1
   exact h.inj _ _ _ _ _ _ e hi hne l1 hl
  exact h.inj _ _ _ _ _ _ e e' hne l1 l2
 rcases at_ i _ h1 with ⟨rfl,e⟩ | ⟨hi',e⟩
 ·injection e with e1 e2;subst e1 e2
  exact ho (fun _ _=>RV.ext hx)
 have hor:=h.obj _ _ _ e
 cases hlv:o1.live with
 | true=>exact hor.to (fun _ _=>RV.ext hx) (same _ (h.inj _ _ _ _ _ _ e hi hi' hlv hl)) (fun h=>h) (fun h=>h) (fun h=>h)
 | false=>
   cases o1 with
   | dead=>trivial
   | var t cs=>cases hlv
   | row t cs=>exact OR.nil hlv
   | froz t cs=>
     have hS:=hor
     obtain ⟨_,_,_,_,hS,_⟩:=hS
     exact hor.to (fun _ _=>RV.ext hx) (same _ (by intro e;rw [e] at hS;exact hnS.1 hS)) (fun h=>h) (fun h=>h) (fun h=>h)
theorem qar (l:List Value) (i:Nat):l.toArray.getD i Go.undef=(l[i]?).getD Go.undef:=by
 rw [Ag,Cc]
theorem q1w {cs xs:List AV} {off:Nat} {c c2:Array Value} (hcs:∀(i:Nat) (x:AV),cs[i]? =some x→x.one=true∧RV w S β n x (c.getD i Go.undef)) (hle:cs.length≤c.size) (hoff:off+xs.length≤cs.length)
 (hx:CR w S β n xs c2):∀(i:Nat) (x:AV),(Qu cs off xs)[i]? =some x→x.one=true∧RV w S β n x ((c.toList.take (off+0)++c2.toList++c.toList.drop (off+0+c2.toList.length)).toArray.getD i Go.undef):=by
 intro i x hi
 have h2:c2.size=xs.length:=hx.1
 simp only [Qu,AH,Ad,Bs,Bl,Bg] at hi
 rw [qar]
 simp only [AH,Ad,Bs,Bl,Bg,AY,BJ,h2,Bk]
 rw [show min off cs.length=off by omega] at hi
 rw [show min off c.size=off by omega]
 by_cases ha:i < off
 ·simp only [show i < off+xs.length by omega,ha,if_true] at hi ⊢
  have:=hcs i x hi
  rwa [Ag] at this
 by_cases hb:i < off+xs.length
 ·simp only [hb,ha,if_true,if_false] at hi ⊢
  have:=hx.2 _ _ hi
  rwa [Ag] at this
 simp only [hb,if_false] at hi ⊢
 have:=hcs _ _ hi
 rwa [Ag] at this
theorem q3f {H H':Hp} (h:HR G w S F β H) {t:TypeId} {p x:AV} {pv v:Value} (hp:RV w S β H.n p pv) (hx:RV w S β H.n x v) (hs:Q6 P H t p x=some H'):
 ∃w',(Instr.storeAt t pv v).run P w= .ok () w'∧Ext w S F β H.n w' S β H'.n∧HR G w' S F β H':=by
 unfold Q6 at hs
 split at hs
 ·rename_i id s off xs k hc hk
  cases hp
  have hcr:=qj5 hx hc
  split at hs
  ·rename_i hlen
   have main:∀(ty:TypeId) (cs:List AV) (c:Array Value) (o o':Obj),H.objs[id]? =some (s,o)→o.live=true→w.heap[β s]? =some (.cells c ty (0,0))→cs.length≤c.size→(∀(i:Nat) (x:AV),cs[i]? =some x→x.one=true∧RV w S β H.n x (c.getD i Go.undef))→
    off+xs.length≤cs.length→(∀w' c',(∀x v,RV w S β H.n x v→RV w' S β H.n x v)→w'.heap[β s]? =some (.cells c' ty (0,0))→c'.size=c.size→(∀(i:Nat) (x:AV),(Qu cs off xs)[i]? =some x→x.one=true∧RV w' S β H.n x (c'.getD i Go.undef))→OR w' S F β H.n (β s) o')→
    ∃w',(Instr.storeAt t (.pointer (some ⟨β s,off,none⟩)) v).run P w= .ok () w'∧Ext w S F β H.n w' S β H.n∧HR G w' S F β ⟨H.n,H.objs.set id (s,o')⟩:=by
    intro ty cs c o o' hi hl hb hle hall hoff ho
    have hst:=run_storeCells_at (P:=P) (β s) off ty v.cells.toList 0 c w hb (by rw [AY,hcr.1];omega) hcr.one
    have hsz:(c.toList.take (off+0)++v.cells.toList++c.toList.drop (off+0+v.cells.toList.length)).toArray.size=c.size:=by
     simp only [List.size_toArray,Ad,Bs,BH,AY,hcr.1];omega
    refine ⟨_,?_,h.turn hi hl (w':=w.setRow (β s) (c.toList.take (off+0)++v.cells.toList++c.toList.drop (off+0+v.cells.toList.length)).toArray) rfl rfl rfl (setRow_size _ _ _) (fun k hk=>setRow_other w _ k _ hk) (fun x hx=> ?_) (fun hr=>ho _ _ hr (setRow_heap w _ c _ ty _ hb) hsz ?_)⟩
    ·have h1:v.cells.size=k:=by rw [hcr.1];exact hlen
     simp only [Instr.storeAt,Instr.sureAddr,storeVar,Sem.run_bind,Sem.run_pure,Result.andThen_ok,Kv hk,h1,ne_eq,not_true_eq_false,if_false]
     exact hst
    ·unfold World.shape? at*
     rw [setRow_heap w _ c _ ty _ hb]
     simp only [hb] at hx
     rw [←hx]
     exact congrArg (fun m=>some (ty,m)) hsz
    intro i x hi
    have:=q1w hall hle hoff hcr i x hi
    exact ⟨this.1,hr _ _ this.2⟩
   split at hs
   ·rename_i s' ty cs hi
    split at hs
    ·rename_i hcond
     obtain ⟨rfl,hoff⟩:=hcond
     simp only [Ab] at hs;subst hs
     obtain ⟨c,hb,hsz,hnS,hnF,hall⟩:=h.obj _ _ _ hi
     exact main ty cs c _ _ hi rfl hb (by omega) hall hoff (fun w' c' _ hb' hsz' hall'=>⟨c',hb',by rw [hsz',hsz,qdk hoff],hnS,hnF,hall'⟩)
    cases hs
   ·rename_i s' ty cs hi
    split at hs
    ·rename_i hcond
     obtain ⟨rfl,hoff,hpos⟩:=hcond
     simp only [Ab] at hs;subst hs
     have hne:cs≠ []:=by intro e;subst e;simp at hpos
     obtain ⟨c,hb,hsz,hnS,hnF,hall⟩:=h.obj _ _ _ hi hne
     exact main ty cs c _ _ hi (qb1 hne) hb (by omega) hall hoff (fun w' c' _ hb' hsz' hall' _=>⟨c',hb',by rw [hsz',qdk hoff];exact hsz,hnS,hnF,hall'⟩)
    cases hs
   cases hs
  cases hs
 cases hs
end Go.Proofs.YtpnkemogepoioaaGreatDoorW.Ex
