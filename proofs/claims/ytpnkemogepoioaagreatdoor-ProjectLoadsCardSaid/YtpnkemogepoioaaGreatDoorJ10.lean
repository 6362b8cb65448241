/- The law ProjectLoads. Conditions: those in each theorem. What comes in for the rows of the layer, and their contracts. Conditions: none beside those in each theorem. -/
import Derived.Test.YtpnkemogepoioaaGreatDoorJB
import Derived.Test.YtpnkemogepoioaaGreatDoorBf
import Derived.Test.YtpnkemogepoioaaGreatDoorGk
import Derived.Test.YtpnkemogepoioaaGreatDoorRows
import Derived.LaidMore
import Derived.Stop.Joined
import Derived.Stop.LaidErr
import Derived.MakeChecks
import Derived.LaidLaws
import Derived.Lib.LaidTab
namespace Go.Proofs.YtpnkemogepoioaaGreatDoorW.Ex.Gr
open Go Go.Proofs.YtpnkemogepoioaaGreatDoorW.Ex Go.Proofs.YtpnkemogepoioaaGreatDoorW.Plain Tk
set_option linter.all false
set_option maxRecDepth 100000
namespace Ps
theorem q2h {m:List Token} {n:Node} {r:List Token} (hg:Good m) (hl:m.length≤65537) (h:fileR m= .ok (n,r)):n.kind=1:=by
 have q:=qy2 (mu (.file []) m.length) (.file []) m (q8c hg hl) trivial
 unfold fileR qzt at h
 rw [h] at q
 obtain ⟨T,h1,h2,ks',y,q',h3,h4,hn,hv,kl⟩:=q
 simp only at hn
 rw [hn];rfl
theorem q10 {s:BA} (hs:s.size≤4000) (h:(readV fileR s).2.1=0):Zh (readV fileR s).1=some (s,0)∧(readV fileR s).1.kind=1:=by
 obtain ⟨m,n,r,hg,hl,ht,_,hy,e,h3,hw⟩:=q6m h q03
 obtain ⟨f1,f2⟩:=q1v ht
 have hlen:=q1p ht (by omega)
 have hf:=q67 hg hl hy
 have hL:=Y5 s
 have q:=q7t (qyt hf.fe h3) hw hf.tk f2 (by omega) (fun x hx=>by have:=q0b m x hx;rw [f1] at this;omega) (by rw [f1];omega)
 rw [f1,q4a] at q
 rw [e]
 exact ⟨q,q2h hg hl hy⟩
end Ps
namespace Pj
open Ps
theorem q99 {x:File} (hs:x.Text.size≤4000) (hp:qho x.Path=true) (h:(Wc x).Broken=false):J8 x.Path (Wc x).Tree=some (Wc x,0)∧Zh (Wc x).Tree=some (x.Text,0):=by
 have h0:(readV fileR x.Text).2.1=0:=by
  have h:(!decide ((readV fileR x.Text).2.1=0))=false:=h
  simpa using h
 obtain ⟨h1,h2⟩:=q10 hs h0
 refine ⟨?_,h1⟩
 unfold J8
 show (Ks x.Path >>=_)=_
 rw [q5x,bs,hp,if_neg (by decide)]
 show (if (!decide ((readV fileR x.Text).1.kind=(1:Int)))=true then _ else _)=_
 rw [if_neg (by rw [h2];decide)]
 show (Zh (readV fileR x.Text).1 >>=_)=_
 rw [h1,bs,if_neg (by simp),P_File,bs,if_neg (by simp [h0])]
 show some (Unit.mk x.Path x.Text (readV fileR x.Text).1 false,(0:Int))=some (Unit.mk x.Path x.Text (readV fileR x.Text).1 (!decide ((readV fileR x.Text).2.1=0)),(0:Int))
 rw [h0];rfl
def q47 (u:Unit):File:=⟨u.Path,u.Text⟩
theorem qqn:∀(l:List Unit) (acc:List File),acc.length+l.length≤1000000→w7 l acc=some (acc++l.map q47)
 | [],acc,h=>by rw [w7.eq_def,BU,Az]
 | x::l,acc,h=>by
   rw [Ae] at h
   rw [w7.eq_def]
   simp only [qa]
   rw [qck (by rw [Ai];omega) (by decide),bs,qqn l _ (by rw [Ad,Ai];omega),AX,Ap]
   rfl
theorem q7u (l:List Unit) (h:l.length≤1000000):Ja l=some (l.map q47):=by
 unfold Ja
 rw [qqn l [] (by simpa using h),AQ]
theorem q8e (D:List File) (hD:D.length≤1000000):∀(l pre:List File),D=pre++l→ua D D (pre.length:Int)=some true
 | [],pre,h=>by
   rw [ua.eq_def]
   simp only [qa]
   rw [qio h,qgf]
 | x::l,pre,h=>by
   have hl:=qjt h
   rw [ua.eq_def]
   simp only [qa,qdr h,bs]
   rw [qin h,qge,if_neg (by simp),qez (by omega) x]
   exact q8e D hD l (pre++ [x]) (qdp h)
theorem qxh (D:List File) (hD:D.length≤1000000):Ys D D=some true:=by
 unfold Ys
 rw [if_neg (by simp)]
 exact q8e D hD D [] rfl
theorem qym (l:List File):(l.map Wc).map q47=l:=by
 rw [List.map_map]
 exact List.map_id _
theorem q8h (F:List File) (hF:F.length≤1000000) (hs:∀x∈F,x.Text.size≤3000) (hp:∀x∈F,qho x.Path=true):∀(l pre:List File),F=pre++l→yz (F.map Wc) (pre.length:Int)=some true
 | [],pre,h=>by
   rw [yz.eq_def]
   simp only [qa]
   have:=qio (C:=Unit.cells) (L:=F.map Wc) (pre:=pre.map Wc) (by rw [h,BZ];rfl)
   rw [As] at this
   rw [this,qgf,qur];rfl
 | x ::l,pre,h=>by
   have hl:=qjt h
   have hx:x∈F:=by rw [h];simp
   have hu:F.map Wc=pre.map Wc++Wc x::l.map Wc:=by rw [h,BZ,AX]
   have hm:=qdr hu
   have hm2:=qin (C:=Unit.cells) hu
   rw [As] at hm hm2
   have b1:ws (F.map Wc) (pre.length:Int)=some true:=by
    rw [ws.eq_def]
    simp only [qa]
    rw [qez (by omega) x]
    exact q8h F hF hs hp l (pre++ [x]) (qdp h)
   rw [yz.eq_def]
   simp only [qa,hm,bs]
   rw [hm2,qge,b1]
   cases hb:(Wc x).Broken with
   | true=>rw [if_pos rfl]
   | false=>
     obtain ⟨e1,e2⟩:=q99 (by have:=hs x hx;omega) (hp x hx) hb
     have he:u4 (Wc x).Tree (Wc x).Tree=some true:=qwx _ (q6l q03 x.Text)
     rw [if_neg (by decide),e2,bs]
     show (J8 x.Path (Wc x).Tree >>=_)=_
     rw [e1,bs,if_neg (by simp),if_neg (by rw [show (Wc x).Text=x.Text from rfl];simp),if_neg (by simp),q97 [Wc x] (by simp) (fun u hu=>by rw [AO] at hu;rw [hu];exact he),bs,if_neg (by decide)]
theorem L11_Loads (l:List File):Yk l=some true:=by
 obtain ⟨b,e,hb⟩:=q7s l
 unfold Yk
 rw [e,bs]
 cases b with
 | false=>rw [if_pos (by decide),qur];rfl
 | true=>
   have hs:=hb rfl
   have hn:=q4e l
   rw [if_neg (by decide),q5y,bs]
   unfold qpj at hn ⊢
   by_cases h:qgi l=0
   ·rw [if_pos h] at hn ⊢
    rw [As] at hn
    have hp:∀x∈l,qho x.Path=true:=by
     intro x hx
     unfold qgi at h
     by_cases h1:l.any (fun x=> !qho x.Path)=true
     ·rw [if_neg (by omega),if_pos h1] at h;cases h
     have h1:l.any (fun x=> !qho x.Path)=false:=by simpa using h1
     rw [List.any_eq_false] at h1
     have:=h1 x hx
     simpa using this
    rw [if_neg (by simp)]
    show (Ja (l.map Wc) >>=_)=_
    rw [q7u _ (by rw [As];omega),bs,qym,qxh l (by omega),bs,if_neg (by decide)]
    exact q8h l (by omega) hs hp l [] rfl
   rw [if_neg h,if_pos (by rw [decide_eq_false h];rfl),if_pos (by simp),qus,bs,if_pos (by simp),qur];rfl
end Pj
end Go.Proofs.YtpnkemogepoioaaGreatDoorW.Ex.Gr

namespace Go.Proofs.YtpnkemogepoioaaGreatDoorW.Ex.Gr
open Go Go.RowKit Go.Proofs.YtpnkemogepoioaaGreatDoorW.Ex Go.Proofs.YtpnkemogepoioaaGreatDoor
set_option linter.all false
set_option maxRecDepth 100000
theorem q8b {P:Program} {W:World} {nm:String} {g:Nat} {vs:Array Value} {cs:List AV} (hg:P.globalNamed nm=some g) (hv:W.var? P nm=some vs) (hl:vs.size=cs.length)
 (h:∀(i:Nat) (x:AV),cs[i]? =some x→x.one=true∧∃v,vs[i]? =some v∧∀β,RV W (· < W.heap.size) β 0 x v) (β:Nat→Nat) (n:Nat):GV W (· < W.heap.size) β n g cs:=by
 unfold World.var? at hv
 rw [hg,Bt] at hv
 cases hb:W.heap[g]? with
 | none=>rw [hb] at hv;cases hv
 | some o=>
   rw [hb] at hv
   cases o with
   | cells c t fr=>
     simp only [Ab] at hv
     subst hv
     have hlt:g < W.heap.size:=(Au.1 hb).1
     refine ⟨.rptr cs g 0 (fun i=>c.getD i Go.undef) (fun _=>hlt) (fun i x hi=>(h i x hi).1) (fun i x hi=> ?_) (fun i x hi=> ?_),fun _=>⟨t,?_⟩⟩
     ·obtain ⟨_,v,hv,_⟩:=h i x hi
      unfold World.cell?
      rw [hb,AN]
      show c[i]? =some (c.getD i Go.undef)
      rw [Ag,hv];rfl
     ·obtain ⟨_,v,hv,hr⟩:=h i x hi
      rw [Ag,hv]
      exact hr β
     unfold World.shape?
     rw [hb]
     show some (t,c.size)=_
     rw [hl]
   | _=>cases hv
theorem q9d {W:World} (β:Nat→Nat) (n g:Nat):GV W (· < W.heap.size) β n g []:=⟨.rptr [] g 0 (fun _=>Go.undef) (by simp) (by simp) (by simp) (by simp),fun h=>absurd rfl h⟩
theorem q71: "*" ++ "errors.errorString" = "*errors.errorString" :=by decide
theorem q9j (u:TypeId) (h:Tryz.prog.typeName? 3 u=some "*errors.errorString"):u=209:=
 typeName_ptr_named (nm:= "errors.errorString") (by rw [q71];kernel_rfl) (by kernel_rfl) (by decide) u (by rw [q71];exact h)
theorem q4v {W:World} {nm:String} {g ti:Nat} {text:List UInt8} {r:List (String × DataW _root_.Unit)} {ms:Array (String × TypeId)} (h:laidMet Tryz.prog ((nm, .iface "*errors.errorString" (.ptr (.agg [.lit (.string text)])))::r) W)
 (hg:Tryz.prog.globalNamed nm=some g) (ht:(Tryz.prog.globals[g]?).map (·.type)=some ti) (hi:Tryz.prog.underlying ti=some (.interface ms)) (β:Nat→Nat) (n:Nat):GV W (· < W.heap.size) β n g [.iface 209 .undef]:=by
 obtain ⟨a0,s0,hv0, -, -, -⟩:=laid_sentinel h hg ht hi q9j Tryz.underlying209 Tryz.underlying211 rfl rfl Tryz.underlying9 (by kernel_rfl) (by kernel_rfl)
 refine q8b hg hv0 rfl (fun i x hx=> ?_) β n
 match i,hx with
 | 0,hx=>cases hx;exact ⟨rfl,_,rfl,fun _=> .iface _ _ _ (.undef _)⟩
theorem q34:(Rows.laid_internal_strconv_uint64pow10:DataW _root_.Unit)=Lib.tabData .u64 Lib.pow10Tab:=by kernel_rfl
theorem glaidP {W:World} (hL:laidMetH Tryz.prog [("math/bits.deBruijn32tab",Rows.laid_math_bits_deBruijn32tab),("math/bits.deBruijn64tab",Rows.laid_math_bits_deBruijn64tab),("internal/strconv.uint64pow10",Rows.laid_internal_strconv_uint64pow10),("strconv.ErrRange",Rows.laid_strconv_ErrRange),("strconv.ErrSyntax",Rows.laid_strconv_ErrSyntax),("treemerge/grammar.shapes",Rows.laid_treemerge_grammar_shapes)] W):∀g β n,GV W (· < W.heap.size) β n g (G g):=by
 rw [MakeChecks.laidMetH_plain _ _ _ (by kernel_rfl)] at hL
 have h3:=hL.tail.tail
 have hS:=h3.tail.tail.tail
 intro g β n
 unfold G
 by_cases g0:g=0
 ·rw [if_pos g0]
  subst g0
  obtain ⟨ps,⟨g0,t0,cs0,f0,p0,q0,hg0,ht0,hv0,hd0,_,_⟩,_,_⟩:=hS
  obtain rfl:=Bh (q40.symm.trans hg0)
  obtain rfl:=Bh (q9e.symm.trans ht0)
  obtain ⟨l,hl,⟨ds,hds,hE⟩,hR⟩:=qx6 (P:=Tryz.prog) Tryz.underlying167 (by kernel_rfl) qsa q6p q40 hv0 hd0
  obtain ⟨_,_,_,_,hlen,_⟩:=DataW.trod_array Tryz.underlying167 hd0
  have e1:=q5c quk (fun _ _ _ h=>h) hE
  have e3:ds=dA (Rows.laid_treemerge_grammar_shapes:DataW _root_.Unit):=by
   have:(DataW.agg ds:DataW _root_.Unit)=Rows.laid_treemerge_grammar_shapes:=hds.symm
   rw [←this];rfl
  rw [e3,←qvz] at e1
  refine ⟨by rw [←e1];exact hR β n,fun _=> ?_⟩
  have h162:(shapes.map Shape.cells).flatten.length=Tryz.prog.cellsOf 167:=by kernel_rfl
  unfold World.var? at hv0
  rw [q40,Bt] at hv0
  cases hb:W.heap[0]? with
  | none=>rw [hb] at hv0;cases hv0
  | some o=>
    rw [hb] at hv0
    cases o with
    | cells c t fr=>
      simp only [Ab] at hv0
      subst hv0
      refine ⟨t,?_⟩
      unfold World.shape?
      rw [hb]
      show some (t,c.size)=_
      rw [h162,←hlen,AY]
    | _=>cases hv0
 rw [if_neg g0]
 by_cases g1:g=2
 ·rw [if_pos g1]
  subst g1
  exact q4v (ti:=90) h3.tail.tail (by kernel_rfl) (by kernel_rfl) Tryz.underlying90 β n
 rw [if_neg g1]
 by_cases g2:g=3
 ·rw [if_pos g2]
  subst g2
  exact q4v (ti:=90) h3.tail (by kernel_rfl) (by kernel_rfl) Tryz.underlying90 β n
 rw [if_neg g2]
 by_cases g3:g=4
 ·rw [if_pos g3]
  subst g3
  rw [q34] at h3
  have hg:Tryz.prog.globalNamed "internal/strconv.uint64pow10" =some 4:=by kernel_rfl
  have ht:=Lib.tabIs_of_head (t:=213) (e:=186) (n:=20) hg (by kernel_rfl) Tryz.underlying213 Tryz.underlying186 (by kernel_rfl) (by kernel_rfl) h3
  refine q8b hg ht (by simp) (fun i x hx=> ?_) β n
  rw [Av] at hx
  obtain ⟨z,hz,rfl⟩:=Am.1 hx
  refine ⟨rfl, .int .u64 z,?_,fun _=> .int _ _⟩
  rw [Cc,Av,hz];rfl
 rw [if_neg g3]
 exact q9d β n g
theorem q8w (n:Nat):Rd Tryz.prog (n+1) 57 File.cells (fun _=>True) (fun _ _=>True):=by
 have h:=qil (P:=Tryz.prog) Tryz.underlying57 (by kernel_rfl) (qc4 (sz:=1) rfl (by kernel_rfl) (qe5 Tryz.underlying9 n) (que (sz:=1) rfl (by kernel_rfl) (qe5 Tryz.underlying9 n)))
 exact qnz h (fun x=>File.mk x.1 x.2) (fun x=>rfl) (fun _ _=>trivial) (fun _ _ _ _=>trivial)
theorem rdFiles (n:Nat):Rd Tryz.prog n 22 (fun l:List File=> [.sl 2 false (l.map File.cells)]) (fun _=>True) (fun _ _=>True):=
 q72 (q8v (qhn (sz:=2) Tryz.underlying22 (by kernel_rfl) (by decide) (fun _=>rfl) (q8w n)) (fun _ _=>trivial) (fun _ _ _ _=>trivial)) (Cj n)
theorem rc_sl {w:World} {x:AV} {v:Value} (h:RC w [x] [v]):∀β n,RV w (· < w.heap.size) β n x v:=fun β n=>by
 obtain ⟨_,v',hv,hR⟩:=h.2 0 x rfl
 simp only [Aq,Ab] at hv
 subst hv
 exact hR β n
theorem L11_ProjectLoads (a0:List File):qcb a0 true:=qib a0 true (Pj.L11_Loads a0)
end Go.Proofs.YtpnkemogepoioaaGreatDoorW.Ex.Gr
