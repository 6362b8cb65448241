/- What comes in for the rows of the layer, and their contracts. Conditions: none beside those in each theorem. -/
import Derived.Test.YtpnkemogepoioaaGreatDoorJR
import Derived.Test.YtpnkemogepoioaaGreatDoorGk
import Derived.Test.YtpnkemogepoioaaGreatDoorRows
import Derived.LaidMore
import Derived.Stop.Joined
import Derived.Stop.LaidErr
import Derived.MakeChecks
import Derived.LaidLaws
import Derived.Lib.LaidTab
namespace Go.Proofs.YtpnkemogepoioaaGreatDoorW.Ex.Gr
open Go Go.RowKit Go.Proofs.YtpnkemogepoioaaGreatDoorW.Ex Go.Proofs.YtpnkemogepoioaaGreatDoor
set_option linter.all false
set_option maxRecDepth 100000
theorem q2c {P:Program} {W:World} {nm:String} {g:Nat} {vs:Array Value} {cs:List AV} (hg:P.globalNamed nm=some g) (hv:W.var? P nm=some vs) (hl:vs.size=cs.length)
 (h:∀(i:Nat) (x:AV),cs[i]? =some x→x.one=true∧∃v,vs[i]? =some v∧∀β,RV W (· < W.heap.size) β 0 x v) (β:Nat→Nat) (n:Nat):GV W (· < W.heap.size) β n g cs:=by
 unfold World.var? at hv
 rw [hg,Option.bind_some] at hv
 cases hb:W.heap[g]? with
 | none=>rw [hb] at hv;cases hv
 | some o=>
   rw [hb] at hv
   cases o with
   | cells c t fr=>
     simp only [Option.some.injEq] at hv
     subst hv
     have hlt:g < W.heap.size:=(Array.getElem?_eq_some_iff.1 hb).1
     refine ⟨.rptr cs g 0 (fun i=>c.getD i Go.undef) (fun _=>hlt) (fun i x hi=>(h i x hi).1) (fun i x hi=> ?_) (fun i x hi=> ?_),fun _=>⟨t,?_⟩⟩
     ·obtain ⟨_,v,hv,_⟩:=h i x hi
      unfold World.cell?
      rw [hb,Nat.zero_add]
      show c[i]? =some (c.getD i Go.undef)
      rw [Array.getD_eq_getD_getElem?,hv];rfl
     ·obtain ⟨_,v,hv,hr⟩:=h i x hi
      rw [Array.getD_eq_getD_getElem?,hv]
      exact hr β
     unfold World.shape?
     rw [hb]
     show some (t,c.size)=_
     rw [hl]
   | _=>cases hv
theorem q24 {W:World} (β:Nat→Nat) (n g:Nat):GV W (· < W.heap.size) β n g []:=⟨.rptr [] g 0 (fun _=>Go.undef) (by simp) (by simp) (by simp) (by simp),fun h=>absurd rfl h⟩
theorem q12: "*" ++ "errors.errorString" = "*errors.errorString" :=by decide
theorem q28 (u:TypeId) (h:Tryz.prog.typeName? 3 u=some "*errors.errorString"):u=209:=
 typeName_ptr_named (nm:= "errors.errorString") (by rw [q12];kernel_rfl) (by kernel_rfl) (by decide) u (by rw [q12];exact h)
theorem qzk {W:World} {nm:String} {g ti:Nat} {text:List UInt8} {r:List (String × DataW _root_.Unit)} {ms:Array (String × TypeId)} (h:laidMet Tryz.prog ((nm, .iface "*errors.errorString" (.ptr (.agg [.lit (.string text)])))::r) W)
 (hg:Tryz.prog.globalNamed nm=some g) (ht:(Tryz.prog.globals[g]?).map (·.type)=some ti) (hi:Tryz.prog.underlying ti=some (.interface ms)) (β:Nat→Nat) (n:Nat):GV W (· < W.heap.size) β n g [.iface 209 .undef]:=by
 obtain ⟨a0,s0,hv0, -, -, -⟩:=laid_sentinel h hg ht hi q28 Tryz.underlying209 Tryz.underlying211 rfl rfl Tryz.underlying9 (by kernel_rfl) (by kernel_rfl)
 refine q2c hg hv0 rfl (fun i x hx=> ?_) β n
 match i,hx with
 | 0,hx=>cases hx;exact ⟨rfl,_,rfl,fun _=> .iface _ _ _ (.undef _)⟩
theorem qyw:(Rows.laid_internal_strconv_uint64pow10:DataW _root_.Unit)=Lib.tabData .u64 Lib.pow10Tab:=by kernel_rfl
theorem glaidP {W:World} (hL:laidMetH Tryz.prog [("math/bits.deBruijn32tab",Rows.laid_math_bits_deBruijn32tab),("math/bits.deBruijn64tab",Rows.laid_math_bits_deBruijn64tab),("internal/strconv.uint64pow10",Rows.laid_internal_strconv_uint64pow10),("strconv.ErrRange",Rows.laid_strconv_ErrRange),("strconv.ErrSyntax",Rows.laid_strconv_ErrSyntax),("treemerge/grammar.shapes",Rows.laid_treemerge_grammar_shapes)] W):∀g β n,GV W (· < W.heap.size) β n g (G g):=by
 rw [MakeChecks.laidMetH_plain _ _ _ (by kernel_rfl)] at hL
 have h3:=hL.tail.tail
 have hS:=h3.tail.tail.tail
 intro g β n
 unfold G
 by_cases g0:g=0
 ·rw [if_pos g0]
  subst g0
  obtain ⟨ps,⟨g0,t0,cs0,f0,p0,q0,hg0,ht0,hv0,hd0,_,_⟩,_,_⟩:=hS
  obtain rfl:=Option.some.inj (qzn.symm.trans hg0)
  obtain rfl:=Option.some.inj (q25.symm.trans ht0)
  obtain ⟨l,hl,⟨ds,hds,hE⟩,hR⟩:=qtx (P:=Tryz.prog) Tryz.underlying167 (by kernel_rfl) qok q02 qzn hv0 hd0
  obtain ⟨_,_,_,_,hlen,_⟩:=DataW.trod_array Tryz.underlying167 hd0
  have e1:=qzv qqn (fun _ _ _ h=>h) hE
  have e3:ds=dA (Rows.laid_treemerge_grammar_shapes:DataW _root_.Unit):=by
   have:(DataW.agg ds:DataW _root_.Unit)=Rows.laid_treemerge_grammar_shapes:=hds.symm
   rw [←this];rfl
  rw [e3,←qr0] at e1
  refine ⟨by rw [←e1];exact hR β n,fun _=> ?_⟩
  have h162:(shapes.map Shape.cells).flatten.length=Tryz.prog.cellsOf 167:=by kernel_rfl
  unfold World.var? at hv0
  rw [qzn,Option.bind_some] at hv0
  cases hb:W.heap[0]? with
  | none=>rw [hb] at hv0;cases hv0
  | some o=>
    rw [hb] at hv0
    cases o with
    | cells c t fr=>
      simp only [Option.some.injEq] at hv0
      subst hv0
      refine ⟨t,?_⟩
      unfold World.shape?
      rw [hb]
      show some (t,c.size)=_
      rw [h162,←hlen,Array.length_toList]
    | _=>cases hv0
 rw [if_neg g0]
 by_cases g1:g=2
 ·rw [if_pos g1]
  subst g1
  exact qzk (ti:=90) h3.tail.tail (by kernel_rfl) (by kernel_rfl) Tryz.underlying90 β n
 rw [if_neg g1]
 by_cases g2:g=3
 ·rw [if_pos g2]
  subst g2
  exact qzk (ti:=90) h3.tail (by kernel_rfl) (by kernel_rfl) Tryz.underlying90 β n
 rw [if_neg g2]
 by_cases g3:g=4
 ·rw [if_pos g3]
  subst g3
  rw [qyw] at h3
  have hg:Tryz.prog.globalNamed "internal/strconv.uint64pow10" =some 4:=by kernel_rfl
  have ht:=Lib.tabIs_of_head (t:=213) (e:=186) (n:=20) hg (by kernel_rfl) Tryz.underlying213 Tryz.underlying186 (by kernel_rfl) (by kernel_rfl) h3
  refine q2c hg ht (by simp) (fun i x hx=> ?_) β n
  rw [List.getElem?_map] at hx
  obtain ⟨z,hz,rfl⟩:=Option.map_eq_some_iff.1 hx
  refine ⟨rfl, .int .u64 z,?_,fun _=> .int _ _⟩
  rw [List.getElem?_toArray,List.getElem?_map,hz];rfl
 rw [if_neg g3]
 exact q24 β n g
theorem q2s (n:Nat):Rd Tryz.prog (n+1) 48 Unit.cells (fun u=>Wf u.Tree) (fun _ _=>True):=by
 have h:=qbi (P:=Tryz.prog) Tryz.underlying48 (by kernel_rfl) (Zx (sz:=1) rfl (by kernel_rfl) (Wl Tryz.underlying9 n) (Zx (sz:=1) rfl (by kernel_rfl) (Wl Tryz.underlying9 n)
  (Zx (sz:=4) rfl (by kernel_rfl) (rdNode n) (qjp (sz:=1) rfl (by kernel_rfl) (q00 Tryz.underlying4 n)))))
 refine qgb h (fun x=>Unit.mk x.1 x.2.1 x.2.2.1 x.2.2.2) (fun x=> ?_) (fun x hx=> ?_) (fun _ _ _ _=>trivial)
 ·rw [Node.cells_eq];rfl
 obtain ⟨_,_,h3,_⟩:=hx;exact h3
theorem rdUnits (n:Nat):Rd Tryz.prog n 25 (fun l:List Unit=> [.sl 7 false (l.map Unit.cells)]) (fun l=>∀u∈l,Wf u.Tree) (fun _ _=>True):=
 qu8 (q2r (qfg (sz:=7) Tryz.underlying25 (by kernel_rfl) (by decide) (fun _=>rfl) (q2s n)) (fun _ h=>h.2) (fun _ _ _ _=>trivial)) (Nat.le_succ n)
theorem q3u (n:Nat):Rd Tryz.prog (n+1) 32 Ref.cells (fun _=>True) (fun _ _=>True):=by
 have h:=qbi (P:=Tryz.prog) Tryz.underlying32 (by kernel_rfl) (Zx (sz:=1) rfl (by kernel_rfl) (qfh Tryz.underlying3 n) (qjp (sz:=1) rfl (by kernel_rfl) (qfh Tryz.underlying3 n)))
 exact qgb h (fun x=>Ref.mk x.1 x.2) (fun x=>rfl) (fun _ _=>trivial) (fun _ _ _ _=>trivial)
theorem rdDecl (n:Nat):Rd Tryz.prog n 34 Decl.cells (fun _=>True) (fun _ _=>True):=by
 have h:=qbi (P:=Tryz.prog) (n:=n) Tryz.underlying34 (by kernel_rfl) (Zx (sz:=1) rfl (by kernel_rfl) (qfh Tryz.underlying3 n) (Zx (sz:=1) rfl (by kernel_rfl) (Wl Tryz.underlying9 n)
  (Zx (sz:=1) rfl (by kernel_rfl) (Wl Tryz.underlying9 n) (qjp (sz:=2) rfl (by kernel_rfl) (qu8 (q3u n) (Nat.le_succ n))))))
 exact qu8 (qgb h (fun x=>Decl.mk x.1 x.2.1 x.2.2.1 x.2.2.2) (fun x=>rfl) (fun _ _=>trivial) (fun _ _ _ _=>trivial)) (Nat.le_succ n)
theorem rc_sl {w:World} {x:AV} {v:Value} (h:RC w [x] [v]):∀β n,RV w (· < w.heap.size) β n x v:=fun β n=>by
 obtain ⟨_,v',hv,hR⟩:=h.2 0 x rfl
 simp only [List.getElem?_cons_zero,Option.some.injEq] at hv
 subst hv
 exact hR β n
theorem L11_ProjectDecls (a0:List Unit) (_:∀u∈a0,Wf u.Tree) (a1:Decl):qag a0 a1 true:=qf0 a0 a1 true (Pj.L11_Decls a0 a1)
end Go.Proofs.YtpnkemogepoioaaGreatDoorW.Ex.Gr
