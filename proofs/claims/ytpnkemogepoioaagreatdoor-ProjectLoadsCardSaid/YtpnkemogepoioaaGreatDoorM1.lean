/- Contracts by hand: a map literal, a copied list of strings, the parts of a path. Conditions: those in each theorem. Contract by hand: a copied list of strings. Conditions: those in each theorem. -/
import Derived.Test.YtpnkemogepoioaaGreatDoorSb
import Derived.Test.YtpnkemogepoioaaGreatDoorExZ
import Derived.Laws.CopyRow
import Derived.WideMake
import Derived.Laws.CopyOwn
namespace Go.Proofs.YtpnkemogepoioaaGreatDoorW.Ex.Gr
open Go Go.Proofs.YtpnkemogepoioaaGreatDoorW.Ex Go.RowKit Go.Proofs.YtpnkemogepoioaaGreatDoorW.Plain
set_option linter.all false
set_option maxRecDepth 100000
variable {G:Nat→List AV}
def mw (w:World) (es:Array MapEntry) (c:Nat):World:={w with heap:=w.heap.push (.map es c)}
theorem q75 (w:World) (es:Array MapEntry) (c:Nat):(mw w es c).heap[w.heap.size]? =some (.map es c):=by
 show (w.heap.push _)[w.heap.size]? =_
 rw [Array.getElem?_push,if_pos rfl]
theorem q32 {α:Type} (a:Array α) (x y:α):(a.push x).setIfInBounds a.size y=a.push y:=by
 apply Array.ext
 ·simp
 intro i h1 h2
 rw [Array.getElem_setIfInBounds (by simpa using h1),Array.getElem_push]
 rw [Array.getElem_push]
 simp only [B3,Array.size_push] at h1
 split
 ·rename_i h;subst h;rw [dif_neg (Nat.lt_irrefl _)]
 rw [dif_pos (by omega),dif_pos (by omega)]
theorem q8q (w:World):(Instr.makeMap 63 none).run Tryz.prog w= .ok (.map (some w.heap.size)) (mw w #[] 0):=rfl
theorem qkn (w:World) (es:Array MapEntry) (c:Nat) (a:Int) (v:Value) (hn:Instr.findNow (.int .i64) (.int .i64 a) es.toList 0=some none):
 (Instr.mapUpdate 63 (.map (some w.heap.size)) (.int .i64 a) v).run Tryz.prog (mw w es c)= .ok () (mw w (es.push ⟨.int .i64 a,v,c⟩) (c+1)):=by
 have hm:Tryz.prog.underlying 63=some (.map 3 3):=by kernel_rfl
 have hk:Tryz.prog.underlying 3=some (.int .i64):=by kernel_rfl
 have hb:=q75 w es c
 have hc:(Instr.checkKey false 10000 3 (.int .i64 a)).run Tryz.prog (mw w es c)= .ok () (mw w es c):=MapKept.run_checkKey (k:= .int .i64 a) hk (by simp [MapKept.IsKey]) false 9999
 have he:({mw w es c with heap:=(mw w es c).heap.setIfInBounds w.heap.size (.map (es.push ⟨.int .i64 a,v,c⟩) (c+1))}:World)=mw w (es.push ⟨.int .i64 a,v,c⟩) (c+1):=by
  simp only [mw,q32]
 simp [Instr.mapUpdate,run_underlying hm,MapKept.run_getObj_map hb,hc,MapKept.run_findKey hk hn,MapKept.run_setObj_map _ hb,Result.andThen,he]
def vf:List (Int × Int):= [(2,1),(7,2),(9,3),(4,5),(10,6)]
def q4n:Array MapEntry:= #[⟨.int .i64 2, .int .i64 1,0⟩,⟨.int .i64 7, .int .i64 2,1⟩,⟨.int .i64 9, .int .i64 3,2⟩,⟨.int .i64 4, .int .i64 5,3⟩,⟨.int .i64 10, .int .i64 6,4⟩]
theorem qwi (w:World):Calls Tryz.prog 34 #[] w fun e w'=>e= .returned (.map (some w.heap.size))∧w'=mw w q4n 5:=by
 have hmk:=q8q w
 have h0:=qkn w #[] 0 2 (.int .i64 1) rfl
 simp only [Cb,AJ,AQ] at h0
 have h1:=qkn w #[⟨.int .i64 2, .int .i64 1,0⟩] 1 7 (.int .i64 2) rfl
 simp only [Cb,AJ,AQ] at h1
 have h2:=qkn w #[⟨.int .i64 2, .int .i64 1,0⟩,⟨.int .i64 7, .int .i64 2,1⟩] 2 9 (.int .i64 3) rfl
 simp only [Cb,AJ,AQ] at h2
 have h3:=qkn w #[⟨.int .i64 2, .int .i64 1,0⟩,⟨.int .i64 7, .int .i64 2,1⟩,⟨.int .i64 9, .int .i64 3,2⟩] 3 4 (.int .i64 5) rfl
 simp only [Cb,AJ,AQ] at h3
 have h4:=qkn w #[⟨.int .i64 2, .int .i64 1,0⟩,⟨.int .i64 7, .int .i64 2,1⟩,⟨.int .i64 9, .int .i64 3,2⟩,⟨.int .i64 4, .int .i64 5,3⟩] 4 10 (.int .i64 6) rfl
 simp only [Cb,AJ,AQ] at h4
 go_enter Tryz.func34,Tryz.ntmps34
 go_wp2
 go_ret
 exact ⟨rfl,rfl⟩
theorem qrc:Fn Tryz.prog G 34 [] (.mp .i64 .i64 vf):=
 qlu (fun vs w=>by simp) fun w S β n vs hv=>by
  have e:vs= #[]:=by have:=hv.1;simpa using this
  rw [e]
  refine (qwi w).mono ?_
  rintro e w' ⟨rfl,rfl⟩
  refine ⟨⟨_,rfl,fun S' β' n' hS=> .mp _ _ _ w.heap.size 5 q4n (hS _ (Aj _) (by show _ < (w.heap.push _).size;rw [Array.size_push];omega)) (q75 _ _ _) rfl⟩,?_⟩
  exact (Below.refl _ w).alloc (Aj _) _
def qcv:Option (List (Int × Int)):=some vf
end Go.Proofs.YtpnkemogepoioaaGreatDoorW.Ex.Gr

namespace Go.Proofs.YtpnkemogepoioaaGreatDoorW.Ex.Gr
open Go Go.Proofs.YtpnkemogepoioaaGreatDoorW.Ex Go.RowKit Go.Proofs.YtpnkemogepoioaaGreatDoorW.Plain
set_option linter.all false
set_option maxRecDepth 100000
variable {G:Nat→List AV}
theorem q5s (b o j:Nat):(⟨b,o,none⟩:Addr).add j=⟨b,o+j,none⟩:=by
 unfold Addr.add
 split
 ·rename_i h;subst h;rfl
 rfl
theorem qvq (w:World) (A:Option Addr) (cap:Nat):Calls Tryz.prog 91 #[.slice A 0 cap] w fun e w'=>e= .returned (.slice none 0 0)∧w'=w:=by
 go_enter Tryz.func91,Tryz.ntmps91
 go_wp2
 go_ret
 exact ⟨rfl,rfl⟩
def txW (w:World) (l:List ByteArray):World:=(w.alloc (.cells (madeCells #[.string ⟨#[]⟩] l.length) 9)).setRow w.heap.size (l.map Value.string).toArray
theorem qx0 (l:List ByteArray) (w:World) (b o:Nat) (cap:Nat) (h0:0 < l.length) (hb:l.length*16≤281474976710656)
 (hsrc:∀(j:Nat) (v:Value),(l.map Value.string)[j]? =some v→w.cell? ⟨b,o+j,none⟩=some v) (ha:b < w.heap.size):
 Calls Tryz.prog 91 #[.slice (some ⟨b,o,none⟩) l.length cap] w fun e w'=>e= .returned (.slice (some ⟨w.heap.size,0,none⟩) l.length l.length)∧w'=txW w l:=by
 have hinfo:(Tryz.prog.info? 9).map (fun i=>(i.zero,i.size,i.bytes))=some (some (.string ⟨#[]⟩),1,16):=by kernel_rfl
 have hu:Tryz.prog.underlying 42=some (.slice 9):=by kernel_rfl
 have hmk:(Instr.makeSlice 42 (.int .i64 l.length) (.int .i64 l.length)).run Tryz.prog w= .ok (.slice (some ⟨w.heap.size,0,none⟩) l.length l.length) (w.alloc (.cells (madeCells #[.string ⟨#[]⟩] l.length) 9)):=by
  cases hi:Tryz.prog.info? 9 with
  | none=>simp [hi] at hinfo
  | some i=>
    simp only [hi,Ba,Ab,Al] at hinfo
    obtain ⟨h1,h2,h3⟩:=hinfo
    have:=run_make (P:=Tryz.prog) w 42 9 i _ hu hi h1 .i64 .i64 (l.length:Int) (l.length:Int) (by omega) (Int.le_refl _) (by rw [h3];omega) (by omega)
    simpa [h2,show (Value.string ⟨#[]⟩).cells= #[Value.string ⟨#[]⟩] from rfl] using this
 have hne:¬((l.length:Int)=0):=by omega
 have hne2:((l.length:Int)==0)=false:=by rw [beq_eq_false_iff_ne];omega
 have hcp:∀ty,(Builtin.copy_ #[42,42] ty #[.slice (some ⟨w.heap.size,0,none⟩) l.length l.length, .slice (some ⟨b,o,none⟩) l.length cap]).run Tryz.prog (w.alloc (.cells (madeCells #[.string ⟨#[]⟩] l.length) 9))=
  .ok (goInt l.length) (txW w l):=by
  intro ty
  have h1:(w.alloc (.cells (madeCells #[.string ⟨#[]⟩] l.length) 9)).heap[w.heap.size]? =some (.cells (madeCells #[.string ⟨#[]⟩] l.length) 9 (0,0)):=heap_alloc_new w _
  have:=run_copy_row Tryz.prog (w.alloc (.cells (madeCells #[.string ⟨#[]⟩] l.length) 9)) 42 42 ty 9 w.heap.size 0 l.length l.length ⟨b,o,none⟩ l.length cap _ 9 (l.map Value.string) hu (by
   cases hi:Tryz.prog.info? 9 with
   | none=>simp [hi] at hinfo
   | some i=>simp [hi] at hinfo;simp [hinfo.2.1]) h1 (by simp) (fun j v hv=>by
     rw [q5s,←hsrc j v hv]
     exact qit (heap_alloc_old w _ (show _ < w.heap.size from ha))) (by simp [madeCells]) (by simp [Value.oneCell'])
  rw [this]
  have hd:List.drop (0+(l.map Value.string).length) (madeCells #[.string ⟨#[]⟩] l.length).toList= []:=by
   rw [List.drop_eq_nil_iff];simp [madeCells]
  rw [As] at hd ⊢
  rw [hd,List.take_zero,AQ,Az]
  rfl
 go_enter Tryz.func91,Tryz.ntmps91
 go_wp2
 go_ret
 exact ⟨rfl,rfl⟩
theorem q8n (w:World) (l:List ByteArray):(txW w l).heap[w.heap.size]? =some (.cells (l.map Value.string).toArray 9 (0,0)):=setRow_heap _ _ _ _ _ _ (heap_alloc_new w _)
theorem q1m (w:World) (l:List ByteArray):Below w.heap.size w (txW w l):=below_setRow ((Below.refl _ w).alloc (Aj _) _) (Aj _) _
theorem qxz (l:List ByteArray) (hb:l.length*16≤281474976710656):Fn Tryz.prog G 91 [.sl 1 false (l.map sc)] (.sl 1 false (l.map sc)):=
 qlu (fun vs w=>by simp) fun w S β n vs hv=>by
  obtain ⟨hs,hr⟩:=hv
  have h:=hr 0 _ rfl
  have e:vs= #[vs.getD 0 Go.undef]:=by
   apply Array.ext
   ·simpa using hs
   intro i h3 h4
   have hi:i < 1:=by simpa using h4
   obtain rfl:i=0:=by omega
   simp [Ag,h3]
  generalize vs.getD 0 Go.undef=v at h e
  subst e
  cases h with
  | sl _ _ _ A cap u hl hm hf hA hA1 hS hsz h1 hc hrr hV=>
    rw [As] at hl ⊢
    cases l with
    | nil=>
      refine (qvq w A cap).mono ?_
      rintro e w' ⟨rfl,rfl⟩
      exact ⟨⟨_,rfl,fun S' β' n' _=>RV.nilSl _ _⟩,Below.refl _ _⟩
    | cons s0 l0=>
      have hne:(s0::l0).map sc≠ []:=by simp
      obtain ⟨a,rfl⟩:=BE.1 (hA1 hne)
      obtain ⟨b,o,sp⟩:=a
      obtain rfl:sp=none:=hA hne _ rfl
      have hcell:∀(j:Nat) (v:Value),((s0::l0).map Value.string)[j]? =some v→w.cell? ⟨b,o+j,none⟩=some v:=by
       intro j v hj
       rw [Av,Am] at hj
       obtain ⟨s,hs1,rfl⟩:=hj
       have h2:=hc b o rfl j (sc s) 0 (.str s) (by rw [Av,hs1];rfl) rfl
       have h3:=hrr j (sc s) 0 (.str s) (by rw [Av,hs1];rfl) rfl
       cases h3':u j 0 with
       | string q=>rw [h3'] at h3;cases h3;rw [h3',Nat.mul_one,BJ] at h2;exact h2
       | _=>rw [h3'] at h3;cases h3
      have hblt:b < w.heap.size:=by
       have h2:=hcell 0 _ rfl
       simp only [World.cell?] at h2
       rcases Br b w.heap.size with h | h
       ·exact h
       rw [BN h] at h2;cases h2
      refine (qx0 (s0::l0) w b o cap (by simp) hb hcell hblt).mono ?_
      rintro e w' ⟨rfl,rfl⟩
      refine ⟨⟨_,rfl,fun S' β' n' hS'=> ?_⟩,q1m w _⟩
      have hnew:=q8n w (s0::l0)
      have hw:=RV.sl (w:=txW w (s0::l0)) (S:=S') (β:=β') (n:=n') 1 false ((s0::l0).map sc) (some ⟨w.heap.size,0,none⟩) (s0::l0).length (fun j _=>((s0::l0).map Value.string).getD j Go.undef)
       (by simp) (by omega) (fun h=>by cases h) (fun _ a ha=>by cases ha;rfl) (fun _=>rfl) (fun b o h _=>by cases h;exact hS' _ (Aj _) (by rw [show (txW w (s0::l0)).heap.size=(w.alloc (.cells (madeCells #[.string ⟨#[]⟩] (s0::l0).length) 9)).heap.size from setRow_size _ _ _];show _ < (w.heap.push _).size;rw [Array.size_push];omega)) (fun c hc=>by obtain ⟨s,_,rfl⟩:=BG.1 hc;rfl)
       (fun c hc x hx=>by obtain ⟨s,_,rfl⟩:=BG.1 hc;simp only [sc,AO] at hx;subst hx;rfl)
       (fun b o h j c i x hj hi=>by
         cases h
         rw [Av,Am] at hj
         obtain ⟨s,hs1,rfl⟩:=hj
         have hi0:i=0:=by
          have:=(Ah.1 hi).1
          simp only [sc,Ai] at this
          omega
         subst hi0
         have e2:((s0::l0).map Value.string)[j]? =some (.string s):=by rw [Av,hs1];rfl
         rw [Nat.mul_one,BJ,AN]
         simp only [World.cell?,hnew,Option.isSome_none,AA,if_false,Cc,e2,Ax,Bo])
       (fun j c i x hj hi=>by
         rw [Av,Am] at hj
         obtain ⟨s,hs1,rfl⟩:=hj
         have hi0:i=0:=by
          have:=(Ah.1 hi).1
          simp only [sc,Ai] at this
          omega
         subst hi0
         simp only [sc,Aq,Ab] at hi
         subst hi
         rw [Ax,Av,hs1]
         exact .str s)
       (fun h=>by cases h)
      rw [As] at hw
      exact hw
end Go.Proofs.YtpnkemogepoioaaGreatDoorW.Ex.Gr
