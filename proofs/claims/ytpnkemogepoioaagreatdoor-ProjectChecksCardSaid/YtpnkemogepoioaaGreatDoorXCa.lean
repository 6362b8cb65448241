/- The functions of the program's layer 9 and of its references, printed as functions on numbers, strings, lists and trees, with the proofs that they are what the code computes. Conditions: those in each theorem. -/
import Derived.Test.YtpnkemogepoioaaGreatDoorGh
import Derived.Test.YtpnkemogepoioaaGreatDoorYa
import Derived.Test.YtpnkemogepoioaaGreatDoorExZ
import Derived.Test.YtpnkemogepoioaaGreatDoorExF
import Derived.Test.YtpnkemogepoioaaGreatDoorT8
import Derived.Test.YtpnkemogepoioaaGreatDoorT0
import Derived.Test.YtpnkemogepoioaaGreatDoorM1
import Derived.Test.YtpnkemogepoioaaGreatDoorM2
namespace Go.Proofs.YtpnkemogepoioaaGreatDoorW.Ex.Gr
open Go Go.Proofs.YtpnkemogepoioaaGreatDoorW.Ex
set_option linter.all false
set_option maxRecDepth 100000
set_option synthInstance.maxSize 4000
set_option maxHeartbeats 4000000
open Go.Proofs.YtpnkemogepoioaaGreatDoorW.Plain
structure Token where
 Kind:Int
 Lead:ByteArray
 Text:ByteArray
 At:Int
def Token.cells (x:Token):List AV:= [(.int .i64 x.Kind),(.str x.Lead),(.str x.Text),(.int .i64 x.At)]
theorem Wj:CellsOk Token.cells 4:=⟨fun _=>rfl,by decide,fun a z hz=>by
 simp only [Token.cells,AQ,BH,or_false] at hz
 rcases hz with rfl | rfl | rfl | rfl <;> exact ⟨rfl,rfl⟩⟩
structure Reader where
 l_:(List Token)
 at_:Int
def Reader.cells (x:Reader):List AV:= [(.sl 4 false (x.l_.map Token.cells)),(.int .i64 x.at_)]
structure Row where
 Parent:Int
 Kind:Int
 Text:ByteArray
 Gaps:(List ByteArray)
 Kids:(List Int)
def Row.cells (x:Row):List AV:= [(.int .i64 x.Parent),(.int .i64 x.Kind),(.str x.Text),(.sl 1 false (x.Gaps.map sc)),(.sl 1 false (x.Kids.map ic))]
theorem Zy:CellsOk Row.cells 5:=⟨fun _=>rfl,by decide,fun a z hz=>by
 simp only [Row.cells,AQ,BH,or_false] at hz
 rcases hz with rfl | rfl | rfl | rfl | rfl <;> exact ⟨rfl,rfl⟩⟩
structure File where
 Path:ByteArray
 Text:ByteArray
def File.cells (x:File):List AV:= [(.str x.Path),(.str x.Text)]
theorem qgk:CellsOk File.cells 2:=⟨fun _=>rfl,by decide,fun a z hz=>by
 simp only [File.cells,AQ,BH,or_false] at hz
 rcases hz with rfl | rfl <;> exact ⟨rfl,rfl⟩⟩
structure Unit where
 Path:ByteArray
 Text:ByteArray
 Tree:Node
 Broken:Bool
def Unit.cells (x:Unit):List AV:= [(.str x.Path),(.str x.Text),(.int .i64 x.Tree.kind),(.str x.Tree.text),(.sl 1 false (x.Tree.gaps.map sc)),(.sl 4 false (x.Tree.kids.map Node.cells)),(.bool x.Broken)]
theorem qas:CellsOk Unit.cells 7:=⟨fun _=>rfl,by decide,fun a z hz=>by
 simp only [Unit.cells,AQ,BH,or_false] at hz
 rcases hz with rfl | rfl | rfl | rfl | rfl | rfl | rfl <;> exact ⟨rfl,rfl⟩⟩
structure Ref where
 Unit:Int
 Node:Int
structure Decl where
 Kind:Int
 Owner:ByteArray
 Name:ByteArray
 At:Ref
def Decl.cells (x:Decl):List AV:= [(.int .i64 x.Kind),(.str x.Owner),(.str x.Name),(.int .i64 x.At.Unit),(.int .i64 x.At.Node)]
theorem qad:CellsOk Decl.cells 5:=⟨fun _=>rfl,by decide,fun a z hz=>by
 simp only [Decl.cells,AQ,BH,or_false] at hz
 rcases hz with rfl | rfl | rfl | rfl | rfl <;> exact ⟨rfl,rfl⟩⟩
@[reducible] def PC0 {R:Type} (M:R→Prop) (F:Option R):Prop:=∀r,F=some r→M r
@[reducible] def PC1 {A0 R:Type} (M:A0→R→Prop) (F:A0→Option R):Prop:=∀a0 r,F a0=some r→M a0 r
@[reducible] def PC2 {A0 A1 R:Type} (M:A0→A1→R→Prop) (F:A0→A1→Option R):Prop:=∀a0 a1 r,F a0 a1=some r→M a0 a1 r
@[reducible] def PC3 {A0 A1 A2 R:Type} (M:A0→A1→A2→R→Prop) (F:A0→A1→A2→Option R):Prop:=∀a0 a1 a2 r,F a0 a1 a2=some r→M a0 a1 a2 r
@[reducible] def PC4 {A0 A1 A2 A3 R:Type} (M:A0→A1→A2→A3→R→Prop) (F:A0→A1→A2→A3→Option R):Prop:=∀a0 a1 a2 a3 r,F a0 a1 a2 a3=some r→M a0 a1 a2 a3 r
@[reducible] def PC5 {A0 A1 A2 A3 A4 R:Type} (M:A0→A1→A2→A3→A4→R→Prop) (F:A0→A1→A2→A3→A4→Option R):Prop:=∀a0 a1 a2 a3 a4 r,F a0 a1 a2 a3 a4=some r→M a0 a1 a2 a3 a4 r
@[reducible] def PC6 {A0 A1 A2 A3 A4 A5 R:Type} (M:A0→A1→A2→A3→A4→A5→R→Prop) (F:A0→A1→A2→A3→A4→A5→Option R):Prop:=∀a0 a1 a2 a3 a4 a5 r,F a0 a1 a2 a3 a4 a5=some r→M a0 a1 a2 a3 a4 a5 r
@[reducible] def PC7 {A0 A1 A2 A3 A4 A5 A6 R:Type} (M:A0→A1→A2→A3→A4→A5→A6→R→Prop) (F:A0→A1→A2→A3→A4→A5→A6→Option R):Prop:=∀a0 a1 a2 a3 a4 a5 a6 r,F a0 a1 a2 a3 a4 a5 a6=some r→M a0 a1 a2 a3 a4 a5 a6 r
@[reducible] def PC8 {A0 A1 A2 A3 A4 A5 A6 A7 R:Type} (M:A0→A1→A2→A3→A4→A5→A6→A7→R→Prop) (F:A0→A1→A2→A3→A4→A5→A6→A7→Option R):Prop:=∀a0 a1 a2 a3 a4 a5 a6 a7 r,F a0 a1 a2 a3 a4 a5 a6 a7=some r→M a0 a1 a2 a3 a4 a5 a6 a7 r
@[reducible] def PC9 {A0 A1 A2 A3 A4 A5 A6 A7 A8 R:Type} (M:A0→A1→A2→A3→A4→A5→A6→A7→A8→R→Prop) (F:A0→A1→A2→A3→A4→A5→A6→A7→A8→Option R):Prop:=∀a0 a1 a2 a3 a4 a5 a6 a7 a8 r,F a0 a1 a2 a3 a4 a5 a6 a7 a8=some r→M a0 a1 a2 a3 a4 a5 a6 a7 a8 r
@[reducible] def PC11 {A0 A1 A2 A3 A4 A5 A6 A7 A8 A9 A10 R:Type} (M:A0→A1→A2→A3→A4→A5→A6→A7→A8→A9→A10→R→Prop) (F:A0→A1→A2→A3→A4→A5→A6→A7→A8→A9→A10→Option R):Prop:=∀a0 a1 a2 a3 a4 a5 a6 a7 a8 a9 a10 r,F a0 a1 a2 a3 a4 a5 a6 a7 a8 a9 a10=some r→M a0 a1 a2 a3 a4 a5 a6 a7 a8 a9 a10 r
theorem Node.cells_eq (n:Node):n.cells=zl n:=Go.Proofs.YtpnkemogepoioaaGreatDoorW.Ex.Gr.cells_eq n
theorem Node.cells_len (n:Node):n.cells.length=4:=by rw [Node.cells_eq];rfl
theorem zo:CellsOk Node.cells 4:=⟨Node.cells_len,by decide,fun n z hz=>by
 rw [Node.cells_eq] at hz
 simp only [AQ,BH,or_false] at hz
 rcases hz with rfl | rfl | rfl | rfl <;> exact ⟨rfl,rfl⟩⟩
mutual
def wfB:Node→Bool
 | .mk _ t g l=>decide (l.length≤9223372036854775807) && decide (g.length≤9223372036854775807) && decide (t.size≤9223372036854775807) && g.all (fun s=>decide (s.size≤9223372036854775807)) && wfBL l
def wfBL:List Node→Bool
 | []=>true
 | n::l=>wfB n && wfBL l
end
mutual
theorem q0j:∀n:Node,wfB n=true→Wf n
 | .mk k t g l,h=>by
   simp only [wfB,An,decide_eq_true_eq,As] at h
   exact .mk _ h.1.1.1.1 h.1.1.1.2 h.1.1.2 h.1.2 (q1v l h.2)
theorem q1v:∀l:List Node,wfBL l=true→∀m∈l,Wf m
 | [],_,m,hm=>by cases hm
 | n::l,h,m,hm=>by
   simp only [wfBL,An] at h
   rcases AQ.1 hm with e | hm
   ·rw [e];exact q0j n h.1
   exact q1v l h.2 m hm
end
def J3 (n:Node):Option Int:=if wfB n=true then some (checkErr n) else none
theorem qoc (n:Node) (r:Int) (h:J3 n=some r):Fn Tryz.prog G 44 [.agg (zl n)] (.int .i64 r):=by
 unfold J3 at h
 split at h
 ·rename_i hc;cases h;exact qtk n (q0j n hc)
 cases h
def qi0 (n:Node):Option Int:=if wfB n=true then some (checkErr n) else none
theorem qxc (n:Node) (r:Int) (h:qi0 n=some r):Fn Tryz.prog G 64 [.agg (zl n)] (.int .i64 r):=by
 unfold qi0 at h
 split at h
 ·rename_i hc;cases h;exact q7y n (q0j n hc)
 cases h
def kh (s:ByteArray) (c:Int):Option Int:=some (Lib.indexByte s.data.toList c.toNat.toUInt8)
theorem wa (s:ByteArray) (c:Int) (r:Int) (h:kh s c=some r):Fn Tryz.prog G 147 [.str s, .int .u8 c] (.int .i64 r):=by
 cases h;exact qf5 s c
def qab (s:ByteArray) (a:Int):Option Int:=if s.size≤9223372036854775807 then some (qj6 s a) else none
theorem qs5 (s:ByteArray) (a:Int) (r:Int) (h:qab s a=some r):Fn Tryz.prog G 119 [.str s, .int .i64 a] (.int .i64 r):=by
 unfold qab at h
 split at h
 ·rename_i hc;cases h;exact qq6 s a hc
 cases h
def qay (s:ByteArray):Option Bool:=if s.size≤281474976710656 then some (qbm s.data.toList) else none
theorem qoa (s:ByteArray) (r:Bool) (h:qay s=some r):Fn Tryz.prog G 152 [.str s] (.bool r):=by
 unfold qay at h
 split at h
 ·rename_i hc;cases h;exact qtf s hc
 cases h
def qh2 (s:ByteArray) (a:Int):Option Int:=if s.size≤9223372036854775807 then some (qj6 s a) else none
theorem q1q (s:ByteArray) (a:Int) (r:Int) (h:qh2 s a=some r):Fn Tryz.prog G 133 [.str s, .int .i64 a] (.int .i64 r):=by
 unfold qh2 at h
 split at h
 ·rename_i hc;cases h;exact q7z s a hc
 cases h
def qcf (s:ByteArray):Option Bool:=some (Q8 s.data.toList)
theorem qkk (s:ByteArray) (r:Bool) (h:qcf s=some r):Fn Tryz.prog G 143 [.str s] (.bool r):=by
 cases h;exact qru s
def qmr (s:ByteArray):Option Bool:=some (Q8 s.data.toList)
theorem qxe (s:ByteArray) (r:Bool) (h:qmr s=some r):Fn Tryz.prog G 160 [.str s] (.bool r):=by
 cases h;exact qkd s
theorem qob (r:List (Int × Int)) (h:qej=some r):Fn Tryz.prog G 34 [] (.mp .i64 .i64 r):=by cases h;exact qti
def qkm (s:ByteArray):Option Bool:=some (qg4 s.data.toList)
theorem qt0 (s:ByteArray) (r:Bool) (h:qkm s=some r):Fn Tryz.prog G 56 [.str s] (.bool r):=by
 cases h;exact q4f s
def Q3 (l:List ByteArray):Option (List ByteArray):=if l.length*16≤281474976710656 then some l else none
theorem qkj (l:List ByteArray) (r:(List ByteArray)) (h:Q3 l=some r):Fn Tryz.prog G 91 [.sl 1 false (l.map sc)] (.sl 1 false (r.map sc)):=by
 unfold Q3 at h
 split at h
 ·rename_i hc;cases h;exact q0m l hc
 cases h
def flt (e:Int):List PanicEntry:= [{v:= .iface 127 (.int .i64 e),recovered:=false}]
abbrev LB:=List ByteArray
abbrev LN:=List Node
section
variable {ps:List (Nat × AV)} {k:List Item} {kn:List Nat} {fr fr':FT} {n n' N p m m' r n2:Nat} {objs objs' objs2 O O':Objs} {Q:Exit→Fr→Hp→Prop} {ρ:Nat→Nat}
theorem kr (bars:List Nat) {c:Cfg} (hc:Ok Tryz.prog G tt N p Q c) (h:runK tt G bars 2000 ps k kn fr n objs=some c:=by exact rfl):Ok Tryz.prog G tt N p Q (.go ps k kn fr n objs):=q9q env bars h hc
theorem kf {rs:List ResultVar} {y:AV} (hk:qlg k=true:=by exact rfl) (h:qm2 tt fr objs rs qlf=some y:=by exact rfl):Ok Tryz.prog G tt N p (Ret Tryz.prog rs (fun z H=>Told Tryz.prog G H z y)) (.fin .ret k fr n objs):=zb env hk h (qz rfl)
theorem lN:leC ρ m [] []:=qet
theorem lS {v u:AV} {vs us:List AV} (hs:leC ρ m vs us) (h:v=u.ren1 ρ:=by exact rfl) (hu:u.un1 m=true:=by exact rfl):leC ρ m (v::vs) (u::us):=q6t h hu hs
theorem sV {i s':Nat} {e:TypeId} {cs cs':List AV} {l:List (Option Nat)} (hc:leC ρ m cs cs') (h:qck ρ m objs l O') (ho:objs[i]? =some (ρ s', .var e cs):=by exact rfl) (hb:Nat.blt s' m=true:=by exact rfl):qck ρ m objs (some i::l) ((s', .var e cs')::O'):=q36 ho hb hc h
theorem sR {α:Type} {C:α→List AV} {sz i s':Nat} {e:TypeId} {x:List α} {l:List (Option Nat)} (hC:CellsOk C sz) (h:qck ρ m objs l O') (ho:objs[i]? =some (ρ s', .row e (x.map C).flatten):=by exact rfl) (hb:Nat.blt s' m=true:=by exact rfl):qck ρ m objs (some i::l) ((s', .row e (x.map C).flatten)::O'):=q37 hC ho hb h
theorem tS {x y:AV} (sel:List (Option Nat)) (ho:qck (rhoS objs sel O') m' objs sel O') (hx:resT objs' (rhoS objs sel O') m' y x) (hd:qnc (sel.filterMap id) 0 objs some=some objs':=by exact rfl) (hn:qr5 sel=true:=by exact rfl) (hid:(List.range m).all (fun s=>Nat.beq (rhoS objs sel O' s) s)=true:=by exact rfl) (hle:Nat.ble m m'=true:=by exact rfl):Qq Tryz.prog G m ⟨n,objs⟩ y x ⟨m',O'⟩:=q0n sel hd hn hid hle ho hx
theorem lA (hf:leFT (rho objs' objs) n' fr fr':=by first | (simp [Reader.cells] <;> (repeat' apply Bz) <;> first | rfl | exact .inl ⟨rfl,rfl⟩ | exact qet | exact fun x a _ h=>(zo.all a x h).2 | exact fun x a _ h=>(qpn.all a x h).2 | exact fun x a _ h=>(yx.all a x h).2 | exact fun x a _ h=>(qek.all a x h).2 | exact fun x a _ h=>(Wj.all a x h).2 | exact fun x a _ h=>(Zy.all a x h).2 | exact fun x a _ h=>(qad.all a x h).2 | exact fun x a _ h=>(qas.all a x h).2 | exact fun x a _ h=>(qgk.all a x h).2) | (simp [Reader.cells,Token.cells] <;> (repeat' apply Bz) <;> first | rfl | exact .inl ⟨rfl,rfl⟩ | exact qet | exact fun x a _ h=>(zo.all a x h).2 | exact fun x a _ h=>(qpn.all a x h).2 | exact fun x a _ h=>(yx.all a x h).2 | exact fun x a _ h=>(qek.all a x h).2 | exact fun x a _ h=>(Wj.all a x h).2 | exact fun x a _ h=>(Zy.all a x h).2 | exact fun x a _ h=>(qad.all a x h).2 | exact fun x a _ h=>(qas.all a x h).2 | exact fun x a _ h=>(qgk.all a x h).2)) (ho:leOs (rho objs' objs) n' objs objs':=by first | (simp [Reader.cells] <;> (repeat' apply Bz) <;> first | rfl | exact .inl ⟨rfl,rfl⟩ | exact qet | exact fun x a _ h=>(zo.all a x h).2 | exact fun x a _ h=>(qpn.all a x h).2 | exact fun x a _ h=>(yx.all a x h).2 | exact fun x a _ h=>(qek.all a x h).2 | exact fun x a _ h=>(Wj.all a x h).2 | exact fun x a _ h=>(Zy.all a x h).2 | exact fun x a _ h=>(qad.all a x h).2 | exact fun x a _ h=>(qas.all a x h).2 | exact fun x a _ h=>(qgk.all a x h).2) | (simp [Reader.cells,Token.cells] <;> (repeat' apply Bz) <;> first | rfl | exact .inl ⟨rfl,rfl⟩ | exact qet | exact fun x a _ h=>(zo.all a x h).2 | exact fun x a _ h=>(qpn.all a x h).2 | exact fun x a _ h=>(yx.all a x h).2 | exact fun x a _ h=>(qek.all a x h).2 | exact fun x a _ h=>(Wj.all a x h).2 | exact fun x a _ h=>(Zy.all a x h).2 | exact fun x a _ h=>(qad.all a x h).2 | exact fun x a _ h=>(qas.all a x h).2 | exact fun x a _ h=>(qgk.all a x h).2)):Less G N 0 (frT fr) ⟨n,objs⟩ (frT fr') ⟨n',objs'⟩:=qf9 hf ho
theorem lQ (hf:leFT (rho objs' objs) n' fr fr':=by first | (simp [Reader.cells] <;> (repeat' apply Bz) <;> first | rfl | exact .inl ⟨rfl,rfl⟩ | exact qet | exact fun x a _ h=>(zo.all a x h).2 | exact fun x a _ h=>(qpn.all a x h).2 | exact fun x a _ h=>(yx.all a x h).2 | exact fun x a _ h=>(qek.all a x h).2 | exact fun x a _ h=>(Wj.all a x h).2 | exact fun x a _ h=>(Zy.all a x h).2 | exact fun x a _ h=>(qad.all a x h).2 | exact fun x a _ h=>(qas.all a x h).2 | exact fun x a _ h=>(qgk.all a x h).2) | (simp [Reader.cells,Token.cells] <;> (repeat' apply Bz) <;> first | rfl | exact .inl ⟨rfl,rfl⟩ | exact qet | exact fun x a _ h=>(zo.all a x h).2 | exact fun x a _ h=>(qpn.all a x h).2 | exact fun x a _ h=>(yx.all a x h).2 | exact fun x a _ h=>(qek.all a x h).2 | exact fun x a _ h=>(Wj.all a x h).2 | exact fun x a _ h=>(Zy.all a x h).2 | exact fun x a _ h=>(qad.all a x h).2 | exact fun x a _ h=>(qas.all a x h).2 | exact fun x a _ h=>(qgk.all a x h).2)) (ho:leOs (rho objs' objs) n' objs objs':=by first | (simp [Reader.cells] <;> (repeat' apply Bz) <;> first | rfl | exact .inl ⟨rfl,rfl⟩ | exact qet | exact fun x a _ h=>(zo.all a x h).2 | exact fun x a _ h=>(qpn.all a x h).2 | exact fun x a _ h=>(yx.all a x h).2 | exact fun x a _ h=>(qek.all a x h).2 | exact fun x a _ h=>(Wj.all a x h).2 | exact fun x a _ h=>(Zy.all a x h).2 | exact fun x a _ h=>(qad.all a x h).2 | exact fun x a _ h=>(qas.all a x h).2 | exact fun x a _ h=>(qgk.all a x h).2) | (simp [Reader.cells,Token.cells] <;> (repeat' apply Bz) <;> first | rfl | exact .inl ⟨rfl,rfl⟩ | exact qet | exact fun x a _ h=>(zo.all a x h).2 | exact fun x a _ h=>(qpn.all a x h).2 | exact fun x a _ h=>(yx.all a x h).2 | exact fun x a _ h=>(qek.all a x h).2 | exact fun x a _ h=>(Wj.all a x h).2 | exact fun x a _ h=>(Zy.all a x h).2 | exact fun x a _ h=>(qad.all a x h).2 | exact fun x a _ h=>(qas.all a x h).2 | exact fun x a _ h=>(qgk.all a x h).2)) (hid:∀s,s < p→rho objs' objs s=s:=by exact q07 rfl) (hp:p≤n':=by exact Ap rfl):Less G N p (frT fr) ⟨n,objs⟩ (frT fr') ⟨n',objs'⟩:=q6q hid hp hf ho
theorem AC.g9 {f:FuncId} {xs xs0:List AV} {x y:AV} (h:AC Tryz.prog G f xs0 r O x m' O') (ids st:List Nat) (hnd:decide ids.Nodup=true:=by exact rfl) (hids:ids.length=O.length:=by exact rfl) (hst:st.length=r:=by exact rfl) (hstn:st.all (fun s=>Nat.blt s n)=true:=by exact rfl)
 (hxs:xs0.map (AV.mv (fun j=>ids.getD j 0) (fun s=>st.getD s 0))=xs:=by exact rfl) (hg:qin ids objs=some (O.map fun q=>(st.getD q.1 0,q.2.mvR (fun j=>ids.getD j 0) (fun s=>st.getD s 0))):=by exact rfl)
 (hy:qmc (x.mv (fun j=>ids.getD j 0) (qf7 (fun s=>st.getD s 0) r n)) some=some y:=by exact rfl) (hs:qm0 ids (O'.map fun q=>(qf7 (fun s=>st.getD s 0) r n q.1,q.2.mvR (fun j=>ids.getD j 0) (qf7 (fun s=>st.getD s 0) r n))) objs some=some objs2:=by exact rfl) (hn:qaf (n+(m' - r)) some=some n2:=by exact rfl):ACalls Tryz.prog G f xs ⟨n,objs⟩ y ⟨n2,objs2⟩:=AC.go h ids st hnd hids hst hstn hxs hg hy hs hn
end
def Zd (t0:(List File)) (t3:Int) (t4:Int):Option Bool:=
 if (decide (t4 < ((t0.map File.cells).length:Int)))=true then
  ix t0 t4 >>=fun x1=>
  if (decide (t3 < (x1.Path.size:Int)))=true then
   some false
  else
   ix t0 t4 >>=fun x2=>
   if (decide (t3 < (x2.Text.size:Int)))=true then
    some false
   else
    ix t0 t4 >>=fun x3=>
    ix t0 t4 >>=fun x4=>
    if (decide ((IntKind.i64.wrap (t3 - (x3.Path.size:Int))) < (x4.Text.size:Int)))=true then
     some false
    else
     ix t0 t4 >>=fun x5=>
     Zd (qa t0) (IntKind.i64.wrap ((IntKind.i64.wrap (t3 - (x3.Path.size:Int))) - (x5.Text.size:Int))) (IntKind.i64.wrap (t4+(1:Int)))
 else
  some true
 partial_fixpoint
@[reducible] def qhs (t0:(List File)) (t3:Int) (t4:Int) (r:Bool):Prop:=
  Ok Tryz.prog G tt 56 0 (Ret Tryz.prog [.tmp 2] (fun y H=>Told Tryz.prog G H y (.bool r))) (.again (je [] Tryz.f8 0).1 (je [] Tryz.f8 0).2 (.n (.sl 2 false (t0.map File.cells)) (.n .undef (.n (.int .i64 t3) .z .z) .z) (.n .undef (.n (.int .i64 t4) .z .z) .z)) 0 [])
theorem qda:PC3 qhs Zd:=by
 refine Zd.partial_correctness qhs (fun Zd qda t0 t3 t4 r h=> ?_)
 unfold qa at h
 refine jm ?_
 refine kr [] ?_
 refine qd (fun hb=> ?_) (fun hb=> ?_)
 ·replace h:=qu hb h
  refine kr [] ?_
  obtain ⟨x1,hx,h⟩:=bind_some h
  refine ja env hx rfl rfl rfl rfl rfl ?_
  refine kr [] ?_
  refine qw (fun hb=> ?_) (fun hb=> ?_)
  ·replace h:=qv hb h
   refine kr [] ?_
   obtain ⟨x2,hx,h⟩:=bind_some h
   refine ja env hx rfl rfl rfl rfl rfl ?_
   refine kr [] ?_
   refine qd (fun hb=> ?_) (fun hb=> ?_)
   ·replace h:=qu hb h
    refine kr [] ?_
    cases h
    exact kf
   replace h:=qv hb h
   refine kr [] ?_
   obtain ⟨x3,hx,h⟩:=bind_some h
   refine ja env hx rfl rfl rfl rfl rfl ?_
   refine kr [] ?_
   obtain ⟨x4,hx,h⟩:=bind_some h
   refine ja env hx rfl rfl rfl rfl rfl ?_
   refine kr [] ?_
   refine qd (fun hb=> ?_) (fun hb=> ?_)
   ·replace h:=qu hb h
    refine kr [] ?_
    cases h
    exact kf
   replace h:=qv hb h
   refine kr [] ?_
   obtain ⟨x5,hx,h⟩:=bind_some h
   refine ja env hx rfl rfl rfl rfl rfl ?_
   refine kr [] ?_
   exact zx (by kernel_rfl) lA (qda _ _ _ _ h)
  replace h:=qu hb h
  refine kr [] ?_
  cases h
  exact kf
 replace h:=qv hb h
 refine kr [] ?_
 cases h
 exact kf
def qd1 (a0:(List File)):Option Bool:=
 if (decide ((40:Int) < ((a0.map File.cells).length:Int)))=true then
  some false
 else
  Zd a0 (3000:Int) (0:Int)
@[reducible] def qtx (a0:(List File)) (r:Bool):Prop:=
  Fn Tryz.prog G 8 [(.sl 2 false (a0.map File.cells))] (.bool r)
theorem qt6:PC1 qtx qd1:=fun a0 r h=>by
 rw [qd1.eq_def] at h
 refine zg (T:=tt) (N:=56) (rs:= [.tmp 2]) (fun vs w=>by simp) Tryz.func8 rfl rfl rfl rfl (by kernel_rfl) (z7 rfl) (ze _ rfl) ?_
 refine kr [] ?_
 refine qd (fun hb=> ?_) (fun hb=> ?_)
 ·replace h:=qu hb h
  refine kr [] ?_
  cases h
  exact kf
 replace h:=qv hb h
 refine kr [] ?_
 exact jb (by kernel_rfl) lA (qda _ _ _ _ h)
mutual
def u4 (t0:BA) (t3:Int) (t4:Int):Option Bool:=
 if (decide (t4≤(t0.size:Int)))=true then
  if (decide (t4 < (t0.size:Int)))=true then
   sx t0 t4 >>=fun x1=>
   if (!decide (x1=(47:Int)))=true then
    Qa (qa t0) (qa t3) (qa t4)
   else
    Zt (qa t0) (qa t3) (qa t4)
  else
   Zt (qa t0) (qa t3) (qa t4)
 else
  some true
 partial_fixpoint
def Qa (t0:BA) (t3:Int) (t4:Int):Option Bool:=
 u4 (qa t0) (qa t3) (IntKind.i64.wrap (t4+(1:Int)))
 partial_fixpoint
def Zt (t0:BA) (t3:Int) (t4:Int):Option Bool:=
 ssub t0 t3 t4 >>=fun x2=>
 qkm (qa x2) >>=fun x3=>
 if (!x3)=true then
  some false
 else
  Qa (qa t0) (IntKind.i64.wrap (t4+(1:Int))) (qa t4)
 partial_fixpoint
end
@[reducible] def qcy (t0:BA) (t3:Int) (t4:Int) (r:Bool):Prop:=
  Ok Tryz.prog G tt 36 0 (Ret Tryz.prog [.tmp 2] (fun y H=>Told Tryz.prog G H y (.bool r))) (.again (je [1000001,27] Tryz.f31 0).1 (je [1000001,27] Tryz.f31 0).2 (.n (.str t0) (.n .undef (.n (.int .i64 t3) .z .z) .z) (.n .undef (.n (.int .i64 t4) .z .z) .z)) 0 [])
@[reducible] def qcz (t0:BA) (t3:Int) (t4:Int) (r:Bool):Prop:=
  Ok Tryz.prog G tt 36 0 (Ret Tryz.prog [.tmp 2] (fun y H=>Told Tryz.prog G H y (.bool r))) (.go [] (qb0 [1000001,27] Tryz.f31 1) [] (.n (.str t0) (.n .undef (.n (.int .i64 t3) .z .z) .z) (.n .undef (.n (.int .i64 t4) .z .z) .z)) 0 [])
@[reducible] def qb3 (t0:BA) (t3:Int) (t4:Int) (r:Bool):Prop:=
  Ok Tryz.prog G tt 36 0 (Ret Tryz.prog [.tmp 2] (fun y H=>Told Tryz.prog G H y (.bool r))) (.go [] (vf [1000001,27] Tryz.f31 27) [] (.n (.str t0) (.n .undef (.n (.int .i64 t3) .z .z) .z) (.n .undef (.n (.int .i64 t4) .z .z) .z)) 0 [])
theorem qa7:PC3 qcy u4∧PC3 qb3 Zt∧PC3 qcz Qa:=by
 refine u4.mutual_partial_correctness qcy qb3 qcz (fun Zt Qa qb7 W8 t0 t3 t4 r h=> ?_) (fun Qa W8 t0 t3 t4 r h=> ?_) (fun u4 qc4 t0 t3 t4 r h=> ?_)
 ·unfold qa at h
  refine jm ?_
  refine kr [1000001,27] ?_
  refine qd (fun hb=> ?_) (fun hb=> ?_)
  ·replace h:=qu hb h
   refine kr [1000001,27] ?_
   refine qq (fun hb=> ?_) (fun hb=> ?_)
   ·replace h:=qu hb h
    refine kr [1000001,27] ?_
    obtain ⟨x1,hx,h⟩:=bind_some h
    refine Zz env hx rfl rfl rfl rfl ?_
    refine kr [1000001,27] ?_
    refine qd (fun hb=> ?_) (fun hb=> ?_)
    ·replace h:=qu hb h
     refine kr [1000001,27] ?_
     exact q6 (by kernel_rfl) rfl lA (W8 _ _ _ _ h)
    replace h:=qv hb h
    refine kr [1000001,27] ?_
    exact q6 (by kernel_rfl) rfl lA (qb7 _ _ _ _ h)
   replace h:=qv hb h
   refine kr [1000001,27] ?_
   exact q6 (by kernel_rfl) rfl lA (qb7 _ _ _ _ h)
  replace h:=qv hb h
  refine kr [1000001,27] ?_
  cases h
  exact kf
 ·unfold qa at h
  refine kr [1000001,27] ?_
  obtain ⟨x2,hx,h⟩:=bind_some h
  refine Yw env hx rfl rfl rfl rfl rfl ?_
  refine kr [1000001,27] ?_
  obtain ⟨x3,hx,h⟩:=bind_some h
  refine qk (qt0 _ _ hx) ?_
  refine kr [1000001,27] ?_
  refine qd (fun hb=> ?_) (fun hb=> ?_)
  ·replace h:=qu hb h
   refine kr [1000001,27] ?_
   cases h
   exact kf
  replace h:=qv hb h
  refine kr [1000001,27] ?_
  exact q6 (by kernel_rfl) rfl lA (W8 _ _ _ _ h)
 unfold qa at h
 refine kr [1000001,27] ?_
 exact zx (by kernel_rfl) lA (qc4 _ _ _ _ h)
theorem qc4:PC3 qcy u4:=qa7.1
theorem qb7:PC3 qb3 Zt:=qa7.2.1
theorem W8:PC3 qcz Qa:=qa7.2.2
def qdw (a0:BA):Option Bool:=
 if (decide (a0=(⟨#[]⟩:BA)))=true then
  some false
 else
  if (decide ((64:Int) < (a0.size:Int)))=true then
   some false
  else
   u4 a0 (0:Int) (0:Int)
@[reducible] def qtp (a0:BA) (r:Bool):Prop:=
  Fn Tryz.prog G 31 [(.str a0)] (.bool r)
theorem qt1:PC1 qtp qdw:=fun a0 r h=>by
 rw [qdw.eq_def] at h
 refine zg (T:=tt) (N:=36) (rs:= [.tmp 2]) (fun vs w=>by simp) Tryz.func31 rfl rfl rfl rfl (by kernel_rfl) (z7 rfl) (ze _ rfl) ?_
 refine kr [1000001,27] ?_
 refine qw (fun hb=> ?_) (fun hb=> ?_)
 ·replace h:=qv hb h
  refine kr [1000001,27] ?_
  refine qd (fun hb=> ?_) (fun hb=> ?_)
  ·replace h:=qu hb h
   refine kr [1000001,27] ?_
   cases h
   exact kf
  replace h:=qv hb h
  refine kr [1000001,27] ?_
  exact jb (by kernel_rfl) lA (qc4 _ _ _ _ h)
 replace h:=qu hb h
 refine kr [1000001,27] ?_
 cases h
 exact kf
def kz (a0:(List File)):Option Int:=
 match a0 with
 | []=>
   some (0:Int)
 | x_0::a0=>
   if (decide ((65536:Int) < (x_0.Text.size:Int)))=true then
    some (3:Int)
   else
    kz (qa a0)
 partial_fixpoint
@[reducible] def qdq (a0:(List File)) (r:Int):Prop:=
  ∀(l0:List File) (j0:Nat),l0.drop j0=a0→j0≤l0.length→l0.length≤9223372036854775807→Ok Tryz.prog G tt 55 0 (Ret Tryz.prog [.tmp 2] (fun y H=>Told Tryz.prog G H y (.int .i64 r))) (.again (je [42] Tryz.f12 2).1 (je [42] Tryz.f12 2).2 (.n .undef (.n .undef .z (.n .undef .z (.n .undef .z (.n .undef (.n (.int .i64 ((l0.map File.cells).length:Int)) .z .z) .z)))) (.n .undef (.n .undef .z (.n .undef .z (.n .undef (.n (.sl 2 false (l0.map File.cells)) .z .z) .z))) (.n .undef .z (.n .undef .z (.n .undef (.n (.int .i64 ((j0:Nat):Int)) .z .z) .z))))) 0 [])
theorem Wr:PC1 qdq kz:=by
 refine kz.partial_correctness qdq (fun kz Wr a0 r h=> ?_)
 unfold qa at h
 intro l0 j0 hl0 hj0 hm0
 refine jm ?_
 cases a0 with
 | nil=>
   have hb:=W0 (C:=File.cells) hl0 hj0
   refine kr [42] ?_
   refine qo hb ?_
   refine kr [42] ?_
   cases h
   exact kf
 | cons x_0 a0=>
   obtain ⟨hb,hx0,hd0,hk0,hw0⟩:=Y7 (C:=File.cells) hl0 hm0
   refine kr [42] ?_
   refine qn hb ?_
   refine kr [42] ?_
   refine Y5 env rfl rfl rfl rfl (m:=j0) rfl (qdj hx0 rfl) ?_
   refine kr [42] ?_
   refine qd (fun hb=> ?_) (fun hb=> ?_)
   ·replace h:=qu hb h
    refine kr [42] ?_
    cases h
    exact kf
   replace h:=qv hb h
   refine kr [42] ?_
   exact zx (by kernel_rfl) (qf9 (by simp only [hw0];simp <;> (repeat' apply Bz) <;> first | rfl) (by simp <;> (repeat' apply Bz) <;> first | rfl)) (Wr _ _ h l0 (j0+1) hd0 hk0 hm0)
mutual
def yk (a0:(List File)) (j0:Nat) (t0:(List File)):Option Int:=
 match a0 with
 | []=>
   kz (qa t0)
 | x_0::a0=>
   if (decide ((0:Int) < ((j0:Nat):Int)))=true then
    ix t0 ((j0:Nat):Int) >>=fun x2=>
    ix t0 (IntKind.i64.wrap (((j0:Nat):Int) - (1:Int))) >>=fun x3=>
    if (Op.bytesLess x2.Path.toList x3.Path.toList || decide (x2.Path=x3.Path))=true then
     some (14:Int)
    else
     uy (qa a0) (qa j0) (qa t0)
   else
    uy (qa a0) (qa j0) (qa t0)
 partial_fixpoint
def uy (a0:(List File)) (j0:Nat) (t0:(List File)):Option Int:=
 yk (qa a0) (j0+1) (qa t0)
 partial_fixpoint
end
@[reducible] def Wp (a0:(List File)) (j0:Nat) (t0:(List File)) (r:Int):Prop:=
  ∀(l0:List File),l0.drop j0=a0→j0≤l0.length→l0.length≤9223372036854775807→Ok Tryz.prog G tt 55 0 (Ret Tryz.prog [.tmp 2] (fun y H=>Told Tryz.prog G H y (.int .i64 r))) (.again (je [42] Tryz.f12 1).1 (je [42] Tryz.f12 1).2 (.n (.sl 2 false (t0.map File.cells)) (.n .undef (.n .undef (.n .undef .z (.n (.int .i64 ((l0.map File.cells).length:Int)) .z .z)) .z) .z) (.n .undef (.n .undef (.n .undef .z (.n (.int .i64 ((j0:Nat):Int)) .z .z)) .z) (.n .undef .z (.n .undef (.n (.sl 2 false (l0.map File.cells)) .z .z) .z)))) 0 [])
@[reducible] def K4 (a0:(List File)) (j0:Nat) (t0:(List File)) (r:Int):Prop:=
  ∀(l0:List File),l0.drop (j0+1)=a0→j0+1≤l0.length→l0.length≤9223372036854775807→Ok Tryz.prog G tt 55 0 (Ret Tryz.prog [.tmp 2] (fun y H=>Told Tryz.prog G H y (.int .i64 r))) (.go [] (vf [42] Tryz.f12 42) [] (.n (.sl 2 false (t0.map File.cells)) (.n .undef (.n .undef (.n .undef .z (.n (.int .i64 ((l0.map File.cells).length:Int)) .z .z)) .z) .z) (.n .undef (.n .undef (.n .undef .z (.n (.int .i64 ((j0:Nat):Int)) .z .z)) .z) (.n .undef .z (.n .undef (.n (.sl 2 false (l0.map File.cells)) .z .z) .z)))) 0 [])
theorem qcj:PC3 Wp yk∧PC3 K4 uy:=by
 refine yk.mutual_partial_correctness Wp K4 (fun uy K7 a0 j0 t0 r h=> ?_) (fun yk Wt a0 j0 t0 r h=> ?_)
 ·unfold qa at h
  intro l0 hl0 hj0 hm0
  refine jm ?_
  cases a0 with
  | nil=>
    have hb:=W0 (C:=File.cells) hl0 hj0
    refine kr [42] ?_
    refine qo hb ?_
    refine kr [42] ?_
    refine qev 44 rfl (fun hm=> ?_)
    exact jb (by kernel_rfl) lA (Wr _ _ h t0 0 rfl (Az _) (Y9 hm))
  | cons x_0 a0=>
    obtain ⟨hb,hx0,hd0,hk0,hw0⟩:=Y7 (C:=File.cells) hl0 hm0
    refine kr [42] ?_
    refine qn hb ?_
    refine kr [42] ?_
    refine qq (fun hb=> ?_) (fun hb=> ?_)
    ·replace h:=qu hb h
     refine kr [42] ?_
     obtain ⟨x2,hx,h⟩:=bind_some h
     refine ja env hx rfl rfl rfl rfl rfl ?_
     refine kr [42] ?_
     obtain ⟨x3,hx,h⟩:=bind_some h
     refine ja env hx rfl rfl rfl rfl rfl ?_
     refine kr [42] ?_
     refine qd (fun hb=> ?_) (fun hb=> ?_)
     ·replace h:=qu hb h
      refine kr [42] ?_
      cases h
      exact kf
     replace h:=qv hb h
     refine kr [42] ?_
     exact q6 (by kernel_rfl) rfl lA (K7 _ _ _ _ h l0 hd0 hk0 hm0)
    replace h:=qv hb h
    refine kr [42] ?_
    exact q6 (by kernel_rfl) rfl lA (K7 _ _ _ _ h l0 hd0 hk0 hm0)
 unfold qa at h
 intro l0 hd0 hk0 hm0
 have hw0:=qdd hk0 hm0
 refine kr [42] ?_
 exact zx (by kernel_rfl) (qf9 (by simp only [hw0];simp <;> (repeat' apply Bz) <;> first | rfl) (by simp <;> (repeat' apply Bz) <;> first | rfl)) (Wt _ _ _ _ h l0 hd0 hk0 hm0)
theorem Wt:PC3 Wp yk:=qcj.1
theorem K7:PC3 K4 uy:=qcj.2
def uf (a0:(List File)) (t0:(List File)):Option Int:=
 match a0 with
 | []=>
   yk (qa t0) 0 (qa t0)
 | x_0::a0=>
   qdw x_0.Path >>=fun x1=>
   if (!x1)=true then
    some (4:Int)
   else
    uf (qa a0) (qa t0)
 partial_fixpoint
@[reducible] def qdr (a0:(List File)) (t0:(List File)) (r:Int):Prop:=
  ∀(l0:List File) (j0:Nat),l0.drop j0=a0→j0≤l0.length→l0.length≤9223372036854775807→Ok Tryz.prog G tt 55 0 (Ret Tryz.prog [.tmp 2] (fun y H=>Told Tryz.prog G H y (.int .i64 r))) (.again (je [42] Tryz.f12 0).1 (je [42] Tryz.f12 0).2 (.n (.sl 2 false (t0.map File.cells)) (.n .undef (.n .undef .z (.n (.sl 2 false (l0.map File.cells)) .z .z)) (.n .undef .z (.n (.int .i64 ((j0:Nat):Int)) .z .z))) (.n .undef (.n .undef .z (.n (.int .i64 ((l0.map File.cells).length:Int)) .z .z)) .z)) 0 [])
theorem Wu:PC2 qdr uf:=by
 refine uf.partial_correctness qdr (fun uf Wu a0 t0 r h=> ?_)
 unfold qa at h
 intro l0 j0 hl0 hj0 hm0
 refine jm ?_
 cases a0 with
 | nil=>
   have hb:=W0 (C:=File.cells) hl0 hj0
   refine kr [42] ?_
   refine qo hb ?_
   refine kr [42] ?_
   refine qev 22 rfl (fun hm=> ?_)
   exact jb (by kernel_rfl) lA (Wt _ _ _ _ h t0 rfl (Az _) (Y9 hm))
 | cons x_0 a0=>
   obtain ⟨hb,hx0,hd0,hk0,hw0⟩:=Y7 (C:=File.cells) hl0 hm0
   refine kr [42] ?_
   refine qn hb ?_
   refine kr [42] ?_
   refine Y5 env rfl rfl rfl rfl (m:=j0) rfl (qdj hx0 rfl) ?_
   refine kr [42] ?_
   obtain ⟨x1,hx,h⟩:=bind_some h
   refine qk (qt1 _ _ hx) ?_
   refine kr [42] ?_
   refine qd (fun hb=> ?_) (fun hb=> ?_)
   ·replace h:=qu hb h
    refine kr [42] ?_
    cases h
    exact kf
   replace h:=qv hb h
   refine kr [42] ?_
   exact zx (by kernel_rfl) (qf9 (by simp only [hw0];simp <;> (repeat' apply Bz) <;> first | rfl) (by simp <;> (repeat' apply Bz) <;> first | rfl)) (Wu _ _ _ h l0 (j0+1) hd0 hk0 hm0)
def Zs (a0:(List File)):Option Int:=
 if (decide ((32:Int) < ((a0.map File.cells).length:Int)))=true then
  some (3:Int)
 else
  uf a0 a0
@[reducible] def qn7 (a0:(List File)) (r:Int):Prop:=
  Fn Tryz.prog G 12 [(.sl 2 false (a0.map File.cells))] (.int .i64 r)
theorem qb6:PC1 qn7 Zs:=fun a0 r h=>by
 rw [Zs.eq_def] at h
 refine zg (T:=tt) (N:=55) (rs:= [.tmp 2]) (fun vs w=>by simp) Tryz.func12 rfl rfl rfl rfl (by kernel_rfl) (z7 rfl) (ze _ rfl) ?_
 refine kr [42] ?_
 refine qd (fun hb=> ?_) (fun hb=> ?_)
 ·replace h:=qu hb h
  refine kr [42] ?_
  cases h
  exact kf
 replace h:=qv hb h
 refine kr [42] ?_
 refine qev 11 rfl (fun hm=> ?_)
 exact jb (by kernel_rfl) lA (Wu _ _ _ h a0 0 rfl (Az _) (Y9 hm))
def w7 (a0:BA) (a1:BA):Option Bool:=
 if (decide ((a1.size:Int)≤(a0.size:Int)))=true then
  ssub a0 (0:Int) (a1.size:Int) >>=fun x1=>
  some (decide (x1=a1))
 else
  some false
@[reducible] def qa1 (a0:BA) (a1:BA) (r:Bool):Prop:=
  Fn Tryz.prog G 72 [(.str a0),(.str a1)] (.bool r)
theorem qa5:PC2 qa1 w7:=fun a0 a1 r h=>by
 rw [w7.eq_def] at h
 refine zg (T:=tt) (N:=18) (rs:= [.tmp 4]) (fun vs w=>by simp) Tryz.func72 rfl rfl rfl rfl (by kernel_rfl) (z7 rfl) (ze _ rfl) ?_
 refine kr [] ?_
 refine qq (fun hb=> ?_) (fun hb=> ?_)
 ·replace h:=qu hb h
  refine kr [] ?_
  obtain ⟨x1,hx,h⟩:=bind_some h
  refine Yw env hx rfl rfl rfl rfl rfl ?_
  refine kr [] ?_
  cases h
  exact kf
 replace h:=qv hb h
 refine kr [] ?_
 cases h
 exact kf
def Qh (a0:BA) (a1:BA):Option Bool:=
 w7 a0 a1 >>=fun x1=>
 some x1
@[reducible] def qjf (a0:BA) (a1:BA) (r:Bool):Prop:=
  Fn Tryz.prog G 47 [(.str a0),(.str a1)] (.bool r)
theorem qcn:PC2 qjf Qh:=fun a0 a1 r h=>by
 rw [Qh.eq_def] at h
 refine zg (T:=tt) (N:=8) (rs:= [.tmp 4]) (fun vs w=>by simp) Tryz.func47 rfl rfl rfl rfl (by kernel_rfl) (z7 rfl) (ze _ rfl) ?_
 refine kr [] ?_
 obtain ⟨x1,hx,h⟩:=bind_some h
 refine qk (qa5 _ _ _ hx) ?_
 refine kr [] ?_
 cases h
 exact kf
def kq  :Option Int:=
 some (0:Int)
@[reducible] def qmq  (r:Int):Prop:=
  Ok Tryz.prog G tt 29 0 (Ret Tryz.prog [.tmp 2] (fun y H=>Told Tryz.prog G H y (.int .i64 r))) (.go [] (vf [3] Tryz.f112 3) [] .z 0 [])
theorem uc:PC0 qmq kq:=fun  r h=>by
 rw [kq.eq_def] at h
 refine kr [3] ?_
 cases h
 exact kf
def Yl (a0:Int):Option Int:=
 if (decide ((48:Int)≤a0))=true then
  if (decide (a0≤(57:Int)))=true then
   some (1:Int)
  else
   if (decide ((97:Int)≤a0))=true then
    if (decide (a0≤(122:Int)))=true then
     some (2:Int)
    else
     if (decide ((65:Int)≤a0))=true then
      if (decide (a0≤(90:Int)))=true then
       some (2:Int)
      else
       if (decide (a0=(95:Int)))=true then
        some (2:Int)
       else
        kh (⟨#[40,41,123,125,44,59,58,46,61,60,43,45,42,47,33,38,124]⟩:BA) a0 >>=fun x1=>
        if (decide ((0:Int)≤x1))=true then
         some (3:Int)
        else
         kq 
     else
      if (decide (a0=(95:Int)))=true then
       some (2:Int)
      else
       kh (⟨#[40,41,123,125,44,59,58,46,61,60,43,45,42,47,33,38,124]⟩:BA) a0 >>=fun x2=>
       if (decide ((0:Int)≤x2))=true then
        some (3:Int)
       else
        kq 
   else
    if (decide ((65:Int)≤a0))=true then
     if (decide (a0≤(90:Int)))=true then
      some (2:Int)
     else
      if (decide (a0=(95:Int)))=true then
       some (2:Int)
      else
       kh (⟨#[40,41,123,125,44,59,58,46,61,60,43,45,42,47,33,38,124]⟩:BA) a0 >>=fun x3=>
       if (decide ((0:Int)≤x3))=true then
        some (3:Int)
       else
        kq 
    else
     if (decide (a0=(95:Int)))=true then
      some (2:Int)
     else
      kh (⟨#[40,41,123,125,44,59,58,46,61,60,43,45,42,47,33,38,124]⟩:BA) a0 >>=fun x4=>
      if (decide ((0:Int)≤x4))=true then
       some (3:Int)
      else
       kq 
 else
  if (decide ((97:Int)≤a0))=true then
   if (decide (a0≤(122:Int)))=true then
    some (2:Int)
   else
    if (decide ((65:Int)≤a0))=true then
     if (decide (a0≤(90:Int)))=true then
      some (2:Int)
     else
      if (decide (a0=(95:Int)))=true then
       some (2:Int)
      else
       kh (⟨#[40,41,123,125,44,59,58,46,61,60,43,45,42,47,33,38,124]⟩:BA) a0 >>=fun x5=>
       if (decide ((0:Int)≤x5))=true then
        some (3:Int)
       else
        kq 
    else
     if (decide (a0=(95:Int)))=true then
      some (2:Int)
     else
      kh (⟨#[40,41,123,125,44,59,58,46,61,60,43,45,42,47,33,38,124]⟩:BA) a0 >>=fun x6=>
      if (decide ((0:Int)≤x6))=true then
       some (3:Int)
      else
       kq 
  else
   if (decide ((65:Int)≤a0))=true then
    if (decide (a0≤(90:Int)))=true then
     some (2:Int)
    else
     if (decide (a0=(95:Int)))=true then
      some (2:Int)
     else
      kh (⟨#[40,41,123,125,44,59,58,46,61,60,43,45,42,47,33,38,124]⟩:BA) a0 >>=fun x7=>
      if (decide ((0:Int)≤x7))=true then
       some (3:Int)
      else
       kq 
   else
    if (decide (a0=(95:Int)))=true then
     some (2:Int)
    else
     kh (⟨#[40,41,123,125,44,59,58,46,61,60,43,45,42,47,33,38,124]⟩:BA) a0 >>=fun x8=>
     if (decide ((0:Int)≤x8))=true then
      some (3:Int)
     else
      kq 
@[reducible] def qpy (a0:Int) (r:Int):Prop:=
  Fn Tryz.prog G 112 [(.int .u8 a0)] (.int .i64 r)
theorem qee:PC1 qpy Yl:=fun a0 r h=>by
 rw [Yl.eq_def] at h
 refine zg (T:=tt) (N:=29) (rs:= [.tmp 2]) (fun vs w=>by simp) Tryz.func112 rfl rfl rfl rfl (by kernel_rfl) (z7 rfl) (ze _ rfl) ?_
 refine kr [3] ?_
 refine qq (fun hb=> ?_) (fun hb=> ?_)
 ·replace h:=qu hb h
  refine kr [3] ?_
  refine qd (fun hb=> ?_) (fun hb=> ?_)
  ·replace h:=qu hb h
   refine kr [3] ?_
   cases h
   exact kf
  replace h:=qv hb h
  refine kr [3] ?_
  refine qq (fun hb=> ?_) (fun hb=> ?_)
  ·replace h:=qu hb h
   refine kr [3] ?_
   refine qd (fun hb=> ?_) (fun hb=> ?_)
   ·replace h:=qu hb h
    refine kr [3] ?_
    cases h
    exact kf
   replace h:=qv hb h
   refine kr [3] ?_
   refine qq (fun hb=> ?_) (fun hb=> ?_)
   ·replace h:=qu hb h
    refine kr [3] ?_
    refine qd (fun hb=> ?_) (fun hb=> ?_)
    ·replace h:=qu hb h
     refine kr [3] ?_
     cases h
     exact kf
    replace h:=qv hb h
    refine kr [3] ?_
    refine qd (fun hb=> ?_) (fun hb=> ?_)
    ·replace h:=qu hb h
     refine kr [3] ?_
     cases h
     exact kf
    replace h:=qv hb h
    refine kr [3] ?_
    obtain ⟨x1,hx,h⟩:=bind_some h
    refine qk (wa _ _ _ hx) ?_
    refine kr [3] ?_
    refine qd (fun hb=> ?_) (fun hb=> ?_)
    ·replace h:=qu hb h
     refine kr [3] ?_
     cases h
     exact kf
    replace h:=qv hb h
    refine kr [3] ?_
    exact q6 (by kernel_rfl) rfl lA (uc _ h)
   replace h:=qv hb h
   refine kr [3] ?_
   refine qd (fun hb=> ?_) (fun hb=> ?_)
   ·replace h:=qu hb h
    refine kr [3] ?_
    cases h
    exact kf
   replace h:=qv hb h
   refine kr [3] ?_
   obtain ⟨x2,hx,h⟩:=bind_some h
   refine qk (wa _ _ _ hx) ?_
   refine kr [3] ?_
   refine qd (fun hb=> ?_) (fun hb=> ?_)
   ·replace h:=qu hb h
    refine kr [3] ?_
    cases h
    exact kf
   replace h:=qv hb h
   refine kr [3] ?_
   exact q6 (by kernel_rfl) rfl lA (uc _ h)
  replace h:=qv hb h
  refine kr [3] ?_
  refine qq (fun hb=> ?_) (fun hb=> ?_)
  ·replace h:=qu hb h
   refine kr [3] ?_
   refine qd (fun hb=> ?_) (fun hb=> ?_)
   ·replace h:=qu hb h
    refine kr [3] ?_
    cases h
    exact kf
   replace h:=qv hb h
   refine kr [3] ?_
   refine qd (fun hb=> ?_) (fun hb=> ?_)
   ·replace h:=qu hb h
    refine kr [3] ?_
    cases h
    exact kf
   replace h:=qv hb h
   refine kr [3] ?_
   obtain ⟨x3,hx,h⟩:=bind_some h
   refine qk (wa _ _ _ hx) ?_
   refine kr [3] ?_
   refine qd (fun hb=> ?_) (fun hb=> ?_)
   ·replace h:=qu hb h
    refine kr [3] ?_
    cases h
    exact kf
   replace h:=qv hb h
   refine kr [3] ?_
   exact q6 (by kernel_rfl) rfl lA (uc _ h)
  replace h:=qv hb h
  refine kr [3] ?_
  refine qd (fun hb=> ?_) (fun hb=> ?_)
  ·replace h:=qu hb h
   refine kr [3] ?_
   cases h
   exact kf
  replace h:=qv hb h
  refine kr [3] ?_
  obtain ⟨x4,hx,h⟩:=bind_some h
  refine qk (wa _ _ _ hx) ?_
  refine kr [3] ?_
  refine qd (fun hb=> ?_) (fun hb=> ?_)
  ·replace h:=qu hb h
   refine kr [3] ?_
   cases h
   exact kf
  replace h:=qv hb h
  refine kr [3] ?_
  exact q6 (by kernel_rfl) rfl lA (uc _ h)
 replace h:=qv hb h
 refine kr [3] ?_
 refine qq (fun hb=> ?_) (fun hb=> ?_)
 ·replace h:=qu hb h
  refine kr [3] ?_
  refine qd (fun hb=> ?_) (fun hb=> ?_)
  ·replace h:=qu hb h
   refine kr [3] ?_
   cases h
   exact kf
  replace h:=qv hb h
  refine kr [3] ?_
  refine qq (fun hb=> ?_) (fun hb=> ?_)
  ·replace h:=qu hb h
   refine kr [3] ?_
   refine qd (fun hb=> ?_) (fun hb=> ?_)
   ·replace h:=qu hb h
    refine kr [3] ?_
    cases h
    exact kf
   replace h:=qv hb h
   refine kr [3] ?_
   refine qd (fun hb=> ?_) (fun hb=> ?_)
   ·replace h:=qu hb h
    refine kr [3] ?_
    cases h
    exact kf
   replace h:=qv hb h
   refine kr [3] ?_
   obtain ⟨x5,hx,h⟩:=bind_some h
   refine qk (wa _ _ _ hx) ?_
   refine kr [3] ?_
   refine qd (fun hb=> ?_) (fun hb=> ?_)
   ·replace h:=qu hb h
    refine kr [3] ?_
    cases h
    exact kf
   replace h:=qv hb h
   refine kr [3] ?_
   exact q6 (by kernel_rfl) rfl lA (uc _ h)
  replace h:=qv hb h
  refine kr [3] ?_
  refine qd (fun hb=> ?_) (fun hb=> ?_)
  ·replace h:=qu hb h
   refine kr [3] ?_
   cases h
   exact kf
  replace h:=qv hb h
  refine kr [3] ?_
  obtain ⟨x6,hx,h⟩:=bind_some h
  refine qk (wa _ _ _ hx) ?_
  refine kr [3] ?_
  refine qd (fun hb=> ?_) (fun hb=> ?_)
  ·replace h:=qu hb h
   refine kr [3] ?_
   cases h
   exact kf
  replace h:=qv hb h
  refine kr [3] ?_
  exact q6 (by kernel_rfl) rfl lA (uc _ h)
 replace h:=qv hb h
 refine kr [3] ?_
 refine qq (fun hb=> ?_) (fun hb=> ?_)
 ·replace h:=qu hb h
  refine kr [3] ?_
  refine qd (fun hb=> ?_) (fun hb=> ?_)
  ·replace h:=qu hb h
   refine kr [3] ?_
   cases h
   exact kf
  replace h:=qv hb h
  refine kr [3] ?_
  refine qd (fun hb=> ?_) (fun hb=> ?_)
  ·replace h:=qu hb h
   refine kr [3] ?_
   cases h
   exact kf
  replace h:=qv hb h
  refine kr [3] ?_
  obtain ⟨x7,hx,h⟩:=bind_some h
  refine qk (wa _ _ _ hx) ?_
  refine kr [3] ?_
  refine qd (fun hb=> ?_) (fun hb=> ?_)
  ·replace h:=qu hb h
   refine kr [3] ?_
   cases h
   exact kf
  replace h:=qv hb h
  refine kr [3] ?_
  exact q6 (by kernel_rfl) rfl lA (uc _ h)
 replace h:=qv hb h
 refine kr [3] ?_
 refine qd (fun hb=> ?_) (fun hb=> ?_)
 ·replace h:=qu hb h
  refine kr [3] ?_
  cases h
  exact kf
 replace h:=qv hb h
 refine kr [3] ?_
 obtain ⟨x8,hx,h⟩:=bind_some h
 refine qk (wa _ _ _ hx) ?_
 refine kr [3] ?_
 refine qd (fun hb=> ?_) (fun hb=> ?_)
 ·replace h:=qu hb h
  refine kr [3] ?_
  cases h
  exact kf
 replace h:=qv hb h
 refine kr [3] ?_
 exact q6 (by kernel_rfl) rfl lA (uc _ h)
def Ky (a0:Int):Option Bool:=
 Yl a0 >>=fun x1=>
 if (decide (x1=(2:Int)))=true then
  some true
 else
  Yl a0 >>=fun x2=>
  some (decide (x2=(1:Int)))
@[reducible] def qpw (a0:Int) (r:Bool):Prop:=
  Fn Tryz.prog G 71 [(.int .u8 a0)] (.bool r)
theorem qp8:PC1 qpw Ky:=fun a0 r h=>by
 rw [Ky.eq_def] at h
 refine zg (T:=tt) (N:=11) (rs:= [.tmp 2]) (fun vs w=>by simp) Tryz.func71 rfl rfl rfl rfl (by kernel_rfl) (z7 rfl) (ze _ rfl) ?_
 refine kr [] ?_
 obtain ⟨x1,hx,h⟩:=bind_some h
 refine qk (qee _ _ hx) ?_
 refine kr [] ?_
 refine qw (fun hb=> ?_) (fun hb=> ?_)
 ·replace h:=qv hb h
  refine kr [] ?_
  obtain ⟨x2,hx,h⟩:=bind_some h
  refine qk (qee _ _ hx) ?_
  refine kr [] ?_
  cases h
  exact kf
 replace h:=qu hb h
 refine kr [] ?_
 cases h
 exact kf
def Za (t3:Int):Option Int:=
 some t3
@[reducible] def qo0 (t3:Int) (r:Int):Prop:=
  Ok Tryz.prog G tt 17 0 (Ret Tryz.prog [.tmp 2] (fun y H=>Told Tryz.prog G H y (.int .i64 r))) (.go [] (qb0 [1000000] Tryz.f151 0) [] (.n .undef (.n .undef (.n (.int .i64 t3) .z .z) .z) .z) 0 [])
theorem qht:PC1 qo0 Za:=fun t3 r h=>by
 rw [Za.eq_def] at h
 refine kr [1000000] ?_
 cases h
 exact kf
def v7 (t0:BA) (t3:Int):Option Int:=
 if (decide (t3 < (t0.size:Int)))=true then
  sx t0 t3 >>=fun x1=>
  Ky (qa x1) >>=fun x2=>
  if x2=true then
   v7 (qa t0) (IntKind.i64.wrap (t3+(1:Int)))
  else
   Za (qa t3)
 else
  Za (qa t3)
 partial_fixpoint
@[reducible] def qhg (t0:BA) (t3:Int) (r:Int):Prop:=
  Ok Tryz.prog G tt 17 0 (Ret Tryz.prog [.tmp 2] (fun y H=>Told Tryz.prog G H y (.int .i64 r))) (.again (je [1000000] Tryz.f151 0).1 (je [1000000] Tryz.f151 0).2 (.n (.str t0) (.n .undef (.n (.int .i64 t3) .z .z) .z) .z) 0 [])
theorem qc3:PC2 qhg v7:=by
 refine v7.partial_correctness qhg (fun v7 qc3 t0 t3 r h=> ?_)
 unfold qa at h
 refine jm ?_
 refine kr [1000000] ?_
 refine qq (fun hb=> ?_) (fun hb=> ?_)
 ·replace h:=qu hb h
  refine kr [1000000] ?_
  obtain ⟨x1,hx,h⟩:=bind_some h
  refine Zz env hx rfl rfl rfl rfl ?_
  refine kr [1000000] ?_
  obtain ⟨x2,hx,h⟩:=bind_some h
  refine qk (qp8 _ _ hx) ?_
  refine kr [1000000] ?_
  refine qd (fun hb=> ?_) (fun hb=> ?_)
  ·replace h:=qu hb h
   refine kr [1000000] ?_
   exact zx (by kernel_rfl) lA (qc3 _ _ _ h)
  replace h:=qv hb h
  refine kr [1000000] ?_
  exact q6 (by kernel_rfl) rfl lA (qht _ _ h)
 replace h:=qv hb h
 refine kr [1000000] ?_
 exact q6 (by kernel_rfl) rfl lA (qht _ _ h)
def qbh (a0:BA):Option Int:=
 v7 a0 (0:Int)
@[reducible] def qto (a0:BA) (r:Int):Prop:=
  Fn Tryz.prog G 151 [(.str a0)] (.int .i64 r)
theorem qln:PC1 qto qbh:=fun a0 r h=>by
 rw [qbh.eq_def] at h
 refine zg (T:=tt) (N:=17) (rs:= [.tmp 2]) (fun vs w=>by simp) Tryz.func151 rfl rfl rfl rfl (by kernel_rfl) (z7 rfl) (ze _ rfl) ?_
 refine kr [1000000] ?_
 exact jb (by kernel_rfl) lA (qc3 _ _ _ h)
def v8  :Option (Int × Int):=
 some ((0:Int),(0:Int))
@[reducible] def qlb  (r:Int × Int):Prop:=
  Ok Tryz.prog G tt 33 0 (Ret Tryz.prog [.tmp 2, .tmp 3] (fun y H=>Told Tryz.prog G H y (.tup [(.int .i64 r.1),(.int .i64 r.2)]))) (.go [] (vf [11,20] Tryz.f120 11) [] .z 0 [])
theorem qeq:PC0 qlb v8:=fun  r h=>by
 rw [v8.eq_def] at h
 refine kr [11,20] ?_
 cases h
 exact kf
def Zj  :Option (Int × Int):=
 v8 
@[reducible] def qla  (r:Int × Int):Prop:=
  Ok Tryz.prog G tt 33 0 (Ret Tryz.prog [.tmp 2, .tmp 3] (fun y H=>Told Tryz.prog G H y (.tup [(.int .i64 r.1),(.int .i64 r.2)]))) (.go [] (vf [11,20] Tryz.f120 20) [] .z 0 [])
theorem qep:PC0 qla Zj:=fun  r h=>by
 rw [Zj.eq_def] at h
 refine kr [11,20] ?_
 exact q6 (by kernel_rfl) rfl lA (qeq _ h)
def Kz (a0:BA):Option (Int × Int):=
 if (decide (a0=(⟨#[]⟩:BA)))=true then
  some ((0:Int),(0:Int))
 else
  sx a0 (0:Int) >>=fun x1=>
  Yl x1 >>=fun x2=>
  if (decide (x2=(1:Int)))=true then
   qbh a0 >>=fun x3=>
   ssub a0 (0:Int) x3 >>=fun x4=>
   qay x4 >>=fun x5=>
   if x5=true then
    some (x3,(2:Int))
   else
    v8 
  else
   if (decide (x2=(2:Int)))=true then
    qbh a0 >>=fun x6=>
    if (decide (x6≤(32:Int)))=true then
     some (x6,(1:Int))
    else
     Zj 
   else
    if (decide (x2=(3:Int)))=true then
     Qh a0 (⟨#[47,47]⟩:BA) >>=fun x7=>
     if x7=true then
      some ((0:Int),(0:Int))
     else
      Qh a0 (⟨#[61,61]⟩:BA) >>=fun x8=>
      if x8=true then
       some ((2:Int),(3:Int))
      else
       some ((1:Int),(3:Int))
    else
     Zj 
@[reducible] def qpx (a0:BA) (r:Int × Int):Prop:=
  Fn Tryz.prog G 120 [(.str a0)] (.tup [(.int .i64 r.1),(.int .i64 r.2)])
theorem qp9:PC1 qpx Kz:=fun a0 r h=>by
 rw [Kz.eq_def] at h
 refine zg (T:=tt) (N:=33) (rs:= [.tmp 2, .tmp 3]) (fun vs w=>by simp) Tryz.func120 rfl rfl rfl rfl (by kernel_rfl) (z7 rfl) (ze _ rfl) ?_
 refine kr [11,20] ?_
 refine qd (fun hb=> ?_) (fun hb=> ?_)
 ·replace h:=qu hb h
  refine kr [11,20] ?_
  cases h
  exact kf
 replace h:=qv hb h
 refine kr [11,20] ?_
 obtain ⟨x1,hx,h⟩:=bind_some h
 refine Zz env hx rfl rfl rfl rfl ?_
 refine kr [11,20] ?_
 obtain ⟨x2,hx,h⟩:=bind_some h
 refine qk (qee _ _ hx) ?_
 refine kr [11,20] ?_
 refine qd (fun hb=> ?_) (fun hb=> ?_)
 ·replace h:=qu hb h
  refine kr [11,20] ?_
  obtain ⟨x3,hx,h⟩:=bind_some h
  refine qk (qln _ _ hx) ?_
  refine kr [11,20] ?_
  obtain ⟨x4,hx,h⟩:=bind_some h
  refine Yw env hx rfl rfl rfl rfl rfl ?_
  refine kr [11,20] ?_
  obtain ⟨x5,hx,h⟩:=bind_some h
  refine qk (qoa _ _ hx) ?_
  refine kr [11,20] ?_
  refine qd (fun hb=> ?_) (fun hb=> ?_)
  ·replace h:=qu hb h
   refine kr [11,20] ?_
   cases h
   exact kf
  replace h:=qv hb h
  refine kr [11,20] ?_
  exact q6 (by kernel_rfl) rfl lA (qeq _ h)
 replace h:=qv hb h
 refine kr [11,20] ?_
 refine qd (fun hb=> ?_) (fun hb=> ?_)
 ·replace h:=qu hb h
  refine kr [11,20] ?_
  obtain ⟨x6,hx,h⟩:=bind_some h
  refine qk (qln _ _ hx) ?_
  refine kr [11,20] ?_
  refine qd (fun hb=> ?_) (fun hb=> ?_)
  ·replace h:=qu hb h
   refine kr [11,20] ?_
   cases h
   exact kf
  replace h:=qv hb h
  refine kr [11,20] ?_
  exact q6 (by kernel_rfl) rfl lA (qep _ h)
 replace h:=qv hb h
 refine kr [11,20] ?_
 refine qd (fun hb=> ?_) (fun hb=> ?_)
 ·replace h:=qu hb h
  refine kr [11,20] ?_
  obtain ⟨x7,hx,h⟩:=bind_some h
  refine qk (qcn _ _ _ hx) ?_
  refine kr [11,20] ?_
  refine qd (fun hb=> ?_) (fun hb=> ?_)
  ·replace h:=qu hb h
   refine kr [11,20] ?_
   cases h
   exact kf
  replace h:=qv hb h
  refine kr [11,20] ?_
  obtain ⟨x8,hx,h⟩:=bind_some h
  refine qk (qcn _ _ _ hx) ?_
  refine kr [11,20] ?_
  refine qd (fun hb=> ?_) (fun hb=> ?_)
  ·replace h:=qu hb h
   refine kr [11,20] ?_
   cases h
   exact kf
  replace h:=qv hb h
  refine kr [11,20] ?_
  cases h
  exact kf
 replace h:=qv hb h
 refine kr [11,20] ?_
 exact q6 (by kernel_rfl) rfl lA (qep _ h)
def w5 (t0:BA) (t5:(List Token)) (t6:Int):Option ((List Token) × Int × Int):=
 qab (qa t0) (qa t6) >>=fun x1=>
 if (decide (x1=(t0.size:Int)))=true then
  ssub t0 t6 (t0.size:Int) >>=fun x2=>
  app 48 t5 ([(Token.mk (4:Int) x2 (⟨#[]⟩) (t0.size:Int))]) >>=fun x3=>
  some (x3,(0:Int),(0:Int))
 else
  ssub t0 x1 (t0.size:Int) >>=fun x4=>
  Kz (qa x4) >>=fun x5=>
  if (decide (x5.2=(0:Int)))=true then
   some (([]:(List Token)),(1:Int),x1)
  else
   ssub t0 t6 x1 >>=fun x6=>
   ssub t0 x1 (IntKind.i64.wrap (x1+x5.1)) >>=fun x7=>
   app 48 t5 ([(Token.mk x5.2 x6 x7 x1)]) >>=fun x8=>
   w5 (qa t0) (qa x8) (IntKind.i64.wrap (x1+x5.1))
 partial_fixpoint
@[reducible] def qen (t0:BA) (t5:(List Token)) (t6:Int) (r:(List Token) × Int × Int):Prop:=
  Ok Tryz.prog G tt 58 0 (Ret Tryz.prog [.tmp 2, .tmp 3, .tmp 4] (fun y H=>Told Tryz.prog G H y (.tup [(.sl 4 false (r.1.map Token.cells)),(.int .i64 r.2.1),(.int .i64 r.2.2)]))) (.again (je [] Tryz.f78 0).1 (je [] Tryz.f78 0).2 (.n (.str t0) (.n .undef .z (.n (.bs 4 0 0 0 t5.length) .z .z)) (.n .undef .z (.n (.int .i64 t6) .z .z))) 1 [(0, .row 118 (t5.map Token.cells).flatten)])
theorem qah:PC3 qen w5:=by
 refine w5.partial_correctness qen (fun w5 qah t0 t5 t6 r h=> ?_)
 unfold qa at h
 refine jm ?_
 refine kr [] ?_
 obtain ⟨x1,hx,h⟩:=bind_some h
 refine qk (qs5 _ _ _ hx) ?_
 refine kr [] ?_
 refine qd (fun hb=> ?_) (fun hb=> ?_)
 ·replace h:=qu hb h
  refine kr [] ?_
  obtain ⟨x2,hx,h⟩:=bind_some h
  refine Yw env hx rfl rfl rfl rfl rfl ?_
  refine kr [] ?_
  obtain ⟨x3,hx,h⟩:=bind_some h
  have hp_x3:=ju hx (by simp)
  refine y3 (C:=Token.cells) env hx rfl rfl (by simp) (fun _=>rfl) rfl rfl rfl rfl rfl (by decide) rfl rfl rfl ?_
  refine kr [] ?_
  cases h
  exact zb env rfl rfl (zt (zw (qc (q5 (z8 Wj rfl) (by simp)) (qc (q5 (qj rfl) (by simp)) (qc (q5 (qj rfl) (by simp)) zk)))))
 replace h:=qv hb h
 refine kr [] ?_
 obtain ⟨x4,hx,h⟩:=bind_some h
 refine Yw env hx rfl rfl rfl rfl rfl ?_
 refine kr [] ?_
 obtain ⟨x5,hx,h⟩:=bind_some h
 refine qk (qp9 _ _ hx) ?_
 refine kr [] ?_
 refine qd (fun hb=> ?_) (fun hb=> ?_)
 ·replace h:=qu hb h
  refine kr [] ?_
  cases h
  exact zb env rfl rfl (zt (zw (qc (q5 (q4 (.inr rfl)) (by simp)) (qc (q5 (qj rfl) (by simp)) (qc (q5 (qj rfl) (by simp)) zk)))))
 replace h:=qv hb h
 refine kr [] ?_
 obtain ⟨x6,hx,h⟩:=bind_some h
 refine Yw env hx rfl rfl rfl rfl rfl ?_
 refine kr [] ?_
 obtain ⟨x7,hx,h⟩:=bind_some h
 refine Yw env hx rfl rfl rfl rfl rfl ?_
 refine kr [] ?_
 obtain ⟨x8,hx,h⟩:=bind_some h
 have hp_x8:=ju hx (by simp)
 refine y3 (C:=Token.cells) env hx rfl rfl (by simp) (fun _=>rfl) rfl rfl rfl rfl rfl (by decide) rfl rfl rfl ?_
 refine kr [] ?_
 exact zx (by kernel_rfl) lA (qah _ _ _ _ h)
def Y0 (a0:BA):Option ((List Token) × Int × Int):=
 if (decide ((65536:Int) < (a0.size:Int)))=true then
  some (([]:(List Token)),(3:Int),(0:Int))
 else
  w5 a0 ([]:List Token) (0:Int)
@[reducible] def qo1 (a0:BA) (r:(List Token) × Int × Int):Prop:=
  Fn Tryz.prog G 78 [(.str a0)] (.tup [(.sl 4 false (r.1.map Token.cells)),(.int .i64 r.2.1),(.int .i64 r.2.2)])
theorem qo8:PC1 qo1 Y0:=fun a0 r h=>by
 rw [Y0.eq_def] at h
 refine zg (T:=tt) (N:=58) (rs:= [.tmp 2, .tmp 3, .tmp 4]) (fun vs w=>by simp) Tryz.func78 rfl rfl rfl rfl (by kernel_rfl) (z7 rfl) (ze _ rfl) ?_
 refine kr [] ?_
 refine qd (fun hb=> ?_) (fun hb=> ?_)
 ·replace h:=qu hb h
  refine kr [] ?_
  cases h
  exact zb env rfl rfl (zt (zw (qc (q5 (q4 (.inr rfl)) (by simp)) (qc (q5 (qj rfl) (by simp)) (qc (q5 (qj rfl) (by simp)) zk)))))
 replace h:=qv hb h
 refine kr [] ?_
 refine qox 5 _ 4 118 rfl rfl ?_
 exact jb (by kernel_rfl) lA (qah _ _ _ _ h)
def qan (a0:Token):Option Int:=
 if (!decide (a0.Kind=(3:Int)))=true then
  some (0:Int)
 else
  if (decide (a0.Text=(⟨#[124]⟩:BA)))=true then
   some (1:Int)
  else
   if (decide (a0.Text=(⟨#[38]⟩:BA)))=true then
    some (2:Int)
   else
    if (decide (a0.Text=(⟨#[61,61]⟩:BA)))=true then
     some (3:Int)
    else
     if (decide (a0.Text=(⟨#[60]⟩:BA)))=true then
      some (3:Int)
     else
      if (decide (a0.Text=(⟨#[43]⟩:BA)))=true then
       some (4:Int)
      else
       if (decide (a0.Text=(⟨#[45]⟩:BA)))=true then
        some (4:Int)
       else
        if (decide (a0.Text=(⟨#[42]⟩:BA)))=true then
         some (5:Int)
        else
         if (decide (a0.Text=(⟨#[47]⟩:BA)))=true then
          some (5:Int)
         else
          some (0:Int)
@[reducible] def qpz (a0:Token) (r:Int):Prop:=
  Fn Tryz.prog G 155 [(.agg (Token.cells a0))] (.int .i64 r)
theorem qqa:PC1 qpz qan:=fun a0 r h=>by
 rw [qan.eq_def] at h
 refine zg (T:=tt) (N:=21) (rs:= [.tmp 2]) (fun vs w=>by simp) Tryz.func155 rfl rfl rfl rfl (by kernel_rfl) (z7 rfl) (ze _ rfl) ?_
 refine kr [] ?_
 refine qd (fun hb=> ?_) (fun hb=> ?_)
 ·replace h:=qu hb h
  refine kr [] ?_
  cases h
  exact kf
 replace h:=qv hb h
 refine kr [] ?_
 refine qd (fun hb=> ?_) (fun hb=> ?_)
 ·replace h:=qu hb h
  refine kr [] ?_
  cases h
  exact kf
 replace h:=qv hb h
 refine kr [] ?_
 refine qd (fun hb=> ?_) (fun hb=> ?_)
 ·replace h:=qu hb h
  refine kr [] ?_
  cases h
  exact kf
 replace h:=qv hb h
 refine kr [] ?_
 refine qd (fun hb=> ?_) (fun hb=> ?_)
 ·replace h:=qu hb h
  refine kr [] ?_
  cases h
  exact kf
 replace h:=qv hb h
 refine kr [] ?_
 refine qd (fun hb=> ?_) (fun hb=> ?_)
 ·replace h:=qu hb h
  refine kr [] ?_
  cases h
  exact kf
 replace h:=qv hb h
 refine kr [] ?_
 refine qd (fun hb=> ?_) (fun hb=> ?_)
 ·replace h:=qu hb h
  refine kr [] ?_
  cases h
  exact kf
 replace h:=qv hb h
 refine kr [] ?_
 refine qd (fun hb=> ?_) (fun hb=> ?_)
 ·replace h:=qu hb h
  refine kr [] ?_
  cases h
  exact kf
 replace h:=qv hb h
 refine kr [] ?_
 refine qd (fun hb=> ?_) (fun hb=> ?_)
 ·replace h:=qu hb h
  refine kr [] ?_
  cases h
  exact kf
 replace h:=qv hb h
 refine kr [] ?_
 refine qd (fun hb=> ?_) (fun hb=> ?_)
 ·replace h:=qu hb h
  refine kr [] ?_
  cases h
  exact kf
 replace h:=qv hb h
 refine kr [] ?_
 cases h
 exact kf
def jq (a0:Reader):Option (Token):=
 ix a0.l_ a0.at_ >>=fun x1=>
 some x1
@[reducible] def qhj (a0:Reader) (r:Token):Prop:=
  AC Tryz.prog G 80 [(.ptr 0 0 0)] 1 [(0, .var 130 (Reader.cells a0))] (.agg (Token.cells r)) 1 [(0, .var 130 (Reader.cells a0))]
theorem j9:PC1 qhj jq:=fun a0 r h=>by
 rw [jq.eq_def] at h
 refine ⟨?_,(ub rfl rfl ky),(jw jd),(ua rfl kw),(jw jd),rfl,rfl,rfl,rfl⟩
 refine Qf (T:=tt) (N:=13) (rs:= [.cell 2 118]) (fun vs w=>by simp) Tryz.func80 rfl rfl rfl (by kernel_rfl) (by kernel_rfl) ?_
 refine kr [] ?_
 obtain ⟨x1,hx,h⟩:=bind_some h
 refine ja env hx rfl rfl rfl rfl rfl ?_
 refine kr [] ?_
 cases h
 exact jt env rfl rfl (tS [some 0] (sV (lS (lS lN)) zy) (y4 (jz (qm (qe (qj rfl) rfl) (qm (qe (q8 rfl) rfl) (qm (qe (q8 rfl) rfl) (qm (qe (qj rfl) rfl) jy))))) (by simp)))
def zp (a0:Reader) (a1:BA):Option Bool:=
 jq a0 >>=fun x1=>
 if (!decide (x1.Kind=(4:Int)))=true then
  jq a0 >>=fun x2=>
  some (decide (x2.Text=a1))
 else
  some false
@[reducible] def qjg (a0:Reader) (a1:BA) (r:Bool):Prop:=
  AC Tryz.prog G 81 [(.ptr 0 0 0),(.str a1)] 1 [(0, .var 130 (Reader.cells a0))] (.bool r) 1 [(0, .var 130 (Reader.cells a0))]
theorem zr:PC2 qjg zp:=fun a0 a1 r h=>by
 rw [zp.eq_def] at h
 refine ⟨?_,(ub rfl rfl ky),(jw jd),(ua rfl kw),(jw jd),rfl,rfl,rfl,rfl⟩
 refine Qf (T:=tt) (N:=16) (rs:= [.tmp 4]) (fun vs w=>by simp) Tryz.func81 rfl rfl rfl (by kernel_rfl) (by kernel_rfl) ?_
 refine kr [] ?_
 obtain ⟨x1,hx,h⟩:=bind_some h
 refine qr (AC.g9 (j9 _ _ hx) [0] [0]) ?_
 refine kr [] ?_
 refine qq (fun hb=> ?_) (fun hb=> ?_)
 ·replace h:=qu hb h
  refine kr [] ?_
  obtain ⟨x2,hx,h⟩:=bind_some h
  refine qr (AC.g9 (j9 _ _ hx) [0] [0]) ?_
  refine kr [] ?_
  cases h
  exact jt env rfl rfl (tS [some 0] (sV (lS (lS lN)) zy) (y4 (jk (qe (zf rfl) rfl) (by simp)) (by simp)))
 replace h:=qv hb h
 refine kr [] ?_
 cases h
 exact jt env rfl rfl (tS [some 0] (sV (lS (lS lN)) zy) (y4 (jk (qe (zf rfl) rfl) (by simp)) (by simp)))
def wb (a0:Reader):Option (Except Int (Unit)):=
 jq a0 >>=fun x1=>
 some (.error x1.At)
@[reducible] def qhn (a0:Reader) (r:Except Int (Unit)):Prop:=
  exq (fun (r:Unit)=>AC Tryz.prog G 86 [(.ptr 0 0 0)] 1 [(0, .var 130 (Reader.cells a0))] (.tup []) 1 [(0, .var 130 (Reader.cells a0))]) (fun e=>FC Tryz.prog G 86 [(.ptr 0 0 0)] 1 [(0, .var 130 (Reader.cells a0))] (flt e)) r
theorem kg:PC1 qhn wb:=fun a0 r h=>by
 rw [wb.eq_def] at h
 refine qa9 (T:=tt) (N:=6) (rs:= []) (fun vs w=>by simp) Tryz.func86 rfl rfl rfl (by kernel_rfl) (by kernel_rfl) (ub rfl rfl ky) (jw jd) (fun r=>(ua rfl kw)) (fun r=>(jw jd)) (fun _=>rfl) (fun _=>rfl) rfl (fun _=>rfl) ?_
 refine kr [] ?_
 obtain ⟨x1,hx,h⟩:=bind_some h
 refine qr (AC.g9 (j9 _ _ hx) [0] [0]) ?_
 refine kr [] ?_
 refine q1l (by kernel_rfl) rfl ?_
 refine kr [] ?_
 cases h
 exact q76 rfl rfl
def u3 (o0:Reader) (o1_0:Int) (o1_1:BA) (o1_2:LB) (o1_3:LN):Option (Except Int (Reader × LB)):=
 jq o0 >>=fun x3=>
 app 16 o1_2 ([x3.Lead]) >>=fun x4=>
 some (.ok ((Reader.mk o0.l_ (IntKind.i64.wrap (o0.at_+(1:Int)))),x4))
@[reducible] def qfm (o0:Reader) (o1_0:Int) (o1_1:BA) (o1_2:LB) (o1_3:LN) (r:Except Int (Reader × LB)):Prop:=
  Ok Tryz.prog G tt 31 4 (exq (fun (r:Reader × LB)=>Ret Tryz.prog [] (fun y H=>Qq Tryz.prog G 4 H y (.tup []) ⟨5, [(0, .var 130 (Reader.cells r.1)),(1, .var 45 [(.int .i64 o1_0),(.str o1_1),(.bs 1 2 4 0 r.2.length),(.bs 4 3 3 0 o1_3.length)]),(4, .row 9 (r.2.map sc).flatten),(3, .row 45 (o1_3.map Node.cells).flatten)]⟩)) (fun e=>Kv (flt e)) r) (.go [] (vf [9] Tryz.f121 9) [] (.n (.ptr 0 0 0) (.n (.ptr 1 1 0) .z .z) .z) 5 [(0, .var 130 (Reader.cells o0)),(1, .var 45 [(.int .i64 o1_0),(.str o1_1),(.bs 1 2 4 0 o1_2.length),(.bs 4 3 3 0 o1_3.length)]),(4, .row 9 (o1_2.map sc).flatten),(3, .row 45 (o1_3.map Node.cells).flatten)])
theorem Wv:PC5 qfm u3:=fun o0 o1_0 o1_1 o1_2 o1_3 r h=>by
 rw [u3.eq_def] at h
 refine kr [9] ?_
 obtain ⟨x3,hx,h⟩:=bind_some h
 refine qr (AC.g9 (j9 _ _ hx) [0] [0]) ?_
 refine kr [9] ?_
 obtain ⟨x4,hx,h⟩:=bind_some h
 have hp_x4:=ju hx (by simp)
 refine y3 (C:=sc) env hx rfl rfl (by simp) (fun _=>rfl) rfl rfl rfl rfl rfl (by decide) rfl rfl rfl ?_
 refine kr [9] ?_
 cases h
 exact qe3 env rfl (tS [some 0,some 1,some 2,some 3] (sV (lS (lS lN)) (sV (lS (lS (lS (lS lN)))) (sR yx (sR zo zy)))) (wm ke))
def q9 (a0:Reader) (a1:Int) (a3:BA) (a4:LB) (a5:LN) (a2:BA):Option (Except Int (Reader × LB)):=
 zp a0 a2 >>=fun x1=>
 if (!x1)=true then
  wb a0 >>=fun x2=>
  match x2 with
  | .error ee=>some (.error ee)
  | .ok x2=>
  u3 a0 a1 a3 a4 a5
 else
  u3 a0 a1 a3 a4 a5
@[reducible] def qhi (a0:Reader) (a1:Int) (a3:BA) (a4:LB) (a5:LN) (a2:BA) (r:Except Int (Reader × LB)):Prop:=
  exq (fun (r:Reader × LB)=>AC Tryz.prog G 121 [(.ptr 0 0 0),(.ptr 1 1 0),(.str a2)] 4 [(0, .var 130 (Reader.cells a0)),(1, .var 45 [(.int .i64 a1),(.str a3),(.bs 1 2 2 0 a4.length),(.bs 4 3 3 0 a5.length)]),(2, .row 9 (a4.map sc).flatten),(3, .row 45 (a5.map Node.cells).flatten)] (.tup []) 5 [(0, .var 130 (Reader.cells r.1)),(1, .var 45 [(.int .i64 a1),(.str a3),(.bs 1 2 4 0 r.2.length),(.bs 4 3 3 0 a5.length)]),(4, .row 9 (r.2.map sc).flatten),(3, .row 45 (a5.map Node.cells).flatten)]) (fun e=>FC Tryz.prog G 121 [(.ptr 0 0 0),(.ptr 1 1 0),(.str a2)] 4 [(0, .var 130 (Reader.cells a0)),(1, .var 45 [(.int .i64 a1),(.str a3),(.bs 1 2 2 0 a4.length),(.bs 4 3 3 0 a5.length)]),(2, .row 9 (a4.map sc).flatten),(3, .row 45 (a5.map Node.cells).flatten)] (flt e)) r
theorem ql:PC6 qhi q9:=fun a0 a1 a3 a4 a5 a2 r h=>by
 rw [q9.eq_def] at h
 refine qa9 (T:=tt) (N:=31) (rs:= []) (fun vs w=>by simp) Tryz.func121 rfl rfl rfl (by kernel_rfl) (by kernel_rfl) (ub rfl rfl (ub rfl rfl (Qp yx rfl (Qp zo rfl ky)))) (jw (jw (ka yx (ka zo jd)))) (fun r=>(ua rfl (ua rfl (Ys yx (Ys zo kw))))) (fun r=>(jw (jw (ka yx (ka zo jd))))) (fun _=>rfl) (fun _=>rfl) rfl (fun _=>rfl) ?_
 refine kr [9] ?_
 obtain ⟨x1,hx,h⟩:=bind_some h
 refine qr (AC.g9 (zr _ _ _ hx) [0] [0]) ?_
 refine kr [9] ?_
 refine qd (fun hb=> ?_) (fun hb=> ?_)
 ·replace h:=qu hb h
  refine kr [9] ?_
  obtain ⟨x2,hx,h⟩:=bind_some h
  rcases x2 with ee | x2
  ·replace h:some (.error ee)=some r:=h
   cases h
   exact zu (FC.go (kg _ _ hx) [0] [0] rfl rfl rfl rfl rfl rfl)
  refine qr (AC.g9 (kg _ _ hx) [0] [0]) ?_
  refine kr [9] ?_
  exact q6 (by kernel_rfl) rfl lQ (Wv _ _ _ _ _ _ h)
 replace h:=qv hb h
 refine kr [9] ?_
 exact q6 (by kernel_rfl) rfl lQ (Wv _ _ _ _ _ _ h)
def wn (o0:Reader) (o1_0:Int) (o1_1:BA) (o1_2:LB) (o1_3:LN) (o4:Token):Option (Except Int (Reader × BA × LB)):=
 app 16 o1_2 ([o4.Lead]) >>=fun x5=>
 some (.ok ((Reader.mk o0.l_ (IntKind.i64.wrap (o0.at_+(1:Int)))),o4.Text,x5))
@[reducible] def qew (o0:Reader) (o1_0:Int) (o1_1:BA) (o1_2:LB) (o1_3:LN) (o4:Token) (r:Except Int (Reader × BA × LB)):Prop:=
  Ok Tryz.prog G tt 41 4 (exq (fun (r:Reader × BA × LB)=>Ret Tryz.prog [] (fun y H=>Qq Tryz.prog G 4 H y (.tup []) ⟨5, [(0, .var 130 (Reader.cells r.1)),(1, .var 45 [(.int .i64 o1_0),(.str r.2.1),(.bs 1 2 4 0 r.2.2.length),(.bs 4 3 3 0 o1_3.length)]),(4, .row 9 (r.2.2.map sc).flatten),(3, .row 45 (o1_3.map Node.cells).flatten)]⟩)) (fun e=>Kv (flt e)) r) (.go [] (vf [15] Tryz.f122 15) [] (.n (.ptr 0 0 0) (.n (.ptr 1 1 0) .z .z) (.n .undef (.n (.ptr 4 4 0) .z .z) .z)) 6 [(0, .var 130 (Reader.cells o0)),(1, .var 45 [(.int .i64 o1_0),(.str o1_1),(.bs 1 2 5 0 o1_2.length),(.bs 4 3 3 0 o1_3.length)]),(5, .row 9 (o1_2.map sc).flatten),(3, .row 45 (o1_3.map Node.cells).flatten),(4, .var 118 (Token.cells o4))])
theorem Z5:PC6 qew wn:=fun o0 o1_0 o1_1 o1_2 o1_3 o4 r h=>by
 rw [wn.eq_def] at h
 refine kr [15] ?_
 obtain ⟨x5,hx,h⟩:=bind_some h
 have hp_x5:=ju hx (by simp)
 refine y3 (C:=sc) env hx rfl rfl (by simp) (fun _=>rfl) rfl rfl rfl rfl rfl (by decide) rfl rfl rfl ?_
 refine kr [15] ?_
 cases h
 exact qe3 env rfl (tS [some 0,some 1,some 2,some 3] (sV (lS (lS lN)) (sV (lS (lS (lS (lS lN)))) (sR yx (sR zo zy)))) (wm ke))
def jv (a0:Reader) (a1:Int) (a2:BA) (a3:LB) (a4:LN):Option (Except Int (Reader × BA × LB)):=
 jq a0 >>=fun x1=>
 if (!decide (x1.Kind=(1:Int)))=true then
  wb a0 >>=fun x4=>
  match x4 with
  | .error ee=>some (.error ee)
  | .ok x4=>
  wn a0 a1 a2 a3 a4 x1
 else
  qcf x1.Text >>=fun x2=>
  if (!x2)=true then
   wb a0 >>=fun x3=>
   match x3 with
   | .error ee=>some (.error ee)
   | .ok x3=>
   wn a0 a1 a2 a3 a4 x1
  else
   wn a0 a1 a2 a3 a4 x1
@[reducible] def qhk (a0:Reader) (a1:Int) (a2:BA) (a3:LB) (a4:LN) (r:Except Int (Reader × BA × LB)):Prop:=
  exq (fun (r:Reader × BA × LB)=>AC Tryz.prog G 122 [(.ptr 0 0 0),(.ptr 1 1 0)] 4 [(0, .var 130 (Reader.cells a0)),(1, .var 45 [(.int .i64 a1),(.str a2),(.bs 1 2 2 0 a3.length),(.bs 4 3 3 0 a4.length)]),(2, .row 9 (a3.map sc).flatten),(3, .row 45 (a4.map Node.cells).flatten)] (.tup []) 5 [(0, .var 130 (Reader.cells r.1)),(1, .var 45 [(.int .i64 a1),(.str r.2.1),(.bs 1 2 4 0 r.2.2.length),(.bs 4 3 3 0 a4.length)]),(4, .row 9 (r.2.2.map sc).flatten),(3, .row 45 (a4.map Node.cells).flatten)]) (fun e=>FC Tryz.prog G 122 [(.ptr 0 0 0),(.ptr 1 1 0)] 4 [(0, .var 130 (Reader.cells a0)),(1, .var 45 [(.int .i64 a1),(.str a2),(.bs 1 2 2 0 a3.length),(.bs 4 3 3 0 a4.length)]),(2, .row 9 (a3.map sc).flatten),(3, .row 45 (a4.map Node.cells).flatten)] (flt e)) r
theorem zv:PC5 qhk jv:=fun a0 a1 a2 a3 a4 r h=>by
 rw [jv.eq_def] at h
 refine qa9 (T:=tt) (N:=41) (rs:= []) (fun vs w=>by simp) Tryz.func122 rfl rfl rfl (by kernel_rfl) (by kernel_rfl) (ub rfl rfl (ub rfl rfl (Qp yx rfl (Qp zo rfl ky)))) (jw (jw (ka yx (ka zo jd)))) (fun r=>(ua rfl (ua rfl (Ys yx (Ys zo kw))))) (fun r=>(jw (jw (ka yx (ka zo jd))))) (fun _=>rfl) (fun _=>rfl) rfl (fun _=>rfl) ?_
 refine kr [15] ?_
 obtain ⟨x1,hx,h⟩:=bind_some h
 refine qr (AC.g9 (j9 _ _ hx) [0] [0]) ?_
 refine kr [15] ?_
 refine qw (fun hb=> ?_) (fun hb=> ?_)
 ·replace h:=qv hb h
  refine kr [15] ?_
  obtain ⟨x2,hx,h⟩:=bind_some h
  refine qk (qkk _ _ hx) ?_
  refine kr [15] ?_
  refine qd (fun hb=> ?_) (fun hb=> ?_)
  ·replace h:=qu hb h
   refine kr [15] ?_
   obtain ⟨x3,hx,h⟩:=bind_some h
   rcases x3 with ee | x3
   ·replace h:some (.error ee)=some r:=h
    cases h
    exact zu (FC.go (kg _ _ hx) [0] [0] rfl rfl rfl rfl rfl rfl)
   refine qr (AC.g9 (kg _ _ hx) [0] [0]) ?_
   refine kr [15] ?_
   exact q6 (by kernel_rfl) rfl lQ (Z5 _ _ _ _ _ _ _ h)
  replace h:=qv hb h
  refine kr [15] ?_
  exact q6 (by kernel_rfl) rfl lQ (Z5 _ _ _ _ _ _ _ h)
 replace h:=qu hb h
 refine kr [15] ?_
 obtain ⟨x4,hx,h⟩:=bind_some h
 rcases x4 with ee | x4
 ·replace h:some (.error ee)=some r:=h
  cases h
  exact zu (FC.go (kg _ _ hx) [0] [0] rfl rfl rfl rfl rfl rfl)
 refine qr (AC.g9 (kg _ _ hx) [0] [0]) ?_
 refine kr [15] ?_
 exact q6 (by kernel_rfl) rfl lQ (Z5 _ _ _ _ _ _ _ h)
def jj (a0:Int) (a2:BA) (a3:LB) (a4:LN) (a1:Node):Option LN:=
 app 72 a4 [a1] >>=fun x1=>
 some x1
@[reducible] def qp1 (a0:Int) (a2:BA) (a3:LB) (a4:LN) (a1:Node) (r:LN):Prop:=
  AC Tryz.prog G 82 [(.ptr 0 0 0),(.agg (zl a1))] 3 [(0, .var 45 [(.int .i64 a0),(.str a2),(.bs 1 1 1 0 a3.length),(.bs 4 2 2 0 a4.length)]),(1, .row 9 (a3.map sc).flatten),(2, .row 45 (a4.map Node.cells).flatten)] (.tup []) 4 [(0, .var 45 [(.int .i64 a0),(.str a2),(.bs 1 1 1 0 a3.length),(.bs 4 2 3 0 r.length)]),(1, .row 9 (a3.map sc).flatten),(3, .row 45 (r.map Node.cells).flatten)]
theorem jl:PC5 qp1 jj:=fun a0 a2 a3 a4 a1 r h=>by
 rw [jj.eq_def] at h
 refine ⟨?_,(ub rfl rfl (Qp yx rfl (Qp zo rfl ky))),(jw (ka yx (ka zo jd))),(ua rfl (Ys yx (Ys zo kw))),(jw (ka yx (ka zo jd))),rfl,rfl,rfl,rfl⟩
 refine Qf (T:=tt) (N:=15) (rs:= []) (fun vs w=>by simp) Tryz.func82 rfl rfl rfl (by kernel_rfl) (by kernel_rfl) ?_
 refine kr [] ?_
 obtain ⟨x1,hx,h⟩:=bind_some h
 have hz_x1:=hx
 refine qzu (C:=Node.cells) env hx rfl rfl Node.cells_len rfl rfl rfl rfl rfl (by decide) rfl rfl rfl ?_
 refine kr [] ?_
 refine qoz env rfl rfl rfl rfl (BV _) (qzk hz_x1) ?_
 refine kr [] ?_
 refine qvj hz_x1 zo rfl rfl (Node.cells_eq a1).symm rfl rfl rfl ?_
 refine kr [] ?_
 cases h
 exact qe3 env rfl (tS [some 0,some 1,some 2] (sV (lS (lS (lS (lS lN)))) (sR yx (sR zo zy))) (wm ke))
def u0 (a0:Reader):Option (Except Int (Node × Reader)):=
 jv a0 (5:Int) (⟨#[]⟩) ([]:LB) ([]:LN) >>=fun x1=>
 match x1 with
 | .error ee=>some (.error ee)
 | .ok x1=>
 some (.ok ((Node.mk (5:Int) x1.2.1 x1.2.2 ([]:LN)),x1.1))
@[reducible] def qhl (a0:Reader) (r:Except Int (Node × Reader)):Prop:=
  exq (fun (r:Node × Reader)=>AC Tryz.prog G 123 [(.ptr 0 0 0)] 1 [(0, .var 130 (Reader.cells a0))] (.agg (zl r.1)) 1 [(0, .var 130 (Reader.cells r.2))]) (fun e=>FC Tryz.prog G 123 [(.ptr 0 0 0)] 1 [(0, .var 130 (Reader.cells a0))] (flt e)) r
theorem Zh:PC1 qhl u0:=fun a0 r h=>by
 rw [u0.eq_def] at h
 refine qa9 (T:=tt) (N:=8) (rs:= [.cell 2 45]) (fun vs w=>by simp) Tryz.func123 rfl rfl rfl (by kernel_rfl) (by kernel_rfl) (ub rfl rfl ky) (jw jd) (fun r=>(ua rfl kw)) (fun r=>(jw jd)) (fun _=>rfl) (fun _=>rfl) rfl (fun _=>rfl) ?_
 refine kr [] ?_
 obtain ⟨x1,hx,h⟩:=bind_some h
 rcases x1 with ee | x1
 ·replace h:some (.error ee)=some r:=h
  cases h
  exact zu (FCalls.ghost (e:=9) (FCalls.ghost (e:=45) (FCalls.wkg (FC.go (objs:= [(0, .var 130 (Reader.cells a0)),(1, .var 45 [(.int .i64 0),(.str ⟨#[]⟩),(.sl 0 true []),(.sl 0 true [])]),(2, .var 45 [(.int .i64 (5:Int)),(.str ⟨#[]⟩),(.bs 1 3 3 0 ([]:LB).length),(.bs 4 4 4 0 ([]:LN).length)]),(3, .row 9 (([]:LB).map sc).flatten),(4, .row 45 (([]:LN).map Node.cells).flatten)]) (xs:= [(.ptr 0 0 0),(.ptr 2 2 0)]) (zv _ _ _ _ _ _ hx) [0,2,3,4] [0,2,3,4] rfl rfl rfl rfl rfl rfl) (qt (za _) (qt (za _) jh)) (qx (qx (j7 (qp (q7 _) (qp (q7 _) (qp (zq rfl) (qp (zq rfl) j8)))) (z6 _)))))))
 refine qr (ACalls.ghost (e:=9) (ACalls.ghost (e:=45) (ACalls.wkg (AC.go (objs:= [(0, .var 130 (Reader.cells a0)),(1, .var 45 [(.int .i64 0),(.str ⟨#[]⟩),(.sl 0 true []),(.sl 0 true [])]),(2, .var 45 [(.int .i64 (5:Int)),(.str ⟨#[]⟩),(.bs 1 3 3 0 ([]:LB).length),(.bs 4 4 4 0 ([]:LN).length)]),(3, .row 9 (([]:LB).map sc).flatten),(4, .row 45 (([]:LN).map Node.cells).flatten)]) (xs:= [(.ptr 0 0 0),(.ptr 2 2 0)]) (zv _ _ _ _ _ _ hx) [0,2,3,4] [0,2,3,4] rfl rfl rfl rfl rfl rfl rfl rfl rfl) (qt (za _) (qt (za _) jh)) (qx (qx (j7 (qp (q7 _) (qp (q7 _) (qp (zq rfl) (qp (zq rfl) j8)))) (z6 _))))))) ?_
 refine kr [] ?_
 cases h
 exact jt env rfl rfl (tS [some 0] (sV (lS (lS lN)) zy) (y4 (jz (qm (qe (qj rfl) rfl) (qm (qe (q8 rfl) rfl) (qm (qe (z8 yx rfl) rfl) (qm (qe (z8 zo rfl) rfl) jy))))) (by simp)))
def yh (a0:Reader) (a1:Int):Option (Node × Reader):=
 jq a0 >>=fun x1=>
 some ((Node.mk a1 x1.Text ([x1.Lead]) ([]:LN)),(Reader.mk a0.l_ (IntKind.i64.wrap (a0.at_+(1:Int)))))
@[reducible] def qhh (a0:Reader) (a1:Int) (r:Node × Reader):Prop:=
  AC Tryz.prog G 156 [(.ptr 0 0 0),(.int .i64 a1)] 2 [(0, .var 130 (Reader.cells a0)),(1, .row 45 [])] (.agg [(.int .i64 r.1.kind),(.str r.1.text),(.sl 1 false (r.1.gaps.map sc)),(.bs 4 1 2 0 r.1.kids.length)]) 3 [(0, .var 130 (Reader.cells r.2)),(2, .row 45 (r.1.kids.map Node.cells).flatten)]
theorem wg:PC2 qhh yh:=fun a0 a1 r h=>by
 rw [yh.eq_def] at h
 refine ⟨?_,(ub rfl rfl (qqm rfl ky)),(jw (W3 jd)),(ua rfl (Ys zo kw)),(jw (ka zo jd)),rfl,rfl,rfl,rfl⟩
 refine Qf (T:=tt) (N:=22) (rs:= [.cell 4 45]) (fun vs w=>by simp) Tryz.func156 rfl rfl rfl (by kernel_rfl) (by kernel_rfl) ?_
 refine kr [] ?_
 obtain ⟨x1,hx,h⟩:=bind_some h
 refine qr (AC.g9 (j9 _ _ hx) [0] [0]) ?_
 refine kr [] ?_
 cases h
 exact jt env rfl rfl (tS [some 0,none] (sV (lS (lS lN)) (yv rfl rfl zy)) (y4 (jz (qm (qe (qj rfl) rfl) (qm (qe (q8 rfl) rfl) (qm (qe (q4 (.inl rfl)) rfl) (qm (qg2 rfl rfl) jy))))) (by simp)))
def Jc (a0:Int) (a2:BA) (a3:LB) (a4:LN) (a1:Node):Option LN:=
 app 72 a4 [a1] >>=fun x1=>
 some x1
@[reducible] def qp0 (a0:Int) (a2:BA) (a3:LB) (a4:LN) (a1:Node) (r:LN):Prop:=
  AC Tryz.prog G 82 [(.ptr 0 0 0),(.agg (zl a1))] 2 [(0, .var 45 [(.int .i64 a0),(.str a2),(.sl 1 false (a3.map sc)),(.bs 4 1 1 0 a4.length)]),(1, .row 45 (a4.map Node.cells).flatten)] (.tup []) 3 [(0, .var 45 [(.int .i64 a0),(.str a2),(.sl 1 false (a3.map sc)),(.bs 4 1 2 0 r.length)]),(2, .row 45 (r.map Node.cells).flatten)]
theorem qat:PC5 qp0 Jc:=fun a0 a2 a3 a4 a1 r h=>by
 rw [Jc.eq_def] at h
 refine ⟨?_,(ub rfl rfl (Qp zo rfl ky)),(jw (ka zo jd)),(ua rfl (Ys zo kw)),(jw (ka zo jd)),rfl,rfl,rfl,rfl⟩
 refine Qf (T:=tt) (N:=15) (rs:= []) (fun vs w=>by simp) Tryz.func82 rfl rfl rfl (by kernel_rfl) (by kernel_rfl) ?_
 refine kr [] ?_
 obtain ⟨x1,hx,h⟩:=bind_some h
 have hz_x1:=hx
 refine qzu (C:=Node.cells) env hx rfl rfl Node.cells_len rfl rfl rfl rfl rfl (by decide) rfl rfl rfl ?_
 refine kr [] ?_
 refine qoz env rfl rfl rfl rfl (BV _) (qzk hz_x1) ?_
 refine kr [] ?_
 refine qvj hz_x1 zo rfl rfl (Node.cells_eq a1).symm rfl rfl rfl ?_
 refine kr [] ?_
 cases h
 exact qe3 env rfl (tS [some 0,some 1] (sV (lS (lS (lS (lS lN)))) (sR zo zy)) (wm ke))
def ku (o0:Reader) (o3_0:Int) (o3_1:BA) (o3_2:LB) (o3_3:LN):Option (Except Int (Node × Reader)):=
 some (.ok ((Node.mk o3_0 o3_1 o3_2 o3_3),o0))
@[reducible] def qcx (o0:Reader) (o3_0:Int) (o3_1:BA) (o3_2:LB) (o3_3:LN) (r:Except Int (Node × Reader)):Prop:=
  Ok Tryz.prog G tt 61 1 (exq (fun (r:Node × Reader)=>Ret Tryz.prog [.cell 2 45] (fun y H=>Qq Tryz.prog G 1 H y (.agg (zl r.1)) ⟨1, [(0, .var 130 (Reader.cells r.2))]⟩)) (fun e=>Kv (flt e)) r) (.go [] (vf [56] Tryz.f178 56) [] (.n .undef .z (.n (.ptr 1 1 0) .z (.n (.ptr 3 3 0) .z .z))) 9 [(0, .var 130 (Reader.cells o0)),(1, .var 45 [(.int .i64 0),(.str ⟨#[]⟩),(.sl 0 true []),(.sl 0 true [])]),(2, .dead),(3, .var 45 [(.int .i64 o3_0),(.str o3_1),(.bs 1 4 7 0 o3_2.length),(.bs 4 5 8 0 o3_3.length)]),(7, .row 9 (o3_2.map sc).flatten),(8, .row 45 (o3_3.map Node.cells).flatten)])
theorem Yy:PC5 qcx ku:=fun o0 o3_0 o3_1 o3_2 o3_3 r h=>by
 rw [ku.eq_def] at h
 refine kr [56] ?_
 cases h
 exact jt env rfl rfl (tS [some 0] (sV (lS (lS lN)) zy) (y4 (jz (qm (qe (qj rfl) rfl) (qm (qe (q8 rfl) rfl) (qm (qe (z8 yx rfl) rfl) (qm (qe (z8 zo rfl) rfl) jy))))) (by simp)))
def wi (o0:Reader) (o2:Node):Option (Except Int (Node × Reader)):=
 some (.ok (o2,o0))
@[reducible] def qd6 (o0:Reader) (o2:Node) (r:Except Int (Node × Reader)):Prop:=
  Ok Tryz.prog G tt 33 1 (exq (fun (r:Node × Reader)=>Ret Tryz.prog [.cell 4 45] (fun y H=>Qq Tryz.prog G 1 H y (.agg (zl r.1)) ⟨1, [(0, .var 130 (Reader.cells r.2))]⟩)) (fun e=>Kv (flt e)) r) (.go [] (qb0 [1000000] Tryz.f125 0) [] (.n .undef (.n .undef .z (.n (.ptr 2 2 0) .z .z)) (.n .undef (.n (.ptr 1 1 0) .z .z) .z)) 8 [(0, .var 130 (Reader.cells o0)),(1, .var 45 [(.int .i64 0),(.str ⟨#[]⟩),(.sl 0 true []),(.sl 0 true [])]),(2, .var 45 (zl o2))])
theorem Kt:PC2 qd6 wi:=fun o0 o2 r h=>by
 rw [wi.eq_def] at h
 refine kr [1000000] ?_
 cases h
 exact jt env rfl rfl (tS [some 0] (sV (lS (lS lN)) zy) (y4 (jz (qm (qe (qj rfl) rfl) (qm (qe (q8 rfl) rfl) (qm (qe (q4 (.inl rfl)) rfl) (qm (qe (q4 (.inl rfl)) rfl) jy))))) (by simp)))
mutual
def zj (a0:Reader) (a1:Int):Option (Except Int (Node × Reader)):=
 if (decide ((5:Int) < a1))=true then
  yp (qa a0) >>=fun x1=>
  match x1 with
  | .error ee=>some (.error ee)
  | .ok x1=>
  some (.ok (x1.1,x1.2))
 else
  zj (qa a0) (IntKind.i64.wrap (a1+(1:Int))) >>=fun x2=>
  match x2 with
  | .error ee=>some (.error ee)
  | .ok x2=>
  yb (qa a1) x2.2 x2.1
 partial_fixpoint
def yp (a0:Reader):Option (Except Int (Node × Reader)):=
 zp (qa a0) (⟨#[45]⟩:BA) >>=fun x3=>
 if x3=true then
  yh (qa a0) (25:Int) >>=fun x9=>
  yp x9.2 >>=fun x10=>
  match x10 with
  | .error ee=>some (.error ee)
  | .ok x10=>
  Jc x9.1.kind x9.1.text x9.1.gaps x9.1.kids x10.1 >>=fun x11=>
  some (.ok ((Node.mk x9.1.kind x9.1.text x9.1.gaps x11),x10.2))
 else
  zp (qa a0) (⟨#[33]⟩:BA) >>=fun x4=>
  if x4=true then
   yh (qa a0) (25:Int) >>=fun x5=>
   yp x5.2 >>=fun x6=>
   match x6 with
   | .error ee=>some (.error ee)
   | .ok x6=>
   Jc x5.1.kind x5.1.text x5.1.gaps x5.1.kids x6.1 >>=fun x7=>
   some (.ok ((Node.mk x5.1.kind x5.1.text x5.1.gaps x7),x6.2))
  else
   k7 (qa a0) >>=fun x8=>
   match x8 with
   | .error ee=>some (.error ee)
   | .ok x8=>
   j6 x8.2 x8.1
 partial_fixpoint
def k7 (a0:Reader):Option (Except Int (Node × Reader)):=
 jq (qa a0) >>=fun x12=>
 if (decide (x12.Kind=(2:Int)))=true then
  yh (qa a0) (17:Int) >>=fun x13=>
  some (.ok ((Node.mk x13.1.kind x13.1.text x13.1.gaps x13.1.kids),x13.2))
 else
  zp (qa a0) (⟨#[116,114,117,101]⟩:BA) >>=fun x14=>
  if x14=true then
   yh (qa a0) (18:Int) >>=fun x15=>
   some (.ok ((Node.mk x15.1.kind x15.1.text x15.1.gaps x15.1.kids),x15.2))
  else
   zp (qa a0) (⟨#[102,97,108,115,101]⟩:BA) >>=fun x16=>
   if x16=true then
    yh (qa a0) (18:Int) >>=fun x17=>
    some (.ok ((Node.mk x17.1.kind x17.1.text x17.1.gaps x17.1.kids),x17.2))
   else
    zp (qa a0) (⟨#[115,101,108,102]⟩:BA) >>=fun x18=>
    if x18=true then
     yh (qa a0) (23:Int) >>=fun x19=>
     some (.ok ((Node.mk x19.1.kind x19.1.text x19.1.gaps x19.1.kids),x19.2))
    else
     zp (qa a0) (⟨#[110,101,119]⟩:BA) >>=fun x20=>
     if x20=true then
      q9 (qa a0) (22:Int) (⟨#[]⟩) ([]:LB) ([]:LN) (⟨#[110,101,119]⟩:BA) >>=fun x21=>
      match x21 with
      | .error ee=>some (.error ee)
      | .ok x21=>
      jv x21.1 (22:Int) (⟨#[]⟩) x21.2 ([]:LN) >>=fun x22=>
      match x22 with
      | .error ee=>some (.error ee)
      | .ok x22=>
      q9 x22.1 (22:Int) x22.2.1 x22.2.2 ([]:LN) (⟨#[40]⟩:BA) >>=fun x23=>
      match x23 with
      | .error ee=>some (.error ee)
      | .ok x23=>
      q9 x23.1 (22:Int) x22.2.1 x23.2 ([]:LN) (⟨#[41]⟩:BA) >>=fun x24=>
      match x24 with
      | .error ee=>some (.error ee)
      | .ok x24=>
      some (.ok ((Node.mk (22:Int) x22.2.1 x24.2 ([]:LN)),x24.1))
     else
      zp (qa a0) (⟨#[40]⟩:BA) >>=fun x25=>
      if x25=true then
       q9 (qa a0) (26:Int) (⟨#[]⟩) ([]:LB) ([]:LN) (⟨#[40]⟩:BA) >>=fun x26=>
       match x26 with
       | .error ee=>some (.error ee)
       | .ok x26=>
       zj x26.1 (1:Int) >>=fun x27=>
       match x27 with
       | .error ee=>some (.error ee)
       | .ok x27=>
       jj (26:Int) (⟨#[]⟩) x26.2 ([]:LN) x27.1 >>=fun x28=>
       q9 x27.2 (26:Int) (⟨#[]⟩) x26.2 (qa x28) (⟨#[41]⟩:BA) >>=fun x29=>
       match x29 with
       | .error ee=>some (.error ee)
       | .ok x29=>
       some (.ok ((Node.mk (26:Int) (⟨#[]⟩) x29.2 x28),x29.1))
      else
       jv (qa a0) (19:Int) (⟨#[]⟩) ([]:LB) ([]:LN) >>=fun x30=>
       match x30 with
       | .error ee=>some (.error ee)
       | .ok x30=>
       zp x30.1 (⟨#[40]⟩:BA) >>=fun x31=>
       if x31=true then
        j4 x30.1 (20:Int) x30.2.1 x30.2.2 ([]:LN) >>=fun x32=>
        match x32 with
        | .error ee=>some (.error ee)
        | .ok x32=>
        ku x32.1 (20:Int) x30.2.1 x32.2.1 x32.2.2
       else
        ku x30.1 (19:Int) x30.2.1 x30.2.2 ([]:LN)
 partial_fixpoint
def j4 (a0:Reader) (a1:Int) (a2:BA) (a3:LB) (a4:LN):Option (Except Int (Reader × LB × LN)):=
 q9 (qa a0) (qa a1) (qa a2) (qa a3) (qa a4) (⟨#[40]⟩:BA) >>=fun x33=>
 match x33 with
 | .error ee=>some (.error ee)
 | .ok x33=>
 j3 (qa true) x33.1 (qa a1) (qa a2) x33.2 (qa a4)
 partial_fixpoint
def yb (t1:Int) (o0:Reader) (o2:Node):Option (Except Int (Node × Reader)):=
 jq (qa o0) >>=fun x34=>
 qan (qa x34) >>=fun x35=>
 if (decide (x35=t1))=true then
  yh (qa o0) (24:Int) >>=fun x36=>
  Jc x36.1.kind x36.1.text x36.1.gaps x36.1.kids (qa o2) >>=fun x37=>
  zj x36.2 (IntKind.i64.wrap (t1+(1:Int))) >>=fun x38=>
  match x38 with
  | .error ee=>some (.error ee)
  | .ok x38=>
  Jc x36.1.kind x36.1.text x36.1.gaps (qa x37) x38.1 >>=fun x39=>
  if (decide (t1=(3:Int)))=true then
   wi x38.2 (Node.mk x36.1.kind x36.1.text x36.1.gaps x39)
  else
   yb (qa t1) x38.2 (Node.mk x36.1.kind x36.1.text x36.1.gaps x39)
 else
  wi (qa o0) (qa o2)
 partial_fixpoint
def j6 (o0:Reader) (o2:Node):Option (Except Int (Node × Reader)):=
 zp (qa o0) (⟨#[46]⟩:BA) >>=fun x40=>
 if x40=true then
  q9 (qa o0) (21:Int) (⟨#[]⟩) ([]:LB) ([o2]:LN) (⟨#[46]⟩:BA) >>=fun x41=>
  match x41 with
  | .error ee=>some (.error ee)
  | .ok x41=>
  jv x41.1 (21:Int) (⟨#[]⟩) x41.2 ([o2]:LN) >>=fun x42=>
  match x42 with
  | .error ee=>some (.error ee)
  | .ok x42=>
  j4 x42.1 (21:Int) x42.2.1 x42.2.2 ([o2]:LN) >>=fun x43=>
  match x43 with
  | .error ee=>some (.error ee)
  | .ok x43=>
  j6 x43.1 (Node.mk (21:Int) x42.2.1 x43.2.1 x43.2.2)
 else
  some (.ok (o2,o0))
 partial_fixpoint
def j3 (t4:Bool) (o0:Reader) (o1_0:Int) (o1_1:BA) (o1_2:LB) (o1_3:LN):Option (Except Int (Reader × LB × LN)):=
 zp (qa o0) (⟨#[41]⟩:BA) >>=fun x44=>
 if (!x44)=true then
  if (!t4)=true then
   q9 (qa o0) (qa o1_0) (qa o1_1) (qa o1_2) (qa o1_3) (⟨#[44]⟩:BA) >>=fun x45=>
   match x45 with
   | .error ee=>some (.error ee)
   | .ok x45=>
   ym x45.1 (qa o1_0) (qa o1_1) x45.2 (qa o1_3)
  else
   ym (qa o0) (qa o1_0) (qa o1_1) (qa o1_2) (qa o1_3)
 else
  q9 (qa o0) (qa o1_0) (qa o1_1) (qa o1_2) (qa o1_3) (⟨#[41]⟩:BA) >>=fun x46=>
  match x46 with
  | .error ee=>some (.error ee)
  | .ok x46=>
  some (.ok (x46.1,x46.2,o1_3))
 partial_fixpoint
def ym (o0:Reader) (o1_0:Int) (o1_1:BA) (o1_2:LB) (o1_3:LN):Option (Except Int (Reader × LB × LN)):=
 zj (qa o0) (1:Int) >>=fun x47=>
 match x47 with
 | .error ee=>some (.error ee)
 | .ok x47=>
 jj (qa o1_0) (qa o1_1) (qa o1_2) (qa o1_3) x47.1 >>=fun x48=>
 j3 (qa false) x47.2 (qa o1_0) (qa o1_1) (qa o1_2) (qa x48)
 partial_fixpoint
end
@[reducible] def Jy (a0:Reader) (a1:Int) (r:Except Int (Node × Reader)):Prop:=
  exq (fun (r:Node × Reader)=>AC Tryz.prog G 125 [(.ptr 0 0 0),(.int .i64 a1)] 1 [(0, .var 130 (Reader.cells a0))] (.agg (zl r.1)) 1 [(0, .var 130 (Reader.cells r.2))]) (fun e=>FC Tryz.prog G 125 [(.ptr 0 0 0),(.int .i64 a1)] 1 [(0, .var 130 (Reader.cells a0))] (flt e)) r
@[reducible] def Yj (a0:Reader) (r:Except Int (Node × Reader)):Prop:=
  exq (fun (r:Node × Reader)=>AC Tryz.prog G 154 [(.ptr 0 0 0)] 1 [(0, .var 130 (Reader.cells a0))] (.agg (zl r.1)) 1 [(0, .var 130 (Reader.cells r.2))]) (fun e=>FC Tryz.prog G 154 [(.ptr 0 0 0)] 1 [(0, .var 130 (Reader.cells a0))] (flt e)) r
@[reducible] def Jl (a0:Reader) (r:Except Int (Node × Reader)):Prop:=
  exq (fun (r:Node × Reader)=>AC Tryz.prog G 178 [(.ptr 0 0 0)] 1 [(0, .var 130 (Reader.cells a0))] (.agg (zl r.1)) 1 [(0, .var 130 (Reader.cells r.2))]) (fun e=>FC Tryz.prog G 178 [(.ptr 0 0 0)] 1 [(0, .var 130 (Reader.cells a0))] (flt e)) r
@[reducible] def Zp (a0:Reader) (a1:Int) (a2:BA) (a3:LB) (a4:LN) (r:Except Int (Reader × LB × LN)):Prop:=
  exq (fun (r:Reader × LB × LN)=>AC Tryz.prog G 179 [(.ptr 0 0 0),(.ptr 1 1 0)] 4 [(0, .var 130 (Reader.cells a0)),(1, .var 45 [(.int .i64 a1),(.str a2),(.bs 1 2 2 0 a3.length),(.bs 4 3 3 0 a4.length)]),(2, .row 9 (a3.map sc).flatten),(3, .row 45 (a4.map Node.cells).flatten)] (.tup []) 6 [(0, .var 130 (Reader.cells r.1)),(1, .var 45 [(.int .i64 a1),(.str a2),(.bs 1 2 4 0 r.2.1.length),(.bs 4 3 5 0 r.2.2.length)]),(4, .row 9 (r.2.1.map sc).flatten),(5, .row 45 (r.2.2.map Node.cells).flatten)]) (fun e=>FC Tryz.prog G 179 [(.ptr 0 0 0),(.ptr 1 1 0)] 4 [(0, .var 130 (Reader.cells a0)),(1, .var 45 [(.int .i64 a1),(.str a2),(.bs 1 2 2 0 a3.length),(.bs 4 3 3 0 a4.length)]),(2, .row 9 (a3.map sc).flatten),(3, .row 45 (a4.map Node.cells).flatten)] (flt e)) r
@[reducible] def Zo (t1:Int) (o0:Reader) (o2:Node) (r:Except Int (Node × Reader)):Prop:=
  Ok Tryz.prog G tt 33 1 (exq (fun (r:Node × Reader)=>Ret Tryz.prog [.cell 4 45] (fun y H=>Qq Tryz.prog G 1 H y (.agg (zl r.1)) ⟨1, [(0, .var 130 (Reader.cells r.2))]⟩)) (fun e=>Kv (flt e)) r) (.again (je [1000000] Tryz.f125 0).1 (je [1000000] Tryz.f125 0).2 (.n (.ptr 0 0 0) (.n (.int .i64 t1) .z (.n (.ptr 2 2 0) .z .z)) (.n .undef (.n (.ptr 1 1 0) .z .z) .z)) 3 [(0, .var 130 (Reader.cells o0)),(1, .var 45 [(.int .i64 0),(.str ⟨#[]⟩),(.sl 0 true []),(.sl 0 true [])]),(2, .var 45 (zl o2))])
@[reducible] def Z0 (o0:Reader) (o2:Node) (r:Except Int (Node × Reader)):Prop:=
  Ok Tryz.prog G tt 33 1 (exq (fun (r:Node × Reader)=>Ret Tryz.prog [.cell 2 45] (fun y H=>Qq Tryz.prog G 1 H y (.agg (zl r.1)) ⟨1, [(0, .var 130 (Reader.cells r.2))]⟩)) (fun e=>Kv (flt e)) r) (.again (je [3000023] Tryz.f154 0).1 (je [3000023] Tryz.f154 0).2 (.n (.ptr 0 0 0) .z (.n (.ptr 1 1 0) (.n (.ptr 2 2 0) .z .z) .z)) 3 [(0, .var 130 (Reader.cells o0)),(1, .var 45 [(.int .i64 0),(.str ⟨#[]⟩),(.sl 0 true []),(.sl 0 true [])]),(2, .var 45 (zl o2))])
@[reducible] def Qm (t4:Bool) (o0:Reader) (o1_0:Int) (o1_1:BA) (o1_2:LB) (o1_3:LN) (r:Except Int (Reader × LB × LN)):Prop:=
  Ok Tryz.prog G tt 23 4 (exq (fun (r:Reader × LB × LN)=>Ret Tryz.prog [] (fun y H=>Qq Tryz.prog G 4 H y (.tup []) ⟨6, [(0, .var 130 (Reader.cells r.1)),(1, .var 45 [(.int .i64 o1_0),(.str o1_1),(.bs 1 2 4 0 r.2.1.length),(.bs 4 3 5 0 r.2.2.length)]),(4, .row 9 (r.2.1.map sc).flatten),(5, .row 45 (r.2.2.map Node.cells).flatten)]⟩)) (fun e=>Kv (flt e)) r) (.again (je [12] Tryz.f179 0).1 (je [12] Tryz.f179 0).2 (.n (.ptr 0 0 0) (.n (.ptr 1 1 0) .z .z) (.n .undef (.n (.bool t4) .z .z) .z)) 7 [(0, .var 130 (Reader.cells o0)),(1, .var 45 [(.int .i64 o1_0),(.str o1_1),(.bs 1 2 5 0 o1_2.length),(.bs 4 3 6 0 o1_3.length)]),(5, .row 9 (o1_2.map sc).flatten),(6, .row 45 (o1_3.map Node.cells).flatten)])
@[reducible] def vx (o0:Reader) (o1_0:Int) (o1_1:BA) (o1_2:LB) (o1_3:LN) (r:Except Int (Reader × LB × LN)):Prop:=
  Ok Tryz.prog G tt 23 4 (exq (fun (r:Reader × LB × LN)=>Ret Tryz.prog [] (fun y H=>Qq Tryz.prog G 4 H y (.tup []) ⟨6, [(0, .var 130 (Reader.cells r.1)),(1, .var 45 [(.int .i64 o1_0),(.str o1_1),(.bs 1 2 4 0 r.2.1.length),(.bs 4 3 5 0 r.2.2.length)]),(4, .row 9 (r.2.1.map sc).flatten),(5, .row 45 (r.2.2.map Node.cells).flatten)]⟩)) (fun e=>Kv (flt e)) r) (.go [] (vf [12] Tryz.f179 12) [] (.n (.ptr 0 0 0) (.n (.ptr 1 1 0) .z .z) .z) 10 [(0, .var 130 (Reader.cells o0)),(1, .var 45 [(.int .i64 o1_0),(.str o1_1),(.bs 1 2 8 0 o1_2.length),(.bs 4 3 9 0 o1_3.length)]),(8, .row 9 (o1_2.map sc).flatten),(9, .row 45 (o1_3.map Node.cells).flatten)])
theorem yj:PC2 Jy zj∧PC3 Zo yb∧PC1 Yj yp∧PC2 Z0 j6∧PC5 Zp j4∧PC6 Qm j3∧PC5 vx ym∧PC1 Jl k7:=by
 refine zj.mutual_partial_correctness Jy Zo Yj Z0 Zp Qm vx Jl (fun zj yb yp zd u9 y8 a0 a1 r h=> ?_) (fun zj yb zd u9 t1 o0 o2 r h=> ?_) (fun yp j6 k7 y8 vm Jn a0 r h=> ?_) (fun j6 j4 vm kp o0 o2 r h=> ?_) (fun j3 w9 a0 a1 a2 a3 a4 r h=> ?_) (fun ym v6 t4 o0 o1_0 o1_1 o1_2 o1_3 r h=> ?_) (fun zj j3 zd w9 o0 o1_0 o1_1 o1_2 o1_3 r h=> ?_) (fun zj j4 zd kp a0 r h=> ?_)
 ·unfold qa at h
  refine qa9 (T:=tt) (N:=33) (rs:= [.cell 4 45]) (fun vs w=>by simp) Tryz.func125 rfl rfl rfl (by kernel_rfl) (by kernel_rfl) (ub rfl rfl ky) (jw jd) (fun r=>(ua rfl kw)) (fun r=>(jw jd)) (fun _=>rfl) (fun _=>rfl) rfl (fun _=>rfl) ?_
  refine kr [1000000] ?_
  refine qd (fun hb=> ?_) (fun hb=> ?_)
  ·replace h:=qu hb h
   refine kr [1000000] ?_
   obtain ⟨x1,hx,h⟩:=bind_some h
   rcases x1 with ee | x1
   ·replace h:some (.error ee)=some r:=h
    cases h
    exact zu (FC.go (y8 _ _ hx) [0] [0] rfl rfl rfl rfl rfl rfl)
   refine qr (AC.g9 (y8 _ _ hx) [0] [0]) ?_
   refine kr [1000000] ?_
   cases h
   exact jt env rfl rfl (tS [some 0] (sV (lS (lS lN)) zy) (y4 (jz (qm (qe (qj rfl) rfl) (qm (qe (q8 rfl) rfl) (qm (qe (q4 (.inl rfl)) rfl) (qm (qe (q4 (.inl rfl)) rfl) jy))))) (by simp)))
  replace h:=qv hb h
  refine kr [1000000] ?_
  obtain ⟨x2,hx,h⟩:=bind_some h
  rcases x2 with ee | x2
  ·replace h:some (.error ee)=some r:=h
   cases h
   exact zu (FC.go (zd _ _ _ hx) [0] [0] rfl rfl rfl rfl rfl rfl)
  refine qr (AC.g9 (zd _ _ _ hx) [0] [0]) ?_
  refine kr [1000000] ?_
  exact jb (by kernel_rfl) lQ (u9 _ _ _ _ h)
 ·unfold qa at h
  refine jm ?_
  refine kr [1000000] ?_
  obtain ⟨x34,hx,h⟩:=bind_some h
  refine qr (AC.g9 (j9 _ _ hx) [0] [0]) ?_
  refine kr [1000000] ?_
  obtain ⟨x35,hx,h⟩:=bind_some h
  refine qk (qqa _ _ hx) ?_
  refine kr [1000000] ?_
  refine qd (fun hb=> ?_) (fun hb=> ?_)
  ·replace h:=qu hb h
   refine kr [1000000] ?_
   obtain ⟨x36,hx,h⟩:=bind_some h
   refine qr (ACalls.ghost (e:=45) (AC.g9 (wg _ _ _ hx) [0,3] [0,3])) ?_
   refine kr [1000000] ?_
   obtain ⟨x37,hx,h⟩:=bind_some h
   refine qr (AC.g9 (qat _ _ _ _ _ _ hx) [4,3] [5,4]) ?_
   refine kr [1000000] ?_
   obtain ⟨x38,hx,h⟩:=bind_some h
   rcases x38 with ee | x38
   ·replace h:some (.error ee)=some r:=h
    cases h
    exact zu (FC.go (zd _ _ _ hx) [0] [0] rfl rfl rfl rfl rfl rfl)
   refine qr (AC.g9 (zd _ _ _ hx) [0] [0]) ?_
   refine kr [1000000] ?_
   obtain ⟨x39,hx,h⟩:=bind_some h
   refine qr (AC.g9 (qat _ _ _ _ _ _ hx) [4,3] [5,6]) ?_
   refine kr [1000000] ?_
   refine qd (fun hb=> ?_) (fun hb=> ?_)
   ·replace h:=qu hb h
    refine kr [1000000] ?_
    refine Qg 2 3 3 zo rfl rfl rfl rfl rfl rfl ?_
    exact q6 (by kernel_rfl) rfl lQ (Kt _ _ _ h)
   replace h:=qv hb h
   refine kr [1000000] ?_
   refine qk7 2 3 3 zo rfl rfl rfl rfl rfl ?_
   exact zx (by kernel_rfl) lQ (u9 _ _ _ _ h)
  replace h:=qv hb h
  refine kr [1000000] ?_
  exact q6 (by kernel_rfl) rfl lQ (Kt _ _ _ h)
 ·unfold qa at h
  refine qa9 (T:=tt) (N:=33) (rs:= [.cell 2 45]) (fun vs w=>by simp) Tryz.func154 rfl rfl rfl (by kernel_rfl) (by kernel_rfl) (ub rfl rfl ky) (jw jd) (fun r=>(ua rfl kw)) (fun r=>(jw jd)) (fun _=>rfl) (fun _=>rfl) rfl (fun _=>rfl) ?_
  refine kr [3000023] ?_
  obtain ⟨x3,hx,h⟩:=bind_some h
  refine qr (AC.g9 (zr _ _ _ hx) [0] [0]) ?_
  refine kr [3000023] ?_
  refine qw (fun hb=> ?_) (fun hb=> ?_)
  ·replace h:=qv hb h
   refine kr [3000023] ?_
   obtain ⟨x4,hx,h⟩:=bind_some h
   refine qr (AC.g9 (zr _ _ _ hx) [0] [0]) ?_
   refine kr [3000023] ?_
   refine qd (fun hb=> ?_) (fun hb=> ?_)
   ·replace h:=qu hb h
    refine kr [3000023] ?_
    obtain ⟨x5,hx,h⟩:=bind_some h
    refine qr (ACalls.ghost (e:=45) (AC.g9 (wg _ _ _ hx) [0,2] [0,2])) ?_
    refine kr [3000023] ?_
    obtain ⟨x6,hx,h⟩:=bind_some h
    rcases x6 with ee | x6
    ·replace h:some (.error ee)=some r:=h
     cases h
     exact zu (FC.go (y8 _ _ hx) [0] [0] rfl rfl rfl rfl rfl rfl)
    refine qr (AC.g9 (y8 _ _ hx) [0] [0]) ?_
    refine kr [3000023] ?_
    obtain ⟨x7,hx,h⟩:=bind_some h
    refine qr (AC.g9 (qat _ _ _ _ _ _ hx) [3,2] [4,3]) ?_
    refine kr [3000023] ?_
    cases h
    exact jt env rfl rfl (tS [some 0] (sV (lS (lS lN)) zy) (y4 (jz (qm (qe (qj rfl) rfl) (qm (qe (q8 rfl) rfl) (qm (qe (q4 (.inl rfl)) rfl) (qm (qe (z8 zo rfl) rfl) jy))))) (by simp)))
   replace h:=qv hb h
   refine kr [3000023] ?_
   obtain ⟨x8,hx,h⟩:=bind_some h
   rcases x8 with ee | x8
   ·replace h:some (.error ee)=some r:=h
    cases h
    exact zu (FC.go (Jn _ _ hx) [0] [0] rfl rfl rfl rfl rfl rfl)
   refine qr (AC.g9 (Jn _ _ hx) [0] [0]) ?_
   refine kr [3000023] ?_
   exact jb (by kernel_rfl) lQ (vm _ _ _ h)
  replace h:=qu hb h
  refine kr [3000023] ?_
  obtain ⟨x9,hx,h⟩:=bind_some h
  refine qr (ACalls.ghost (e:=45) (AC.g9 (wg _ _ _ hx) [0,2] [0,2])) ?_
  refine kr [3000023] ?_
  obtain ⟨x10,hx,h⟩:=bind_some h
  rcases x10 with ee | x10
  ·replace h:some (.error ee)=some r:=h
   cases h
   exact zu (FC.go (y8 _ _ hx) [0] [0] rfl rfl rfl rfl rfl rfl)
  refine qr (AC.g9 (y8 _ _ hx) [0] [0]) ?_
  refine kr [3000023] ?_
  obtain ⟨x11,hx,h⟩:=bind_some h
  refine qr (AC.g9 (qat _ _ _ _ _ _ hx) [3,2] [4,3]) ?_
  refine kr [3000023] ?_
  cases h
  exact jt env rfl rfl (tS [some 0] (sV (lS (lS lN)) zy) (y4 (jz (qm (qe (qj rfl) rfl) (qm (qe (q8 rfl) rfl) (qm (qe (q4 (.inl rfl)) rfl) (qm (qe (z8 zo rfl) rfl) jy))))) (by simp)))
 ·unfold qa at h
  refine jm ?_
  refine kr [3000023] ?_
  obtain ⟨x40,hx,h⟩:=bind_some h
  refine qr (AC.g9 (zr _ _ _ hx) [0] [0]) ?_
  refine kr [3000023] ?_
  refine qd (fun hb=> ?_) (fun hb=> ?_)
  ·replace h:=qu hb h
   refine kr [3000023] ?_
   refine q45 (l:= [o2]) (C:=Node.cells) env rfl rfl rfl rfl rfl rfl (by simp only [Ay,AN,Node.cells_eq];rfl) (by simp only [Ay,AN,Node.cells_eq];rfl) rfl ?_
   refine kr [3000023] ?_
   obtain ⟨x41,hx,h⟩:=bind_some h
   rcases x41 with ee | x41
   ·replace h:some (.error ee)=some r:=h
    cases h
    exact zu (FCalls.ghost (e:=9) (FCalls.wkg (FC.go (objs:= [(0, .var 130 (Reader.cells o0)),(1, .var 45 [(.int .i64 0),(.str ⟨#[]⟩),(.sl 0 true []),(.sl 0 true [])]),(2, .var 45 (zl o2)),(3, .row 45 (([o2]:LN).map Node.cells).flatten),(4, .var 45 [(.int .i64 (21:Int)),(.str ⟨#[]⟩),(.bs 1 5 5 0 ([]:LB).length),(.bs 4 3 3 0 ([o2]:LN).length)]),(5, .row 9 (([]:LB).map sc).flatten)]) (xs:= [(.ptr 0 0 0),(.ptr 4 4 0),(.str (⟨#[46]⟩:BA))]) (ql _ _ _ _ _ _ _ hx) [0,4,5,3] [0,4,5,3] rfl rfl rfl rfl rfl rfl) (qt (za _) (qt (za _) (qt (za _) jh))) (qx (qx (qx (qx (j7 (qp (q7 _) (qp (q7 _) (qp (zq rfl) (qp (q7 _) j8)))) (z6 _))))))))
   refine qr (ACalls.ghost (e:=9) (ACalls.wkg (AC.go (objs:= [(0, .var 130 (Reader.cells o0)),(1, .var 45 [(.int .i64 0),(.str ⟨#[]⟩),(.sl 0 true []),(.sl 0 true [])]),(2, .var 45 (zl o2)),(3, .row 45 (([o2]:LN).map Node.cells).flatten),(4, .var 45 [(.int .i64 (21:Int)),(.str ⟨#[]⟩),(.bs 1 5 5 0 ([]:LB).length),(.bs 4 3 3 0 ([o2]:LN).length)]),(5, .row 9 (([]:LB).map sc).flatten)]) (xs:= [(.ptr 0 0 0),(.ptr 4 4 0),(.str (⟨#[46]⟩:BA))]) (ql _ _ _ _ _ _ _ hx) [0,4,5,3] [0,4,5,3] rfl rfl rfl rfl rfl rfl rfl rfl rfl) (qt (za _) (qt (za _) (qt (za _) jh))) (qx (qx (qx (qx (j7 (qp (q7 _) (qp (q7 _) (qp (zq rfl) (qp (q7 _) j8)))) (z6 _)))))))) ?_
   refine kr [3000023] ?_
   obtain ⟨x42,hx,h⟩:=bind_some h
   rcases x42 with ee | x42
   ·replace h:some (.error ee)=some r:=h
    cases h
    exact zu (FC.go (zv _ _ _ _ _ _ hx) [0,4,5,3] [0,4,6,3] rfl rfl rfl rfl rfl rfl)
   refine qr (AC.g9 (zv _ _ _ _ _ _ hx) [0,4,5,3] [0,4,6,3]) ?_
   refine kr [3000023] ?_
   obtain ⟨x43,hx,h⟩:=bind_some h
   rcases x43 with ee | x43
   ·replace h:some (.error ee)=some r:=h
    cases h
    exact zu (FC.go (kp _ _ _ _ _ _ hx) [0,4,5,3] [0,4,7,3] rfl rfl rfl rfl rfl rfl)
   refine qr (AC.g9 (kp _ _ _ _ _ _ hx) [0,4,5,3] [0,4,7,3]) ?_
   refine kr [3000023] ?_
   refine qk7 2 2 5 yx rfl rfl rfl rfl rfl ?_
   refine qk7 2 3 3 zo rfl rfl rfl rfl rfl ?_
   exact zx (by kernel_rfl) lQ (vm _ _ _ h)
  replace h:=qv hb h
  refine kr [3000023] ?_
  cases h
  exact jt env rfl rfl (tS [some 0] (sV (lS (lS lN)) zy) (y4 (jz (qm (qe (qj rfl) rfl) (qm (qe (q8 rfl) rfl) (qm (qe (q4 (.inl rfl)) rfl) (qm (qe (q4 (.inl rfl)) rfl) jy))))) (by simp)))
 ·unfold qa at h
  refine qa9 (T:=tt) (N:=23) (rs:= []) (fun vs w=>by simp) Tryz.func179 rfl rfl rfl (by kernel_rfl) (by kernel_rfl) (ub rfl rfl (ub rfl rfl (Qp yx rfl (Qp zo rfl ky)))) (jw (jw (ka yx (ka zo jd)))) (fun r=>(ua rfl (ua rfl (Ys yx (Ys zo kw))))) (fun r=>(jw (jw (ka yx (ka zo jd))))) (fun _=>rfl) (fun _=>rfl) rfl (fun _=>rfl) ?_
  refine kr [12] ?_
  obtain ⟨x33,hx,h⟩:=bind_some h
  rcases x33 with ee | x33
  ·replace h:some (.error ee)=some r:=h
   cases h
   exact zu (FC.go (ql _ _ _ _ _ _ _ hx) [0,1,2,3] [0,1,2,3] rfl rfl rfl rfl rfl rfl)
  refine qr (AC.g9 (ql _ _ _ _ _ _ _ hx) [0,1,2,3] [0,1,2,3]) ?_
  refine kr [12] ?_
  exact jb (by kernel_rfl) lQ (w9 _ _ _ _ _ _ _ h)
 ·unfold qa at h
  refine jm ?_
  refine kr [12] ?_
  obtain ⟨x44,hx,h⟩:=bind_some h
  refine qr (AC.g9 (zr _ _ _ hx) [0] [0]) ?_
  refine kr [12] ?_
  refine qd (fun hb=> ?_) (fun hb=> ?_)
  ·replace h:=qu hb h
   refine kr [12] ?_
   refine qd (fun hb=> ?_) (fun hb=> ?_)
   ·replace h:=qu hb h
    refine kr [12] ?_
    obtain ⟨x45,hx,h⟩:=bind_some h
    rcases x45 with ee | x45
    ·replace h:some (.error ee)=some r:=h
     cases h
     exact zu (FC.go (ql _ _ _ _ _ _ _ hx) [0,1,2,3] [0,1,5,6] rfl rfl rfl rfl rfl rfl)
    refine qr (AC.g9 (ql _ _ _ _ _ _ _ hx) [0,1,2,3] [0,1,5,6]) ?_
    refine kr [12] ?_
    exact q6 (by kernel_rfl) rfl lQ (v6 _ _ _ _ _ _ h)
   replace h:=qv hb h
   refine kr [12] ?_
   exact q6 (by kernel_rfl) rfl lQ (v6 _ _ _ _ _ _ h)
  replace h:=qv hb h
  refine kr [12] ?_
  obtain ⟨x46,hx,h⟩:=bind_some h
  rcases x46 with ee | x46
  ·replace h:some (.error ee)=some r:=h
   cases h
   exact zu (FC.go (ql _ _ _ _ _ _ _ hx) [0,1,2,3] [0,1,5,6] rfl rfl rfl rfl rfl rfl)
  refine qr (AC.g9 (ql _ _ _ _ _ _ _ hx) [0,1,2,3] [0,1,5,6]) ?_
  refine kr [12] ?_
  cases h
  exact qe3 env rfl (tS [some 0,some 1,some 2,some 3] (sV (lS (lS lN)) (sV (lS (lS (lS (lS lN)))) (sR yx (sR zo zy)))) (wm ke))
 ·unfold qa at h
  refine kr [12] ?_
  obtain ⟨x47,hx,h⟩:=bind_some h
  rcases x47 with ee | x47
  ·replace h:some (.error ee)=some r:=h
   cases h
   exact zu (FC.go (zd _ _ _ hx) [0] [0] rfl rfl rfl rfl rfl rfl)
  refine qr (AC.g9 (zd _ _ _ hx) [0] [0]) ?_
  refine kr [12] ?_
  obtain ⟨x48,hx,h⟩:=bind_some h
  refine qr (AC.g9 (jl _ _ _ _ _ _ hx) [1,2,3] [1,8,9]) ?_
  refine kr [12] ?_
  exact zx (by kernel_rfl) lQ (w9 _ _ _ _ _ _ _ h)
 unfold qa at h
 refine qa9 (T:=tt) (N:=61) (rs:= [.cell 2 45]) (fun vs w=>by simp) Tryz.func178 rfl rfl rfl (by kernel_rfl) (by kernel_rfl) (ub rfl rfl ky) (jw jd) (fun r=>(ua rfl kw)) (fun r=>(jw jd)) (fun _=>rfl) (fun _=>rfl) rfl (fun _=>rfl) ?_
 refine kr [56] ?_
 obtain ⟨x12,hx,h⟩:=bind_some h
 refine qr (AC.g9 (j9 _ _ hx) [0] [0]) ?_
 refine kr [56] ?_
 refine qd (fun hb=> ?_) (fun hb=> ?_)
 ·replace h:=qu hb h
  refine kr [56] ?_
  obtain ⟨x13,hx,h⟩:=bind_some h
  refine qr (ACalls.ghost (e:=45) (AC.g9 (wg _ _ _ hx) [0,3] [0,3])) ?_
  refine kr [56] ?_
  cases h
  exact jt env rfl rfl (tS [some 0] (sV (lS (lS lN)) zy) (y4 (jz (qm (qe (qj rfl) rfl) (qm (qe (q8 rfl) rfl) (qm (qe (q4 (.inl rfl)) rfl) (qm (qe (z8 zo rfl) rfl) jy))))) (by simp)))
 replace h:=qv hb h
 refine kr [56] ?_
 obtain ⟨x14,hx,h⟩:=bind_some h
 refine qr (AC.g9 (zr _ _ _ hx) [0] [0]) ?_
 refine kr [56] ?_
 refine qd (fun hb=> ?_) (fun hb=> ?_)
 ·replace h:=qu hb h
  refine kr [56] ?_
  obtain ⟨x15,hx,h⟩:=bind_some h
  refine qr (ACalls.ghost (e:=45) (AC.g9 (wg _ _ _ hx) [0,3] [0,3])) ?_
  refine kr [56] ?_
  cases h
  exact jt env rfl rfl (tS [some 0] (sV (lS (lS lN)) zy) (y4 (jz (qm (qe (qj rfl) rfl) (qm (qe (q8 rfl) rfl) (qm (qe (q4 (.inl rfl)) rfl) (qm (qe (z8 zo rfl) rfl) jy))))) (by simp)))
 replace h:=qv hb h
 refine kr [56] ?_
 obtain ⟨x16,hx,h⟩:=bind_some h
 refine qr (AC.g9 (zr _ _ _ hx) [0] [0]) ?_
 refine kr [56] ?_
 refine qd (fun hb=> ?_) (fun hb=> ?_)
 ·replace h:=qu hb h
  refine kr [56] ?_
  obtain ⟨x17,hx,h⟩:=bind_some h
  refine qr (ACalls.ghost (e:=45) (AC.g9 (wg _ _ _ hx) [0,3] [0,3])) ?_
  refine kr [56] ?_
  cases h
  exact jt env rfl rfl (tS [some 0] (sV (lS (lS lN)) zy) (y4 (jz (qm (qe (qj rfl) rfl) (qm (qe (q8 rfl) rfl) (qm (qe (q4 (.inl rfl)) rfl) (qm (qe (z8 zo rfl) rfl) jy))))) (by simp)))
 replace h:=qv hb h
 refine kr [56] ?_
 obtain ⟨x18,hx,h⟩:=bind_some h
 refine qr (AC.g9 (zr _ _ _ hx) [0] [0]) ?_
 refine kr [56] ?_
 refine qd (fun hb=> ?_) (fun hb=> ?_)
 ·replace h:=qu hb h
  refine kr [56] ?_
  obtain ⟨x19,hx,h⟩:=bind_some h
  refine qr (ACalls.ghost (e:=45) (AC.g9 (wg _ _ _ hx) [0,3] [0,3])) ?_
  refine kr [56] ?_
  cases h
  exact jt env rfl rfl (tS [some 0] (sV (lS (lS lN)) zy) (y4 (jz (qm (qe (qj rfl) rfl) (qm (qe (q8 rfl) rfl) (qm (qe (q4 (.inl rfl)) rfl) (qm (qe (z8 zo rfl) rfl) jy))))) (by simp)))
 replace h:=qv hb h
 refine kr [56] ?_
 obtain ⟨x20,hx,h⟩:=bind_some h
 refine qr (AC.g9 (zr _ _ _ hx) [0] [0]) ?_
 refine kr [56] ?_
 refine qd (fun hb=> ?_) (fun hb=> ?_)
 ·replace h:=qu hb h
  refine kr [56] ?_
  obtain ⟨x21,hx,h⟩:=bind_some h
  rcases x21 with ee | x21
  ·replace h:some (.error ee)=some r:=h
   cases h
   exact zu (FCalls.ghost (e:=9) (FCalls.ghost (e:=45) (FCalls.wkg (FC.go (objs:= [(0, .var 130 (Reader.cells a0)),(1, .var 45 [(.int .i64 0),(.str ⟨#[]⟩),(.sl 0 true []),(.sl 0 true [])]),(2, .var 118 (Token.cells x12)),(3, .var 45 [(.int .i64 (22:Int)),(.str ⟨#[]⟩),(.bs 1 4 4 0 ([]:LB).length),(.bs 4 5 5 0 ([]:LN).length)]),(4, .row 9 (([]:LB).map sc).flatten),(5, .row 45 (([]:LN).map Node.cells).flatten)]) (xs:= [(.ptr 0 0 0),(.ptr 3 3 0),(.str (⟨#[110,101,119]⟩:BA))]) (ql _ _ _ _ _ _ _ hx) [0,3,4,5] [0,3,4,5] rfl rfl rfl rfl rfl rfl) (qt (za _) (qt (za _) (qt (za _) jh))) (qx (qx (qx (j7 (qp (q7 _) (qp (q7 _) (qp (zq rfl) (qp (zq rfl) j8)))) (z6 _))))))))
  refine qr (ACalls.ghost (e:=9) (ACalls.ghost (e:=45) (ACalls.wkg (AC.go (objs:= [(0, .var 130 (Reader.cells a0)),(1, .var 45 [(.int .i64 0),(.str ⟨#[]⟩),(.sl 0 true []),(.sl 0 true [])]),(2, .var 118 (Token.cells x12)),(3, .var 45 [(.int .i64 (22:Int)),(.str ⟨#[]⟩),(.bs 1 4 4 0 ([]:LB).length),(.bs 4 5 5 0 ([]:LN).length)]),(4, .row 9 (([]:LB).map sc).flatten),(5, .row 45 (([]:LN).map Node.cells).flatten)]) (xs:= [(.ptr 0 0 0),(.ptr 3 3 0),(.str (⟨#[110,101,119]⟩:BA))]) (ql _ _ _ _ _ _ _ hx) [0,3,4,5] [0,3,4,5] rfl rfl rfl rfl rfl rfl rfl rfl rfl) (qt (za _) (qt (za _) (qt (za _) jh))) (qx (qx (qx (j7 (qp (q7 _) (qp (q7 _) (qp (zq rfl) (qp (zq rfl) j8)))) (z6 _)))))))) ?_
  refine kr [56] ?_
  obtain ⟨x22,hx,h⟩:=bind_some h
  rcases x22 with ee | x22
  ·replace h:some (.error ee)=some r:=h
   cases h
   exact zu (FC.go (zv _ _ _ _ _ _ hx) [0,3,4,5] [0,3,6,5] rfl rfl rfl rfl rfl rfl)
  refine qr (AC.g9 (zv _ _ _ _ _ _ hx) [0,3,4,5] [0,3,6,5]) ?_
  refine kr [56] ?_
  obtain ⟨x23,hx,h⟩:=bind_some h
  rcases x23 with ee | x23
  ·replace h:some (.error ee)=some r:=h
   cases h
   exact zu (FC.go (ql _ _ _ _ _ _ _ hx) [0,3,4,5] [0,3,7,5] rfl rfl rfl rfl rfl rfl)
  refine qr (AC.g9 (ql _ _ _ _ _ _ _ hx) [0,3,4,5] [0,3,7,5]) ?_
  refine kr [56] ?_
  obtain ⟨x24,hx,h⟩:=bind_some h
  rcases x24 with ee | x24
  ·replace h:some (.error ee)=some r:=h
   cases h
   exact zu (FC.go (ql _ _ _ _ _ _ _ hx) [0,3,4,5] [0,3,8,5] rfl rfl rfl rfl rfl rfl)
  refine qr (AC.g9 (ql _ _ _ _ _ _ _ hx) [0,3,4,5] [0,3,8,5]) ?_
  refine kr [56] ?_
  cases h
  exact jt env rfl rfl (tS [some 0] (sV (lS (lS lN)) zy) (y4 (jz (qm (qe (qj rfl) rfl) (qm (qe (q8 rfl) rfl) (qm (qe (z8 yx rfl) rfl) (qm (qe (z8 zo rfl) rfl) jy))))) (by simp)))
 replace h:=qv hb h
 refine kr [56] ?_
 obtain ⟨x25,hx,h⟩:=bind_some h
 refine qr (AC.g9 (zr _ _ _ hx) [0] [0]) ?_
 refine kr [56] ?_
 refine qd (fun hb=> ?_) (fun hb=> ?_)
 ·replace h:=qu hb h
  refine kr [56] ?_
  obtain ⟨x26,hx,h⟩:=bind_some h
  rcases x26 with ee | x26
  ·replace h:some (.error ee)=some r:=h
   cases h
   exact zu (FCalls.ghost (e:=9) (FCalls.ghost (e:=45) (FCalls.wkg (FC.go (objs:= [(0, .var 130 (Reader.cells a0)),(1, .var 45 [(.int .i64 0),(.str ⟨#[]⟩),(.sl 0 true []),(.sl 0 true [])]),(2, .var 118 (Token.cells x12)),(3, .var 45 [(.int .i64 (26:Int)),(.str ⟨#[]⟩),(.bs 1 4 4 0 ([]:LB).length),(.bs 4 5 5 0 ([]:LN).length)]),(4, .row 9 (([]:LB).map sc).flatten),(5, .row 45 (([]:LN).map Node.cells).flatten)]) (xs:= [(.ptr 0 0 0),(.ptr 3 3 0),(.str (⟨#[40]⟩:BA))]) (ql _ _ _ _ _ _ _ hx) [0,3,4,5] [0,3,4,5] rfl rfl rfl rfl rfl rfl) (qt (za _) (qt (za _) (qt (za _) jh))) (qx (qx (qx (j7 (qp (q7 _) (qp (q7 _) (qp (zq rfl) (qp (zq rfl) j8)))) (z6 _))))))))
  refine qr (ACalls.ghost (e:=9) (ACalls.ghost (e:=45) (ACalls.wkg (AC.go (objs:= [(0, .var 130 (Reader.cells a0)),(1, .var 45 [(.int .i64 0),(.str ⟨#[]⟩),(.sl 0 true []),(.sl 0 true [])]),(2, .var 118 (Token.cells x12)),(3, .var 45 [(.int .i64 (26:Int)),(.str ⟨#[]⟩),(.bs 1 4 4 0 ([]:LB).length),(.bs 4 5 5 0 ([]:LN).length)]),(4, .row 9 (([]:LB).map sc).flatten),(5, .row 45 (([]:LN).map Node.cells).flatten)]) (xs:= [(.ptr 0 0 0),(.ptr 3 3 0),(.str (⟨#[40]⟩:BA))]) (ql _ _ _ _ _ _ _ hx) [0,3,4,5] [0,3,4,5] rfl rfl rfl rfl rfl rfl rfl rfl rfl) (qt (za _) (qt (za _) (qt (za _) jh))) (qx (qx (qx (j7 (qp (q7 _) (qp (q7 _) (qp (zq rfl) (qp (zq rfl) j8)))) (z6 _)))))))) ?_
  refine kr [56] ?_
  obtain ⟨x27,hx,h⟩:=bind_some h
  rcases x27 with ee | x27
  ·replace h:some (.error ee)=some r:=h
   cases h
   exact zu (FC.go (zd _ _ _ hx) [0] [0] rfl rfl rfl rfl rfl rfl)
  refine qr (AC.g9 (zd _ _ _ hx) [0] [0]) ?_
  refine kr [56] ?_
  obtain ⟨x28,hx,h⟩:=bind_some h
  refine qr (AC.g9 (jl _ _ _ _ _ _ hx) [3,4,5] [3,6,5]) ?_
  refine kr [56] ?_
  obtain ⟨x29,hx,h⟩:=bind_some h
  rcases x29 with ee | x29
  ·replace h:some (.error ee)=some r:=h
   cases h
   exact zu (FC.go (ql _ _ _ _ _ _ _ hx) [0,3,4,5] [0,3,6,7] rfl rfl rfl rfl rfl rfl)
  refine qr (AC.g9 (ql _ _ _ _ _ _ _ hx) [0,3,4,5] [0,3,6,7]) ?_
  refine kr [56] ?_
  cases h
  exact jt env rfl rfl (tS [some 0] (sV (lS (lS lN)) zy) (y4 (jz (qm (qe (qj rfl) rfl) (qm (qe (q8 rfl) rfl) (qm (qe (z8 yx rfl) rfl) (qm (qe (z8 zo rfl) rfl) jy))))) (by simp)))
 replace h:=qv hb h
 refine kr [56] ?_
 obtain ⟨x30,hx,h⟩:=bind_some h
 rcases x30 with ee | x30
 ·replace h:some (.error ee)=some r:=h
  cases h
  exact zu (FCalls.ghost (e:=9) (FCalls.ghost (e:=45) (FCalls.wkg (FC.go (objs:= [(0, .var 130 (Reader.cells a0)),(1, .var 45 [(.int .i64 0),(.str ⟨#[]⟩),(.sl 0 true []),(.sl 0 true [])]),(2, .var 118 (Token.cells x12)),(3, .var 45 [(.int .i64 (19:Int)),(.str ⟨#[]⟩),(.bs 1 4 4 0 ([]:LB).length),(.bs 4 5 5 0 ([]:LN).length)]),(4, .row 9 (([]:LB).map sc).flatten),(5, .row 45 (([]:LN).map Node.cells).flatten)]) (xs:= [(.ptr 0 0 0),(.ptr 3 3 0)]) (zv _ _ _ _ _ _ hx) [0,3,4,5] [0,3,4,5] rfl rfl rfl rfl rfl rfl) (qt (za _) (qt (za _) jh)) (qx (qx (qx (j7 (qp (q7 _) (qp (q7 _) (qp (zq rfl) (qp (zq rfl) j8)))) (z6 _))))))))
 refine qr (ACalls.ghost (e:=9) (ACalls.ghost (e:=45) (ACalls.wkg (AC.go (objs:= [(0, .var 130 (Reader.cells a0)),(1, .var 45 [(.int .i64 0),(.str ⟨#[]⟩),(.sl 0 true []),(.sl 0 true [])]),(2, .var 118 (Token.cells x12)),(3, .var 45 [(.int .i64 (19:Int)),(.str ⟨#[]⟩),(.bs 1 4 4 0 ([]:LB).length),(.bs 4 5 5 0 ([]:LN).length)]),(4, .row 9 (([]:LB).map sc).flatten),(5, .row 45 (([]:LN).map Node.cells).flatten)]) (xs:= [(.ptr 0 0 0),(.ptr 3 3 0)]) (zv _ _ _ _ _ _ hx) [0,3,4,5] [0,3,4,5] rfl rfl rfl rfl rfl rfl rfl rfl rfl) (qt (za _) (qt (za _) jh)) (qx (qx (qx (j7 (qp (q7 _) (qp (q7 _) (qp (zq rfl) (qp (zq rfl) j8)))) (z6 _)))))))) ?_
 refine kr [56] ?_
 obtain ⟨x31,hx,h⟩:=bind_some h
 refine qr (AC.g9 (zr _ _ _ hx) [0] [0]) ?_
 refine kr [56] ?_
 refine qd (fun hb=> ?_) (fun hb=> ?_)
 ·replace h:=qu hb h
  refine kr [56] ?_
  obtain ⟨x32,hx,h⟩:=bind_some h
  rcases x32 with ee | x32
  ·replace h:some (.error ee)=some r:=h
   cases h
   exact zu (FC.go (kp _ _ _ _ _ _ hx) [0,3,4,5] [0,3,6,5] rfl rfl rfl rfl rfl rfl)
  refine qr (AC.g9 (kp _ _ _ _ _ _ hx) [0,3,4,5] [0,3,6,5]) ?_
  refine kr [56] ?_
  exact q6 (by kernel_rfl) rfl lQ (Yy _ _ _ _ _ _ h)
 replace h:=qv hb h
 refine kr [56] ?_
 exact q6 (by kernel_rfl) rfl lQ (Yy _ _ _ _ _ _ h)
theorem zd:PC2 Jy zj:=yj.1
theorem u9:PC3 Zo yb:=yj.2.1
theorem y8:PC1 Yj yp:=yj.2.2.1
theorem vm:PC2 Z0 j6:=yj.2.2.2.1
theorem kp:PC5 Zp j4:=yj.2.2.2.2.1
theorem w9:PC6 Qm j3:=yj.2.2.2.2.2.1
theorem v6:PC5 vx ym:=yj.2.2.2.2.2.2.1
theorem Jn:PC1 Jl k7:=yj.2.2.2.2.2.2.2
def ut (a0:Reader) (a1:Int) (a2:BA):Option (Except Int (Node × Reader)):=
 q9 a0 a1 (⟨#[]⟩) ([]:LB) ([]:LN) a2 >>=fun x1=>
 match x1 with
 | .error ee=>some (.error ee)
 | .ok x1=>
 jv x1.1 a1 (⟨#[]⟩) x1.2 ([]:LN) >>=fun x2=>
 match x2 with
 | .error ee=>some (.error ee)
 | .ok x2=>
 q9 x2.1 a1 x2.2.1 x2.2.2 ([]:LN) (⟨#[61]⟩:BA) >>=fun x3=>
 match x3 with
 | .error ee=>some (.error ee)
 | .ok x3=>
 zj x3.1 (1:Int) >>=fun x4=>
 match x4 with
 | .error ee=>some (.error ee)
 | .ok x4=>
 jj a1 x2.2.1 x3.2 ([]:LN) x4.1 >>=fun x5=>
 q9 x4.2 a1 x2.2.1 x3.2 x5 (⟨#[59]⟩:BA) >>=fun x6=>
 match x6 with
 | .error ee=>some (.error ee)
 | .ok x6=>
 some (.ok ((Node.mk a1 x2.2.1 x6.2 x5),x6.1))
@[reducible] def qgt (a0:Reader) (a1:Int) (a2:BA) (r:Except Int (Node × Reader)):Prop:=
  exq (fun (r:Node × Reader)=>AC Tryz.prog G 85 [(.ptr 0 0 0),(.int .i64 a1),(.str a2)] 1 [(0, .var 130 (Reader.cells a0))] (.agg (zl r.1)) 1 [(0, .var 130 (Reader.cells r.2))]) (fun e=>FC Tryz.prog G 85 [(.ptr 0 0 0),(.int .i64 a1),(.str a2)] 1 [(0, .var 130 (Reader.cells a0))] (flt e)) r
theorem Q2:PC3 qgt ut:=fun a0 a1 a2 r h=>by
 rw [ut.eq_def] at h
 refine qa9 (T:=tt) (N:=23) (rs:= [.cell 6 45]) (fun vs w=>by simp) Tryz.func85 rfl rfl rfl (by kernel_rfl) (by kernel_rfl) (ub rfl rfl ky) (jw jd) (fun r=>(ua rfl kw)) (fun r=>(jw jd)) (fun _=>rfl) (fun _=>rfl) rfl (fun _=>rfl) ?_
 refine kr [] ?_
 obtain ⟨x1,hx,h⟩:=bind_some h
 rcases x1 with ee | x1
 ·replace h:some (.error ee)=some r:=h
  cases h
  exact zu (FCalls.ghost (e:=9) (FCalls.ghost (e:=45) (FCalls.wkg (FC.go (objs:= [(0, .var 130 (Reader.cells a0)),(1, .var 45 [(.int .i64 0),(.str ⟨#[]⟩),(.sl 0 true []),(.sl 0 true [])]),(2, .var 45 [(.int .i64 a1),(.str ⟨#[]⟩),(.bs 1 3 3 0 ([]:LB).length),(.bs 4 4 4 0 ([]:LN).length)]),(3, .row 9 (([]:LB).map sc).flatten),(4, .row 45 (([]:LN).map Node.cells).flatten)]) (xs:= [(.ptr 0 0 0),(.ptr 2 2 0),(.str a2)]) (ql _ _ _ _ _ _ _ hx) [0,2,3,4] [0,2,3,4] rfl rfl rfl rfl rfl rfl) (qt (za _) (qt (za _) (qt (za _) jh))) (qx (qx (j7 (qp (q7 _) (qp (q7 _) (qp (zq rfl) (qp (zq rfl) j8)))) (z6 _)))))))
 refine qr (ACalls.ghost (e:=9) (ACalls.ghost (e:=45) (ACalls.wkg (AC.go (objs:= [(0, .var 130 (Reader.cells a0)),(1, .var 45 [(.int .i64 0),(.str ⟨#[]⟩),(.sl 0 true []),(.sl 0 true [])]),(2, .var 45 [(.int .i64 a1),(.str ⟨#[]⟩),(.bs 1 3 3 0 ([]:LB).length),(.bs 4 4 4 0 ([]:LN).length)]),(3, .row 9 (([]:LB).map sc).flatten),(4, .row 45 (([]:LN).map Node.cells).flatten)]) (xs:= [(.ptr 0 0 0),(.ptr 2 2 0),(.str a2)]) (ql _ _ _ _ _ _ _ hx) [0,2,3,4] [0,2,3,4] rfl rfl rfl rfl rfl rfl rfl rfl rfl) (qt (za _) (qt (za _) (qt (za _) jh))) (qx (qx (j7 (qp (q7 _) (qp (q7 _) (qp (zq rfl) (qp (zq rfl) j8)))) (z6 _))))))) ?_
 refine kr [] ?_
 obtain ⟨x2,hx,h⟩:=bind_some h
 rcases x2 with ee | x2
 ·replace h:some (.error ee)=some r:=h
  cases h
  exact zu (FC.go (zv _ _ _ _ _ _ hx) [0,2,3,4] [0,2,5,4] rfl rfl rfl rfl rfl rfl)
 refine qr (AC.g9 (zv _ _ _ _ _ _ hx) [0,2,3,4] [0,2,5,4]) ?_
 refine kr [] ?_
 obtain ⟨x3,hx,h⟩:=bind_some h
 rcases x3 with ee | x3
 ·replace h:some (.error ee)=some r:=h
  cases h
  exact zu (FC.go (ql _ _ _ _ _ _ _ hx) [0,2,3,4] [0,2,6,4] rfl rfl rfl rfl rfl rfl)
 refine qr (AC.g9 (ql _ _ _ _ _ _ _ hx) [0,2,3,4] [0,2,6,4]) ?_
 refine kr [] ?_
 obtain ⟨x4,hx,h⟩:=bind_some h
 rcases x4 with ee | x4
 ·replace h:some (.error ee)=some r:=h
  cases h
  exact zu (FC.go (zd _ _ _ hx) [0] [0] rfl rfl rfl rfl rfl rfl)
 refine qr (AC.g9 (zd _ _ _ hx) [0] [0]) ?_
 refine kr [] ?_
 obtain ⟨x5,hx,h⟩:=bind_some h
 refine qr (AC.g9 (jl _ _ _ _ _ _ hx) [2,3,4] [2,7,4]) ?_
 refine kr [] ?_
 obtain ⟨x6,hx,h⟩:=bind_some h
 rcases x6 with ee | x6
 ·replace h:some (.error ee)=some r:=h
  cases h
  exact zu (FC.go (ql _ _ _ _ _ _ _ hx) [0,2,3,4] [0,2,7,8] rfl rfl rfl rfl rfl rfl)
 refine qr (AC.g9 (ql _ _ _ _ _ _ _ hx) [0,2,3,4] [0,2,7,8]) ?_
 refine kr [] ?_
 cases h
 exact jt env rfl rfl (tS [some 0] (sV (lS (lS lN)) zy) (y4 (jz (qm (qe (qj rfl) rfl) (qm (qe (q8 rfl) rfl) (qm (qe (z8 yx rfl) rfl) (qm (qe (z8 zo rfl) rfl) jy))))) (by simp)))
def y9 (o0:Reader) (o2_0:Int) (o2_1:BA) (o2_2:LB) (o2_3:LN) (o5:Node):Option (Except Int (Node × Reader)):=
 jj o2_0 o2_1 o2_2 o2_3 o5 >>=fun x37=>
 some (.ok ((Node.mk o2_0 o2_1 o2_2 x37),o0))
@[reducible] def qb2 (o0:Reader) (o2_0:Int) (o2_1:BA) (o2_2:LB) (o2_3:LN) (o5:Node) (r:Except Int (Node × Reader)):Prop:=
  Ok Tryz.prog G tt 106 1 (exq (fun (r:Node × Reader)=>Ret Tryz.prog [.cell 2 45] (fun y H=>Qq Tryz.prog G 1 H y (.agg (zl r.1)) ⟨1, [(0, .var 130 (Reader.cells r.2))]⟩)) (fun e=>Kv (flt e)) r) (.go [] (vf [41,87] Tryz.f153 41) [] (.n .undef (.n .undef .z (.n (.ptr 5 8 0) .z .z)) (.n (.ptr 1 1 0) (.n (.ptr 2 2 0) .z .z) .z)) 13 [(0, .var 130 (Reader.cells o0)),(1, .var 45 [(.int .i64 0),(.str ⟨#[]⟩),(.sl 0 true []),(.sl 0 true [])]),(2, .var 45 [(.int .i64 o2_0),(.str o2_1),(.bs 1 3 5 0 o2_2.length),(.bs 4 4 7 0 o2_3.length)]),(5, .row 9 (o2_2.map sc).flatten),(7, .row 45 (o2_3.map Node.cells).flatten),(8, .var 45 (zl o5))])
theorem Ye:PC6 qb2 y9:=fun o0 o2_0 o2_1 o2_2 o2_3 o5 r h=>by
 rw [y9.eq_def] at h
 refine kr [41,87] ?_
 obtain ⟨x37,hx,h⟩:=bind_some h
 refine qr (AC.g9 (jl _ _ _ _ _ _ hx) [2,3,4] [2,5,7]) ?_
 refine kr [41,87] ?_
 cases h
 exact jt env rfl rfl (tS [some 0] (sV (lS (lS lN)) zy) (y4 (jz (qm (qe (qj rfl) rfl) (qm (qe (q8 rfl) rfl) (qm (qe (z8 yx rfl) rfl) (qm (qe (z8 zo rfl) rfl) jy))))) (by simp)))
def yl (o0:Reader):Option (Except Int (Node × Reader)):=
 zj o0 (1:Int) >>=fun x38=>
 match x38 with
 | .error ee=>some (.error ee)
 | .ok x38=>
 jj (16:Int) (⟨#[]⟩) ([]:LB) ([]:LN) x38.1 >>=fun x39=>
 q9 x38.2 (16:Int) (⟨#[]⟩) ([]:LB) x39 (⟨#[59]⟩:BA) >>=fun x40=>
 match x40 with
 | .error ee=>some (.error ee)
 | .ok x40=>
 some (.ok ((Node.mk (16:Int) (⟨#[]⟩) x40.2 x39),x40.1))
@[reducible] def qb1 (o0:Reader) (r:Except Int (Node × Reader)):Prop:=
  Ok Tryz.prog G tt 106 1 (exq (fun (r:Node × Reader)=>Ret Tryz.prog [.cell 2 45] (fun y H=>Qq Tryz.prog G 1 H y (.agg (zl r.1)) ⟨1, [(0, .var 130 (Reader.cells r.2))]⟩)) (fun e=>Kv (flt e)) r) (.go [] (vf [41,87] Tryz.f153 87) [] (.n (.ptr 0 0 0) .z (.n (.ptr 1 1 0) .z .z)) 3 [(0, .var 130 (Reader.cells o0)),(1, .var 45 [(.int .i64 0),(.str ⟨#[]⟩),(.sl 0 true []),(.sl 0 true [])])])
theorem vy:PC1 qb1 yl:=fun o0 r h=>by
 rw [yl.eq_def] at h
 refine kr [41,87] ?_
 obtain ⟨x38,hx,h⟩:=bind_some h
 rcases x38 with ee | x38
 ·replace h:some (.error ee)=some r:=h
  cases h
  exact zu (FC.go (zd _ _ _ hx) [0] [0] rfl rfl rfl rfl rfl rfl)
 refine qr (AC.g9 (zd _ _ _ hx) [0] [0]) ?_
 refine kr [41,87] ?_
 obtain ⟨x39,hx,h⟩:=bind_some h
 refine qr (ACalls.ghost (e:=9) (ACalls.ghost (e:=45) (ACalls.wkg (AC.go (objs:= [(0, .var 130 (Reader.cells x38.2)),(1, .var 45 [(.int .i64 0),(.str ⟨#[]⟩),(.sl 0 true []),(.sl 0 true [])]),(3, .var 45 [(.int .i64 (16:Int)),(.str ⟨#[]⟩),(.bs 1 3 4 0 ([]:LB).length),(.bs 4 4 5 0 ([]:LN).length)]),(4, .row 9 (([]:LB).map sc).flatten),(5, .row 45 (([]:LN).map Node.cells).flatten)]) (xs:= [(.ptr 2 3 0),(.agg (zl x38.1))]) (jl _ _ _ _ _ _ hx) [2,3,4] [3,4,5] rfl rfl rfl rfl rfl rfl rfl rfl rfl) (qt (za _) (qt (za _) jh)) (qx (qx (j7 (qp (q7 _) (qp (q7 _) (qp (zq rfl) (qp (zq rfl) j8)))) (z6 _))))))) ?_
 refine kr [41,87] ?_
 obtain ⟨x40,hx,h⟩:=bind_some h
 rcases x40 with ee | x40
 ·replace h:some (.error ee)=some r:=h
  cases h
  exact zu (FC.go (ql _ _ _ _ _ _ _ hx) [0,2,3,4] [0,3,4,6] rfl rfl rfl rfl rfl rfl)
 refine qr (AC.g9 (ql _ _ _ _ _ _ _ hx) [0,2,3,4] [0,3,4,6]) ?_
 refine kr [41,87] ?_
 cases h
 exact jt env rfl rfl (tS [some 0] (sV (lS (lS lN)) zy) (y4 (jz (qm (qe (qj rfl) rfl) (qm (qe (q8 rfl) rfl) (qm (qe (z8 yx rfl) rfl) (qm (qe (z8 zo rfl) rfl) jy))))) (by simp)))
mutual
def jx (a0:Reader):Option (Except Int (Node × Reader)):=
 q9 (qa a0) (6:Int) (⟨#[]⟩) ([]:LB) ([]:LN) (⟨#[123]⟩:BA) >>=fun x1=>
 match x1 with
 | .error ee=>some (.error ee)
 | .ok x1=>
 yf x1.1 (6:Int) (⟨#[]⟩) x1.2 ([]:LN)
 partial_fixpoint
def yq (a0:Reader):Option (Except Int (Node × Reader)):=
 zp (qa a0) (⟨#[108,101,116]⟩:BA) >>=fun x2=>
 if x2=true then
  ut (qa a0) (10:Int) (⟨#[108,101,116]⟩:BA) >>=fun x3=>
  match x3 with
  | .error ee=>some (.error ee)
  | .ok x3=>
  some (.ok (x3.1,x3.2))
 else
  zp (qa a0) (⟨#[114,101,116,117,114,110]⟩:BA) >>=fun x4=>
  if x4=true then
   q9 (qa a0) (12:Int) (⟨#[]⟩) ([]:LB) ([]:LN) (⟨#[114,101,116,117,114,110]⟩:BA) >>=fun x5=>
   match x5 with
   | .error ee=>some (.error ee)
   | .ok x5=>
   zj x5.1 (1:Int) >>=fun x6=>
   match x6 with
   | .error ee=>some (.error ee)
   | .ok x6=>
   jj (12:Int) (⟨#[]⟩) x5.2 ([]:LN) x6.1 >>=fun x7=>
   q9 x6.2 (12:Int) (⟨#[]⟩) x5.2 (qa x7) (⟨#[59]⟩:BA) >>=fun x8=>
   match x8 with
   | .error ee=>some (.error ee)
   | .ok x8=>
   some (.ok ((Node.mk (12:Int) (⟨#[]⟩) x8.2 x7),x8.1))
  else
   zp (qa a0) (⟨#[105,102]⟩:BA) >>=fun x9=>
   if x9=true then
    q9 (qa a0) (13:Int) (⟨#[]⟩) ([]:LB) ([]:LN) (⟨#[105,102]⟩:BA) >>=fun x10=>
    match x10 with
    | .error ee=>some (.error ee)
    | .ok x10=>
    zj x10.1 (1:Int) >>=fun x11=>
    match x11 with
    | .error ee=>some (.error ee)
    | .ok x11=>
    jj (13:Int) (⟨#[]⟩) x10.2 ([]:LN) x11.1 >>=fun x12=>
    jx x11.2 >>=fun x13=>
    match x13 with
    | .error ee=>some (.error ee)
    | .ok x13=>
    jj (13:Int) (⟨#[]⟩) x10.2 (qa x12) x13.1 >>=fun x14=>
    zp x13.2 (⟨#[101,108,115,101]⟩:BA) >>=fun x15=>
    if x15=true then
     q9 x13.2 (14:Int) (⟨#[]⟩) ([]:LB) ([]:LN) (⟨#[101,108,115,101]⟩:BA) >>=fun x16=>
     match x16 with
     | .error ee=>some (.error ee)
     | .ok x16=>
     jx x16.1 >>=fun x17=>
     match x17 with
     | .error ee=>some (.error ee)
     | .ok x17=>
     jj (14:Int) (⟨#[]⟩) x16.2 ([]:LN) x17.1 >>=fun x18=>
     y9 x17.2 (13:Int) (⟨#[]⟩) x10.2 (qa x14) (Node.mk (14:Int) (⟨#[]⟩) x16.2 x18)
    else
     y9 x13.2 (13:Int) (⟨#[]⟩) x10.2 (qa x14) (Node.mk (14:Int) (⟨#[]⟩) ([]:LB) ([]:LN))
   else
    zp (qa a0) (⟨#[119,104,105,108,101]⟩:BA) >>=fun x19=>
    if x19=true then
     q9 (qa a0) (15:Int) (⟨#[]⟩) ([]:LB) ([]:LN) (⟨#[119,104,105,108,101]⟩:BA) >>=fun x20=>
     match x20 with
     | .error ee=>some (.error ee)
     | .ok x20=>
     zj x20.1 (1:Int) >>=fun x21=>
     match x21 with
     | .error ee=>some (.error ee)
     | .ok x21=>
     jj (15:Int) (⟨#[]⟩) x20.2 ([]:LN) x21.1 >>=fun x22=>
     jx x21.2 >>=fun x23=>
     match x23 with
     | .error ee=>some (.error ee)
     | .ok x23=>
     jj (15:Int) (⟨#[]⟩) x20.2 (qa x22) x23.1 >>=fun x24=>
     some (.ok ((Node.mk (15:Int) (⟨#[]⟩) x20.2 x24),x23.2))
    else
     jq (qa a0) >>=fun x25=>
     if (decide (x25.Kind=(1:Int)))=true then
      qcf x25.Text >>=fun x26=>
      if x26=true then
       ix a0.l_ (IntKind.i64.wrap (a0.at_+(1:Int))) >>=fun x27=>
       if (decide (x27.Text=(⟨#[61]⟩:BA)))=true then
        jv (qa a0) (11:Int) (⟨#[]⟩) ([]:LB) ([]:LN) >>=fun x28=>
        match x28 with
        | .error ee=>some (.error ee)
        | .ok x28=>
        q9 x28.1 (11:Int) x28.2.1 x28.2.2 ([]:LN) (⟨#[61]⟩:BA) >>=fun x29=>
        match x29 with
        | .error ee=>some (.error ee)
        | .ok x29=>
        zj x29.1 (1:Int) >>=fun x30=>
        match x30 with
        | .error ee=>some (.error ee)
        | .ok x30=>
        jj (11:Int) x28.2.1 x29.2 ([]:LN) x30.1 >>=fun x31=>
        q9 x30.2 (11:Int) x28.2.1 x29.2 (qa x31) (⟨#[59]⟩:BA) >>=fun x32=>
        match x32 with
        | .error ee=>some (.error ee)
        | .ok x32=>
        some (.ok ((Node.mk (11:Int) x28.2.1 x32.2 x31),x32.1))
       else
        yl (qa a0)
      else
       yl (qa a0)
     else
      yl (qa a0)
 partial_fixpoint
def yf (o0:Reader) (o2_0:Int) (o2_1:BA) (o2_2:LB) (o2_3:LN):Option (Except Int (Node × Reader)):=
 zp (qa o0) (⟨#[125]⟩:BA) >>=fun x33=>
 if (!x33)=true then
  yq (qa o0) >>=fun x34=>
  match x34 with
  | .error ee=>some (.error ee)
  | .ok x34=>
  jj (qa o2_0) (qa o2_1) (qa o2_2) (qa o2_3) x34.1 >>=fun x35=>
  yf x34.2 (qa o2_0) (qa o2_1) (qa o2_2) (qa x35)
 else
  q9 (qa o0) (qa o2_0) (qa o2_1) (qa o2_2) (qa o2_3) (⟨#[125]⟩:BA) >>=fun x36=>
  match x36 with
  | .error ee=>some (.error ee)
  | .ok x36=>
  some (.ok ((Node.mk o2_0 o2_1 x36.2 o2_3),x36.1))
 partial_fixpoint
end
@[reducible] def Yk (a0:Reader) (r:Except Int (Node × Reader)):Prop:=
  exq (fun (r:Node × Reader)=>AC Tryz.prog G 124 [(.ptr 0 0 0)] 1 [(0, .var 130 (Reader.cells a0))] (.agg (zl r.1)) 1 [(0, .var 130 (Reader.cells r.2))]) (fun e=>FC Tryz.prog G 124 [(.ptr 0 0 0)] 1 [(0, .var 130 (Reader.cells a0))] (flt e)) r
@[reducible] def Zn (a0:Reader) (r:Except Int (Node × Reader)):Prop:=
  exq (fun (r:Node × Reader)=>AC Tryz.prog G 153 [(.ptr 0 0 0)] 1 [(0, .var 130 (Reader.cells a0))] (.agg (zl r.1)) 1 [(0, .var 130 (Reader.cells r.2))]) (fun e=>FC Tryz.prog G 153 [(.ptr 0 0 0)] 1 [(0, .var 130 (Reader.cells a0))] (flt e)) r
@[reducible] def Z4 (o0:Reader) (o2_0:Int) (o2_1:BA) (o2_2:LB) (o2_3:LN) (r:Except Int (Node × Reader)):Prop:=
  Ok Tryz.prog G tt 16 1 (exq (fun (r:Node × Reader)=>Ret Tryz.prog [.cell 2 45] (fun y H=>Qq Tryz.prog G 1 H y (.agg (zl r.1)) ⟨1, [(0, .var 130 (Reader.cells r.2))]⟩)) (fun e=>Kv (flt e)) r) (.again (je [] Tryz.f124 0).1 (je [] Tryz.f124 0).2 (.n (.ptr 0 0 0) (.n .undef (.n (.ptr 2 2 0) .z .z) .z) (.n (.ptr 1 1 0) .z .z)) 6 [(0, .var 130 (Reader.cells o0)),(1, .var 45 [(.int .i64 0),(.str ⟨#[]⟩),(.sl 0 true []),(.sl 0 true [])]),(2, .var 45 [(.int .i64 o2_0),(.str o2_1),(.bs 1 3 5 0 o2_2.length),(.bs 4 4 4 0 o2_3.length)]),(5, .row 9 (o2_2.map sc).flatten),(4, .row 45 (o2_3.map Node.cells).flatten)])
theorem Jr:PC1 Yk jx∧PC5 Z4 yf∧PC1 Zn yq:=by
 refine jx.mutual_partial_correctness Yk Z4 Zn (fun yf vq a0 r h=> ?_) (fun yf yq vq Zq o0 o2_0 o2_1 o2_2 o2_3 r h=> ?_) (fun jx yo a0 r h=> ?_)
 ·unfold qa at h
  refine qa9 (T:=tt) (N:=16) (rs:= [.cell 2 45]) (fun vs w=>by simp) Tryz.func124 rfl rfl rfl (by kernel_rfl) (by kernel_rfl) (ub rfl rfl ky) (jw jd) (fun r=>(ua rfl kw)) (fun r=>(jw jd)) (fun _=>rfl) (fun _=>rfl) rfl (fun _=>rfl) ?_
  refine kr [] ?_
  obtain ⟨x1,hx,h⟩:=bind_some h
  rcases x1 with ee | x1
  ·replace h:some (.error ee)=some r:=h
   cases h
   exact zu (FCalls.ghost (e:=9) (FCalls.ghost (e:=45) (FCalls.wkg (FC.go (objs:= [(0, .var 130 (Reader.cells a0)),(1, .var 45 [(.int .i64 0),(.str ⟨#[]⟩),(.sl 0 true []),(.sl 0 true [])]),(2, .var 45 [(.int .i64 (6:Int)),(.str ⟨#[]⟩),(.bs 1 3 3 0 ([]:LB).length),(.bs 4 4 4 0 ([]:LN).length)]),(3, .row 9 (([]:LB).map sc).flatten),(4, .row 45 (([]:LN).map Node.cells).flatten)]) (xs:= [(.ptr 0 0 0),(.ptr 2 2 0),(.str (⟨#[123]⟩:BA))]) (ql _ _ _ _ _ _ _ hx) [0,2,3,4] [0,2,3,4] rfl rfl rfl rfl rfl rfl) (qt (za _) (qt (za _) (qt (za _) jh))) (qx (qx (j7 (qp (q7 _) (qp (q7 _) (qp (zq rfl) (qp (zq rfl) j8)))) (z6 _)))))))
  refine qr (ACalls.ghost (e:=9) (ACalls.ghost (e:=45) (ACalls.wkg (AC.go (objs:= [(0, .var 130 (Reader.cells a0)),(1, .var 45 [(.int .i64 0),(.str ⟨#[]⟩),(.sl 0 true []),(.sl 0 true [])]),(2, .var 45 [(.int .i64 (6:Int)),(.str ⟨#[]⟩),(.bs 1 3 3 0 ([]:LB).length),(.bs 4 4 4 0 ([]:LN).length)]),(3, .row 9 (([]:LB).map sc).flatten),(4, .row 45 (([]:LN).map Node.cells).flatten)]) (xs:= [(.ptr 0 0 0),(.ptr 2 2 0),(.str (⟨#[123]⟩:BA))]) (ql _ _ _ _ _ _ _ hx) [0,2,3,4] [0,2,3,4] rfl rfl rfl rfl rfl rfl rfl rfl rfl) (qt (za _) (qt (za _) (qt (za _) jh))) (qx (qx (j7 (qp (q7 _) (qp (q7 _) (qp (zq rfl) (qp (zq rfl) j8)))) (z6 _))))))) ?_
  refine kr [] ?_
  exact jb (by kernel_rfl) lQ (vq _ _ _ _ _ _ h)
 ·unfold qa at h
  refine jm ?_
  refine kr [] ?_
  obtain ⟨x33,hx,h⟩:=bind_some h
  refine qr (AC.g9 (zr _ _ _ hx) [0] [0]) ?_
  refine kr [] ?_
  refine qd (fun hb=> ?_) (fun hb=> ?_)
  ·replace h:=qu hb h
   refine kr [] ?_
   obtain ⟨x34,hx,h⟩:=bind_some h
   rcases x34 with ee | x34
   ·replace h:some (.error ee)=some r:=h
    cases h
    exact zu (FC.go (Zq _ _ hx) [0] [0] rfl rfl rfl rfl rfl rfl)
   refine qr (AC.g9 (Zq _ _ hx) [0] [0]) ?_
   refine kr [] ?_
   obtain ⟨x35,hx,h⟩:=bind_some h
   refine qr (AC.g9 (jl _ _ _ _ _ _ hx) [2,3,4] [2,5,4]) ?_
   refine kr [] ?_
   exact zx (by kernel_rfl) lQ (vq _ _ _ _ _ _ h)
  replace h:=qv hb h
  refine kr [] ?_
  obtain ⟨x36,hx,h⟩:=bind_some h
  rcases x36 with ee | x36
  ·replace h:some (.error ee)=some r:=h
   cases h
   exact zu (FC.go (ql _ _ _ _ _ _ _ hx) [0,2,3,4] [0,2,5,4] rfl rfl rfl rfl rfl rfl)
  refine qr (AC.g9 (ql _ _ _ _ _ _ _ hx) [0,2,3,4] [0,2,5,4]) ?_
  refine kr [] ?_
  cases h
  exact jt env rfl rfl (tS [some 0] (sV (lS (lS lN)) zy) (y4 (jz (qm (qe (qj rfl) rfl) (qm (qe (q8 rfl) rfl) (qm (qe (z8 yx rfl) rfl) (qm (qe (z8 zo rfl) rfl) jy))))) (by simp)))
 unfold qa at h
 refine qa9 (T:=tt) (N:=106) (rs:= [.cell 2 45]) (fun vs w=>by simp) Tryz.func153 rfl rfl rfl (by kernel_rfl) (by kernel_rfl) (ub rfl rfl ky) (jw jd) (fun r=>(ua rfl kw)) (fun r=>(jw jd)) (fun _=>rfl) (fun _=>rfl) rfl (fun _=>rfl) ?_
 refine kr [41,87] ?_
 obtain ⟨x2,hx,h⟩:=bind_some h
 refine qr (AC.g9 (zr _ _ _ hx) [0] [0]) ?_
 refine kr [41,87] ?_
 refine qd (fun hb=> ?_) (fun hb=> ?_)
 ·replace h:=qu hb h
  refine kr [41,87] ?_
  obtain ⟨x3,hx,h⟩:=bind_some h
  rcases x3 with ee | x3
  ·replace h:some (.error ee)=some r:=h
   cases h
   exact zu (FC.go (Q2 _ _ _ _ hx) [0] [0] rfl rfl rfl rfl rfl rfl)
  refine qr (AC.g9 (Q2 _ _ _ _ hx) [0] [0]) ?_
  refine kr [41,87] ?_
  cases h
  exact jt env rfl rfl (tS [some 0] (sV (lS (lS lN)) zy) (y4 (jz (qm (qe (qj rfl) rfl) (qm (qe (q8 rfl) rfl) (qm (qe (q4 (.inl rfl)) rfl) (qm (qe (q4 (.inl rfl)) rfl) jy))))) (by simp)))
 replace h:=qv hb h
 refine kr [41,87] ?_
 obtain ⟨x4,hx,h⟩:=bind_some h
 refine qr (AC.g9 (zr _ _ _ hx) [0] [0]) ?_
 refine kr [41,87] ?_
 refine qd (fun hb=> ?_) (fun hb=> ?_)
 ·replace h:=qu hb h
  refine kr [41,87] ?_
  obtain ⟨x5,hx,h⟩:=bind_some h
  rcases x5 with ee | x5
  ·replace h:some (.error ee)=some r:=h
   cases h
   exact zu (FCalls.ghost (e:=9) (FCalls.ghost (e:=45) (FCalls.wkg (FC.go (objs:= [(0, .var 130 (Reader.cells a0)),(1, .var 45 [(.int .i64 0),(.str ⟨#[]⟩),(.sl 0 true []),(.sl 0 true [])]),(2, .var 45 [(.int .i64 (12:Int)),(.str ⟨#[]⟩),(.bs 1 3 3 0 ([]:LB).length),(.bs 4 4 4 0 ([]:LN).length)]),(3, .row 9 (([]:LB).map sc).flatten),(4, .row 45 (([]:LN).map Node.cells).flatten)]) (xs:= [(.ptr 0 0 0),(.ptr 2 2 0),(.str (⟨#[114,101,116,117,114,110]⟩:BA))]) (ql _ _ _ _ _ _ _ hx) [0,2,3,4] [0,2,3,4] rfl rfl rfl rfl rfl rfl) (qt (za _) (qt (za _) (qt (za _) jh))) (qx (qx (j7 (qp (q7 _) (qp (q7 _) (qp (zq rfl) (qp (zq rfl) j8)))) (z6 _)))))))
  refine qr (ACalls.ghost (e:=9) (ACalls.ghost (e:=45) (ACalls.wkg (AC.go (objs:= [(0, .var 130 (Reader.cells a0)),(1, .var 45 [(.int .i64 0),(.str ⟨#[]⟩),(.sl 0 true []),(.sl 0 true [])]),(2, .var 45 [(.int .i64 (12:Int)),(.str ⟨#[]⟩),(.bs 1 3 3 0 ([]:LB).length),(.bs 4 4 4 0 ([]:LN).length)]),(3, .row 9 (([]:LB).map sc).flatten),(4, .row 45 (([]:LN).map Node.cells).flatten)]) (xs:= [(.ptr 0 0 0),(.ptr 2 2 0),(.str (⟨#[114,101,116,117,114,110]⟩:BA))]) (ql _ _ _ _ _ _ _ hx) [0,2,3,4] [0,2,3,4] rfl rfl rfl rfl rfl rfl rfl rfl rfl) (qt (za _) (qt (za _) (qt (za _) jh))) (qx (qx (j7 (qp (q7 _) (qp (q7 _) (qp (zq rfl) (qp (zq rfl) j8)))) (z6 _))))))) ?_
  refine kr [41,87] ?_
  obtain ⟨x6,hx,h⟩:=bind_some h
  rcases x6 with ee | x6
  ·replace h:some (.error ee)=some r:=h
   cases h
   exact zu (FC.go (zd _ _ _ hx) [0] [0] rfl rfl rfl rfl rfl rfl)
  refine qr (AC.g9 (zd _ _ _ hx) [0] [0]) ?_
  refine kr [41,87] ?_
  obtain ⟨x7,hx,h⟩:=bind_some h
  refine qr (AC.g9 (jl _ _ _ _ _ _ hx) [2,3,4] [2,5,4]) ?_
  refine kr [41,87] ?_
  obtain ⟨x8,hx,h⟩:=bind_some h
  rcases x8 with ee | x8
  ·replace h:some (.error ee)=some r:=h
   cases h
   exact zu (FC.go (ql _ _ _ _ _ _ _ hx) [0,2,3,4] [0,2,5,6] rfl rfl rfl rfl rfl rfl)
  refine qr (AC.g9 (ql _ _ _ _ _ _ _ hx) [0,2,3,4] [0,2,5,6]) ?_
  refine kr [41,87] ?_
  cases h
  exact jt env rfl rfl (tS [some 0] (sV (lS (lS lN)) zy) (y4 (jz (qm (qe (qj rfl) rfl) (qm (qe (q8 rfl) rfl) (qm (qe (z8 yx rfl) rfl) (qm (qe (z8 zo rfl) rfl) jy))))) (by simp)))
 replace h:=qv hb h
 refine kr [41,87] ?_
 obtain ⟨x9,hx,h⟩:=bind_some h
 refine qr (AC.g9 (zr _ _ _ hx) [0] [0]) ?_
 refine kr [41,87] ?_
 refine qd (fun hb=> ?_) (fun hb=> ?_)
 ·replace h:=qu hb h
  refine kr [41,87] ?_
  obtain ⟨x10,hx,h⟩:=bind_some h
  rcases x10 with ee | x10
  ·replace h:some (.error ee)=some r:=h
   cases h
   exact zu (FCalls.ghost (e:=9) (FCalls.ghost (e:=45) (FCalls.wkg (FC.go (objs:= [(0, .var 130 (Reader.cells a0)),(1, .var 45 [(.int .i64 0),(.str ⟨#[]⟩),(.sl 0 true []),(.sl 0 true [])]),(2, .var 45 [(.int .i64 (13:Int)),(.str ⟨#[]⟩),(.bs 1 3 3 0 ([]:LB).length),(.bs 4 4 4 0 ([]:LN).length)]),(3, .row 9 (([]:LB).map sc).flatten),(4, .row 45 (([]:LN).map Node.cells).flatten)]) (xs:= [(.ptr 0 0 0),(.ptr 2 2 0),(.str (⟨#[105,102]⟩:BA))]) (ql _ _ _ _ _ _ _ hx) [0,2,3,4] [0,2,3,4] rfl rfl rfl rfl rfl rfl) (qt (za _) (qt (za _) (qt (za _) jh))) (qx (qx (j7 (qp (q7 _) (qp (q7 _) (qp (zq rfl) (qp (zq rfl) j8)))) (z6 _)))))))
  refine qr (ACalls.ghost (e:=9) (ACalls.ghost (e:=45) (ACalls.wkg (AC.go (objs:= [(0, .var 130 (Reader.cells a0)),(1, .var 45 [(.int .i64 0),(.str ⟨#[]⟩),(.sl 0 true []),(.sl 0 true [])]),(2, .var 45 [(.int .i64 (13:Int)),(.str ⟨#[]⟩),(.bs 1 3 3 0 ([]:LB).length),(.bs 4 4 4 0 ([]:LN).length)]),(3, .row 9 (([]:LB).map sc).flatten),(4, .row 45 (([]:LN).map Node.cells).flatten)]) (xs:= [(.ptr 0 0 0),(.ptr 2 2 0),(.str (⟨#[105,102]⟩:BA))]) (ql _ _ _ _ _ _ _ hx) [0,2,3,4] [0,2,3,4] rfl rfl rfl rfl rfl rfl rfl rfl rfl) (qt (za _) (qt (za _) (qt (za _) jh))) (qx (qx (j7 (qp (q7 _) (qp (q7 _) (qp (zq rfl) (qp (zq rfl) j8)))) (z6 _))))))) ?_
  refine kr [41,87] ?_
  obtain ⟨x11,hx,h⟩:=bind_some h
  rcases x11 with ee | x11
  ·replace h:some (.error ee)=some r:=h
   cases h
   exact zu (FC.go (zd _ _ _ hx) [0] [0] rfl rfl rfl rfl rfl rfl)
  refine qr (AC.g9 (zd _ _ _ hx) [0] [0]) ?_
  refine kr [41,87] ?_
  obtain ⟨x12,hx,h⟩:=bind_some h
  refine qr (AC.g9 (jl _ _ _ _ _ _ hx) [2,3,4] [2,5,4]) ?_
  refine kr [41,87] ?_
  obtain ⟨x13,hx,h⟩:=bind_some h
  rcases x13 with ee | x13
  ·replace h:some (.error ee)=some r:=h
   cases h
   exact zu (FC.go (yo _ _ hx) [0] [0] rfl rfl rfl rfl rfl rfl)
  refine qr (AC.g9 (yo _ _ hx) [0] [0]) ?_
  refine kr [41,87] ?_
  obtain ⟨x14,hx,h⟩:=bind_some h
  refine qr (AC.g9 (jl _ _ _ _ _ _ hx) [2,3,4] [2,5,6]) ?_
  refine kr [41,87] ?_
  obtain ⟨x15,hx,h⟩:=bind_some h
  refine qr (AC.g9 (zr _ _ _ hx) [0] [0]) ?_
  refine kr [41,87] ?_
  refine qd (fun hb=> ?_) (fun hb=> ?_)
  ·replace h:=qu hb h
   refine kr [41,87] ?_
   obtain ⟨x16,hx,h⟩:=bind_some h
   rcases x16 with ee | x16
   ·replace h:some (.error ee)=some r:=h
    cases h
    exact zu (FCalls.ghost (e:=9) (FCalls.ghost (e:=45) (FCalls.wkg (FC.go (objs:= [(0, .var 130 (Reader.cells x13.2)),(1, .var 45 [(.int .i64 0),(.str ⟨#[]⟩),(.sl 0 true []),(.sl 0 true [])]),(2, .var 45 [(.int .i64 (13:Int)),(.str ⟨#[]⟩),(.bs 1 3 5 0 x10.2.length),(.bs 4 4 7 0 x14.length)]),(5, .row 9 (x10.2.map sc).flatten),(7, .row 45 (x14.map Node.cells).flatten),(8, .var 45 [(.int .i64 (14:Int)),(.str ⟨#[]⟩),(.bs 1 6 9 0 ([]:LB).length),(.bs 4 7 10 0 ([]:LN).length)]),(9, .row 9 (([]:LB).map sc).flatten),(10, .row 45 (([]:LN).map Node.cells).flatten)]) (xs:= [(.ptr 0 0 0),(.ptr 5 8 0),(.str (⟨#[101,108,115,101]⟩:BA))]) (ql _ _ _ _ _ _ _ hx) [0,5,6,7] [0,8,9,10] rfl rfl rfl rfl rfl rfl) (qt (za _) (qt (za _) (qt (za _) jh))) (qx (qx (qx (qx (qx (j7 (qp (q7 _) (qp (q7 _) (qp (zq rfl) (qp (zq rfl) j8)))) (z6 _))))))))))
   refine qr (ACalls.ghost (e:=9) (ACalls.ghost (e:=45) (ACalls.wkg (AC.go (objs:= [(0, .var 130 (Reader.cells x13.2)),(1, .var 45 [(.int .i64 0),(.str ⟨#[]⟩),(.sl 0 true []),(.sl 0 true [])]),(2, .var 45 [(.int .i64 (13:Int)),(.str ⟨#[]⟩),(.bs 1 3 5 0 x10.2.length),(.bs 4 4 7 0 x14.length)]),(5, .row 9 (x10.2.map sc).flatten),(7, .row 45 (x14.map Node.cells).flatten),(8, .var 45 [(.int .i64 (14:Int)),(.str ⟨#[]⟩),(.bs 1 6 9 0 ([]:LB).length),(.bs 4 7 10 0 ([]:LN).length)]),(9, .row 9 (([]:LB).map sc).flatten),(10, .row 45 (([]:LN).map Node.cells).flatten)]) (xs:= [(.ptr 0 0 0),(.ptr 5 8 0),(.str (⟨#[101,108,115,101]⟩:BA))]) (ql _ _ _ _ _ _ _ hx) [0,5,6,7] [0,8,9,10] rfl rfl rfl rfl rfl rfl rfl rfl rfl) (qt (za _) (qt (za _) (qt (za _) jh))) (qx (qx (qx (qx (qx (j7 (qp (q7 _) (qp (q7 _) (qp (zq rfl) (qp (zq rfl) j8)))) (z6 _)))))))))) ?_
   refine kr [41,87] ?_
   obtain ⟨x17,hx,h⟩:=bind_some h
   rcases x17 with ee | x17
   ·replace h:some (.error ee)=some r:=h
    cases h
    exact zu (FC.go (yo _ _ hx) [0] [0] rfl rfl rfl rfl rfl rfl)
   refine qr (AC.g9 (yo _ _ hx) [0] [0]) ?_
   refine kr [41,87] ?_
   obtain ⟨x18,hx,h⟩:=bind_some h
   refine qr (AC.g9 (jl _ _ _ _ _ _ hx) [5,6,7] [8,11,10]) ?_
   refine kr [41,87] ?_
   refine Qg 5 2 6 yx rfl rfl rfl rfl rfl rfl ?_
   refine Qg 5 3 7 zo rfl rfl rfl rfl rfl rfl ?_
   exact q6 (by kernel_rfl) rfl lQ (Ye _ _ _ _ _ _ _ h)
  replace h:=qv hb h
  refine kr [41,87] ?_
  exact q6 (by kernel_rfl) rfl lQ (Ye _ _ _ _ _ _ _ h)
 replace h:=qv hb h
 refine kr [41,87] ?_
 obtain ⟨x19,hx,h⟩:=bind_some h
 refine qr (AC.g9 (zr _ _ _ hx) [0] [0]) ?_
 refine kr [41,87] ?_
 refine qd (fun hb=> ?_) (fun hb=> ?_)
 ·replace h:=qu hb h
  refine kr [41,87] ?_
  obtain ⟨x20,hx,h⟩:=bind_some h
  rcases x20 with ee | x20
  ·replace h:some (.error ee)=some r:=h
   cases h
   exact zu (FCalls.ghost (e:=9) (FCalls.ghost (e:=45) (FCalls.wkg (FC.go (objs:= [(0, .var 130 (Reader.cells a0)),(1, .var 45 [(.int .i64 0),(.str ⟨#[]⟩),(.sl 0 true []),(.sl 0 true [])]),(2, .var 45 [(.int .i64 (15:Int)),(.str ⟨#[]⟩),(.bs 1 3 3 0 ([]:LB).length),(.bs 4 4 4 0 ([]:LN).length)]),(3, .row 9 (([]:LB).map sc).flatten),(4, .row 45 (([]:LN).map Node.cells).flatten)]) (xs:= [(.ptr 0 0 0),(.ptr 2 2 0),(.str (⟨#[119,104,105,108,101]⟩:BA))]) (ql _ _ _ _ _ _ _ hx) [0,2,3,4] [0,2,3,4] rfl rfl rfl rfl rfl rfl) (qt (za _) (qt (za _) (qt (za _) jh))) (qx (qx (j7 (qp (q7 _) (qp (q7 _) (qp (zq rfl) (qp (zq rfl) j8)))) (z6 _)))))))
  refine qr (ACalls.ghost (e:=9) (ACalls.ghost (e:=45) (ACalls.wkg (AC.go (objs:= [(0, .var 130 (Reader.cells a0)),(1, .var 45 [(.int .i64 0),(.str ⟨#[]⟩),(.sl 0 true []),(.sl 0 true [])]),(2, .var 45 [(.int .i64 (15:Int)),(.str ⟨#[]⟩),(.bs 1 3 3 0 ([]:LB).length),(.bs 4 4 4 0 ([]:LN).length)]),(3, .row 9 (([]:LB).map sc).flatten),(4, .row 45 (([]:LN).map Node.cells).flatten)]) (xs:= [(.ptr 0 0 0),(.ptr 2 2 0),(.str (⟨#[119,104,105,108,101]⟩:BA))]) (ql _ _ _ _ _ _ _ hx) [0,2,3,4] [0,2,3,4] rfl rfl rfl rfl rfl rfl rfl rfl rfl) (qt (za _) (qt (za _) (qt (za _) jh))) (qx (qx (j7 (qp (q7 _) (qp (q7 _) (qp (zq rfl) (qp (zq rfl) j8)))) (z6 _))))))) ?_
  refine kr [41,87] ?_
  obtain ⟨x21,hx,h⟩:=bind_some h
  rcases x21 with ee | x21
  ·replace h:some (.error ee)=some r:=h
   cases h
   exact zu (FC.go (zd _ _ _ hx) [0] [0] rfl rfl rfl rfl rfl rfl)
  refine qr (AC.g9 (zd _ _ _ hx) [0] [0]) ?_
  refine kr [41,87] ?_
  obtain ⟨x22,hx,h⟩:=bind_some h
  refine qr (AC.g9 (jl _ _ _ _ _ _ hx) [2,3,4] [2,5,4]) ?_
  refine kr [41,87] ?_
  obtain ⟨x23,hx,h⟩:=bind_some h
  rcases x23 with ee | x23
  ·replace h:some (.error ee)=some r:=h
   cases h
   exact zu (FC.go (yo _ _ hx) [0] [0] rfl rfl rfl rfl rfl rfl)
  refine qr (AC.g9 (yo _ _ hx) [0] [0]) ?_
  refine kr [41,87] ?_
  obtain ⟨x24,hx,h⟩:=bind_some h
  refine qr (AC.g9 (jl _ _ _ _ _ _ hx) [2,3,4] [2,5,6]) ?_
  refine kr [41,87] ?_
  cases h
  exact jt env rfl rfl (tS [some 0] (sV (lS (lS lN)) zy) (y4 (jz (qm (qe (qj rfl) rfl) (qm (qe (q8 rfl) rfl) (qm (qe (z8 yx rfl) rfl) (qm (qe (z8 zo rfl) rfl) jy))))) (by simp)))
 replace h:=qv hb h
 refine kr [41,87] ?_
 obtain ⟨x25,hx,h⟩:=bind_some h
 refine qr (AC.g9 (j9 _ _ hx) [0] [0]) ?_
 refine kr [41,87] ?_
 refine qq (fun hb=> ?_) (fun hb=> ?_)
 ·replace h:=qu hb h
  refine kr [41,87] ?_
  obtain ⟨x26,hx,h⟩:=bind_some h
  refine qk (qkk _ _ hx) ?_
  refine kr [41,87] ?_
  refine qq (fun hb=> ?_) (fun hb=> ?_)
  ·replace h:=qu hb h
   refine kr [41,87] ?_
   obtain ⟨x27,hx,h⟩:=bind_some h
   refine ja env hx rfl rfl rfl rfl rfl ?_
   refine kr [41,87] ?_
   refine qd (fun hb=> ?_) (fun hb=> ?_)
   ·replace h:=qu hb h
    refine kr [41,87] ?_
    obtain ⟨x28,hx,h⟩:=bind_some h
    rcases x28 with ee | x28
    ·replace h:some (.error ee)=some r:=h
     cases h
     exact zu (FCalls.ghost (e:=9) (FCalls.ghost (e:=45) (FCalls.wkg (FC.go (objs:= [(0, .var 130 (Reader.cells a0)),(1, .var 45 [(.int .i64 0),(.str ⟨#[]⟩),(.sl 0 true []),(.sl 0 true [])]),(2, .var 118 (Token.cells x25)),(3, .var 45 [(.int .i64 (11:Int)),(.str ⟨#[]⟩),(.bs 1 4 4 0 ([]:LB).length),(.bs 4 5 5 0 ([]:LN).length)]),(4, .row 9 (([]:LB).map sc).flatten),(5, .row 45 (([]:LN).map Node.cells).flatten)]) (xs:= [(.ptr 0 0 0),(.ptr 3 3 0)]) (zv _ _ _ _ _ _ hx) [0,3,4,5] [0,3,4,5] rfl rfl rfl rfl rfl rfl) (qt (za _) (qt (za _) jh)) (qx (qx (qx (j7 (qp (q7 _) (qp (q7 _) (qp (zq rfl) (qp (zq rfl) j8)))) (z6 _))))))))
    refine qr (ACalls.ghost (e:=9) (ACalls.ghost (e:=45) (ACalls.wkg (AC.go (objs:= [(0, .var 130 (Reader.cells a0)),(1, .var 45 [(.int .i64 0),(.str ⟨#[]⟩),(.sl 0 true []),(.sl 0 true [])]),(2, .var 118 (Token.cells x25)),(3, .var 45 [(.int .i64 (11:Int)),(.str ⟨#[]⟩),(.bs 1 4 4 0 ([]:LB).length),(.bs 4 5 5 0 ([]:LN).length)]),(4, .row 9 (([]:LB).map sc).flatten),(5, .row 45 (([]:LN).map Node.cells).flatten)]) (xs:= [(.ptr 0 0 0),(.ptr 3 3 0)]) (zv _ _ _ _ _ _ hx) [0,3,4,5] [0,3,4,5] rfl rfl rfl rfl rfl rfl rfl rfl rfl) (qt (za _) (qt (za _) jh)) (qx (qx (qx (j7 (qp (q7 _) (qp (q7 _) (qp (zq rfl) (qp (zq rfl) j8)))) (z6 _)))))))) ?_
    refine kr [41,87] ?_
    obtain ⟨x29,hx,h⟩:=bind_some h
    rcases x29 with ee | x29
    ·replace h:some (.error ee)=some r:=h
     cases h
     exact zu (FC.go (ql _ _ _ _ _ _ _ hx) [0,3,4,5] [0,3,6,5] rfl rfl rfl rfl rfl rfl)
    refine qr (AC.g9 (ql _ _ _ _ _ _ _ hx) [0,3,4,5] [0,3,6,5]) ?_
    refine kr [41,87] ?_
    obtain ⟨x30,hx,h⟩:=bind_some h
    rcases x30 with ee | x30
    ·replace h:some (.error ee)=some r:=h
     cases h
     exact zu (FC.go (zd _ _ _ hx) [0] [0] rfl rfl rfl rfl rfl rfl)
    refine qr (AC.g9 (zd _ _ _ hx) [0] [0]) ?_
    refine kr [41,87] ?_
    obtain ⟨x31,hx,h⟩:=bind_some h
    refine qr (AC.g9 (jl _ _ _ _ _ _ hx) [3,4,5] [3,7,5]) ?_
    refine kr [41,87] ?_
    obtain ⟨x32,hx,h⟩:=bind_some h
    rcases x32 with ee | x32
    ·replace h:some (.error ee)=some r:=h
     cases h
     exact zu (FC.go (ql _ _ _ _ _ _ _ hx) [0,3,4,5] [0,3,7,8] rfl rfl rfl rfl rfl rfl)
    refine qr (AC.g9 (ql _ _ _ _ _ _ _ hx) [0,3,4,5] [0,3,7,8]) ?_
    refine kr [41,87] ?_
    cases h
    exact jt env rfl rfl (tS [some 0] (sV (lS (lS lN)) zy) (y4 (jz (qm (qe (qj rfl) rfl) (qm (qe (q8 rfl) rfl) (qm (qe (z8 yx rfl) rfl) (qm (qe (z8 zo rfl) rfl) jy))))) (by simp)))
   replace h:=qv hb h
   refine kr [41,87] ?_
   exact q6 (by kernel_rfl) rfl lQ (vy _ _ h)
  replace h:=qv hb h
  refine kr [41,87] ?_
  exact q6 (by kernel_rfl) rfl lQ (vy _ _ h)
 replace h:=qv hb h
 refine kr [41,87] ?_
 exact q6 (by kernel_rfl) rfl lQ (vy _ _ h)
theorem yo:PC1 Yk jx:=Jr.1
theorem vq:PC5 Z4 yf:=Jr.2.1
theorem Zq:PC1 Zn yq:=Jr.2.2
mutual
def yc (o0:Reader) (o2_0:Int) (o2_1:BA) (o2_2:LB) (o2_3:LN) (o5_0:Int) (o5_1:BA) (o5_2:LB) (o5_3:LN):Option (Except Int (Node × Reader)):=
 zp (qa o0) (⟨#[41]⟩:BA) >>=fun x4=>
 if (!x4)=true then
  if (decide ((0:Int) < (o5_3.length:Int)))=true then
   q9 (qa o0) (qa o5_0) (qa o5_1) (qa o5_2) (qa o5_3) (⟨#[44]⟩:BA) >>=fun x5=>
   match x5 with
   | .error ee=>some (.error ee)
   | .ok x5=>
   yr x5.1 (qa o2_0) (qa o2_1) (qa o2_2) (qa o2_3) (qa o5_0) (qa o5_1) x5.2 (qa o5_3)
  else
   yr (qa o0) (qa o2_0) (qa o2_1) (qa o2_2) (qa o2_3) (qa o5_0) (qa o5_1) (qa o5_2) (qa o5_3)
 else
  q9 (qa o0) (qa o5_0) (qa o5_1) (qa o5_2) (qa o5_3) (⟨#[41]⟩:BA) >>=fun x6=>
  match x6 with
  | .error ee=>some (.error ee)
  | .ok x6=>
  jj (qa o2_0) (qa o2_1) (qa o2_2) (qa o2_3) (Node.mk o5_0 o5_1 x6.2 o5_3) >>=fun x7=>
  u0 x6.1 >>=fun x8=>
  match x8 with
  | .error ee=>some (.error ee)
  | .ok x8=>
  jj (qa o2_0) (qa o2_1) (qa o2_2) (qa x7) x8.1 >>=fun x9=>
  jx x8.2 >>=fun x10=>
  match x10 with
  | .error ee=>some (.error ee)
  | .ok x10=>
  jj (qa o2_0) (qa o2_1) (qa o2_2) (qa x9) x10.1 >>=fun x11=>
  some (.ok ((Node.mk o2_0 o2_1 o2_2 x11),x10.2))
 partial_fixpoint
def yr (o0:Reader) (o2_0:Int) (o2_1:BA) (o2_2:LB) (o2_3:LN) (o5_0:Int) (o5_1:BA) (o5_2:LB) (o5_3:LN):Option (Except Int (Node × Reader)):=
 jv (qa o0) (4:Int) (⟨#[]⟩) ([]:LB) ([]:LN) >>=fun x12=>
 match x12 with
 | .error ee=>some (.error ee)
 | .ok x12=>
 u0 x12.1 >>=fun x13=>
 match x13 with
 | .error ee=>some (.error ee)
 | .ok x13=>
 jj (4:Int) x12.2.1 x12.2.2 ([]:LN) x13.1 >>=fun x14=>
 jj (qa o5_0) (qa o5_1) (qa o5_2) (qa o5_3) (Node.mk (4:Int) x12.2.1 x12.2.2 x14) >>=fun x15=>
 yc x13.2 (qa o2_0) (qa o2_1) (qa o2_2) (qa o2_3) (qa o5_0) (qa o5_1) (qa o5_2) (qa x15)
 partial_fixpoint
end
@[reducible] def Qv (o0:Reader) (o2_0:Int) (o2_1:BA) (o2_2:LB) (o2_3:LN) (o5_0:Int) (o5_1:BA) (o5_2:LB) (o5_3:LN) (r:Except Int (Node × Reader)):Prop:=
  Ok Tryz.prog G tt 42 1 (exq (fun (r:Node × Reader)=>Ret Tryz.prog [.cell 2 45] (fun y H=>Qq Tryz.prog G 1 H y (.agg (zl r.1)) ⟨1, [(0, .var 130 (Reader.cells r.2))]⟩)) (fun e=>Kv (flt e)) r) (.again (je [20,2000011,2000013] Tryz.f83 0).1 (je [20,2000011,2000013] Tryz.f83 0).2 (.n (.ptr 0 0 0) (.n .undef (.n (.ptr 2 2 0) .z .z) .z) (.n (.ptr 1 1 0) (.n (.ptr 5 7 0) .z .z) .z)) 11 [(0, .var 130 (Reader.cells o0)),(1, .var 45 [(.int .i64 0),(.str ⟨#[]⟩),(.sl 0 true []),(.sl 0 true [])]),(2, .var 45 [(.int .i64 o2_0),(.str o2_1),(.bs 1 3 6 0 o2_2.length),(.bs 4 4 4 0 o2_3.length)]),(6, .row 9 (o2_2.map sc).flatten),(4, .row 45 (o2_3.map Node.cells).flatten),(7, .var 45 [(.int .i64 o5_0),(.str o5_1),(.bs 1 6 10 0 o5_2.length),(.bs 4 7 9 0 o5_3.length)]),(10, .row 9 (o5_2.map sc).flatten),(9, .row 45 (o5_3.map Node.cells).flatten)])
@[reducible] def Ql (o0:Reader) (o2_0:Int) (o2_1:BA) (o2_2:LB) (o2_3:LN) (o5_0:Int) (o5_1:BA) (o5_2:LB) (o5_3:LN) (r:Except Int (Node × Reader)):Prop:=
  Ok Tryz.prog G tt 42 1 (exq (fun (r:Node × Reader)=>Ret Tryz.prog [.cell 2 45] (fun y H=>Qq Tryz.prog G 1 H y (.agg (zl r.1)) ⟨1, [(0, .var 130 (Reader.cells r.2))]⟩)) (fun e=>Kv (flt e)) r) (.go [] (vf [20,2000011,2000013] Tryz.f83 20) [] (.n (.ptr 0 0 0) (.n .undef (.n (.ptr 2 2 0) .z .z) .z) (.n (.ptr 1 1 0) (.n (.ptr 5 7 0) .z .z) .z)) 12 [(0, .var 130 (Reader.cells o0)),(1, .var 45 [(.int .i64 0),(.str ⟨#[]⟩),(.sl 0 true []),(.sl 0 true [])]),(2, .var 45 [(.int .i64 o2_0),(.str o2_1),(.bs 1 3 6 0 o2_2.length),(.bs 4 4 4 0 o2_3.length)]),(6, .row 9 (o2_2.map sc).flatten),(4, .row 45 (o2_3.map Node.cells).flatten),(7, .var 45 [(.int .i64 o5_0),(.str o5_1),(.bs 1 6 11 0 o5_2.length),(.bs 4 7 9 0 o5_3.length)]),(11, .row 9 (o5_2.map sc).flatten),(9, .row 45 (o5_3.map Node.cells).flatten)])
theorem Yh:PC9 Qv yc∧PC9 Ql yr:=by
 refine yc.mutual_partial_correctness Qv Ql (fun yr Qo o0 o2_0 o2_1 o2_2 o2_3 o5_0 o5_1 o5_2 o5_3 r h=> ?_) (fun yc Qw o0 o2_0 o2_1 o2_2 o2_3 o5_0 o5_1 o5_2 o5_3 r h=> ?_)
 ·unfold qa at h
  refine jm ?_
  refine kr [20,2000011,2000013] ?_
  obtain ⟨x4,hx,h⟩:=bind_some h
  refine qr (AC.g9 (zr _ _ _ hx) [0] [0]) ?_
  refine kr [20,2000011,2000013] ?_
  refine qd (fun hb=> ?_) (fun hb=> ?_)
  ·replace h:=qu hb h
   refine kr [20,2000011,2000013] ?_
   refine qd (fun hb=> ?_) (fun hb=> ?_)
   ·replace h:=qu hb h
    refine kr [20,2000011,2000013] ?_
    obtain ⟨x5,hx,h⟩:=bind_some h
    rcases x5 with ee | x5
    ·replace h:some (.error ee)=some r:=h
     cases h
     exact zu (FC.go (ql _ _ _ _ _ _ _ hx) [0,5,6,7] [0,7,10,9] rfl rfl rfl rfl rfl rfl)
    refine qr (AC.g9 (ql _ _ _ _ _ _ _ hx) [0,5,6,7] [0,7,10,9]) ?_
    refine kr [20,2000011,2000013] ?_
    exact q6 (by kernel_rfl) rfl lQ (Qo _ _ _ _ _ _ _ _ _ _ h)
   replace h:=qv hb h
   refine kr [20,2000011,2000013] ?_
   exact q6 (by kernel_rfl) rfl lQ (Qo _ _ _ _ _ _ _ _ _ _ h)
  replace h:=qv hb h
  refine kr [20,2000011,2000013] ?_
  obtain ⟨x6,hx,h⟩:=bind_some h
  rcases x6 with ee | x6
  ·replace h:some (.error ee)=some r:=h
   cases h
   exact zu (FC.go (ql _ _ _ _ _ _ _ hx) [0,5,6,7] [0,7,10,9] rfl rfl rfl rfl rfl rfl)
  refine qr (AC.g9 (ql _ _ _ _ _ _ _ hx) [0,5,6,7] [0,7,10,9]) ?_
  refine kr [20,2000011,2000013] ?_
  refine Qg 5 2 6 yx rfl rfl rfl rfl rfl rfl ?_
  refine Qg 5 3 7 zo rfl rfl rfl rfl rfl rfl ?_
  refine W6 ?_
  refine kr [20,2000011,2000013] ?_
  obtain ⟨x7,hx,h⟩:=bind_some h
  refine qr (AC.g9 (jl _ _ _ _ _ _ hx) [2,3,4] [2,6,4]) ?_
  refine kr [20,2000011,2000013] ?_
  obtain ⟨x8,hx,h⟩:=bind_some h
  rcases x8 with ee | x8
  ·replace h:some (.error ee)=some r:=h
   cases h
   exact zu (FC.go (Zh _ _ hx) [0] [0] rfl rfl rfl rfl rfl rfl)
  refine qr (AC.g9 (Zh _ _ hx) [0] [0]) ?_
  refine kr [20,2000011,2000013] ?_
  obtain ⟨x9,hx,h⟩:=bind_some h
  refine qr (AC.g9 (jl _ _ _ _ _ _ hx) [2,3,4] [2,6,12]) ?_
  refine kr [20,2000011,2000013] ?_
  obtain ⟨x10,hx,h⟩:=bind_some h
  rcases x10 with ee | x10
  ·replace h:some (.error ee)=some r:=h
   cases h
   exact zu (FC.go (yo _ _ hx) [0] [0] rfl rfl rfl rfl rfl rfl)
  refine qr (AC.g9 (yo _ _ hx) [0] [0]) ?_
  refine kr [20,2000011,2000013] ?_
  obtain ⟨x11,hx,h⟩:=bind_some h
  refine qr (AC.g9 (jl _ _ _ _ _ _ hx) [2,3,4] [2,6,13]) ?_
  refine kr [20,2000011,2000013] ?_
  cases h
  exact jt env rfl rfl (tS [some 0] (sV (lS (lS lN)) zy) (y4 (jz (qm (qe (qj rfl) rfl) (qm (qe (q8 rfl) rfl) (qm (qe (z8 yx rfl) rfl) (qm (qe (z8 zo rfl) rfl) jy))))) (by simp)))
 unfold qa at h
 refine kr [20,2000011,2000013] ?_
 obtain ⟨x12,hx,h⟩:=bind_some h
 rcases x12 with ee | x12
 ·replace h:some (.error ee)=some r:=h
  cases h
  exact zu (FCalls.ghost (e:=9) (FCalls.ghost (e:=45) (FCalls.wkg (FC.go (objs:= [(0, .var 130 (Reader.cells o0)),(1, .var 45 [(.int .i64 0),(.str ⟨#[]⟩),(.sl 0 true []),(.sl 0 true [])]),(2, .var 45 [(.int .i64 o2_0),(.str o2_1),(.bs 1 3 6 0 o2_2.length),(.bs 4 4 4 0 o2_3.length)]),(6, .row 9 (o2_2.map sc).flatten),(4, .row 45 (o2_3.map Node.cells).flatten),(7, .var 45 [(.int .i64 o5_0),(.str o5_1),(.bs 1 6 11 0 o5_2.length),(.bs 4 7 9 0 o5_3.length)]),(11, .row 9 (o5_2.map sc).flatten),(9, .row 45 (o5_3.map Node.cells).flatten),(12, .var 45 [(.int .i64 (4:Int)),(.str ⟨#[]⟩),(.bs 1 9 13 0 ([]:LB).length),(.bs 4 10 14 0 ([]:LN).length)]),(13, .row 9 (([]:LB).map sc).flatten),(14, .row 45 (([]:LN).map Node.cells).flatten)]) (xs:= [(.ptr 0 0 0),(.ptr 8 12 0)]) (zv _ _ _ _ _ _ hx) [0,8,9,10] [0,12,13,14] rfl rfl rfl rfl rfl rfl) (qt (za _) (qt (za _) jh)) (qx (qx (qx (qx (qx (qx (qx (qx (j7 (qp (q7 _) (qp (q7 _) (qp (zq rfl) (qp (zq rfl) j8)))) (z6 _)))))))))))))
 refine qr (ACalls.ghost (e:=9) (ACalls.ghost (e:=45) (ACalls.wkg (AC.go (objs:= [(0, .var 130 (Reader.cells o0)),(1, .var 45 [(.int .i64 0),(.str ⟨#[]⟩),(.sl 0 true []),(.sl 0 true [])]),(2, .var 45 [(.int .i64 o2_0),(.str o2_1),(.bs 1 3 6 0 o2_2.length),(.bs 4 4 4 0 o2_3.length)]),(6, .row 9 (o2_2.map sc).flatten),(4, .row 45 (o2_3.map Node.cells).flatten),(7, .var 45 [(.int .i64 o5_0),(.str o5_1),(.bs 1 6 11 0 o5_2.length),(.bs 4 7 9 0 o5_3.length)]),(11, .row 9 (o5_2.map sc).flatten),(9, .row 45 (o5_3.map Node.cells).flatten),(12, .var 45 [(.int .i64 (4:Int)),(.str ⟨#[]⟩),(.bs 1 9 13 0 ([]:LB).length),(.bs 4 10 14 0 ([]:LN).length)]),(13, .row 9 (([]:LB).map sc).flatten),(14, .row 45 (([]:LN).map Node.cells).flatten)]) (xs:= [(.ptr 0 0 0),(.ptr 8 12 0)]) (zv _ _ _ _ _ _ hx) [0,8,9,10] [0,12,13,14] rfl rfl rfl rfl rfl rfl rfl rfl rfl) (qt (za _) (qt (za _) jh)) (qx (qx (qx (qx (qx (qx (qx (qx (j7 (qp (q7 _) (qp (q7 _) (qp (zq rfl) (qp (zq rfl) j8)))) (z6 _))))))))))))) ?_
 refine kr [20,2000011,2000013] ?_
 obtain ⟨x13,hx,h⟩:=bind_some h
 rcases x13 with ee | x13
 ·replace h:some (.error ee)=some r:=h
  cases h
  exact zu (FC.go (Zh _ _ hx) [0] [0] rfl rfl rfl rfl rfl rfl)
 refine qr (AC.g9 (Zh _ _ hx) [0] [0]) ?_
 refine kr [20,2000011,2000013] ?_
 obtain ⟨x14,hx,h⟩:=bind_some h
 refine qr (AC.g9 (jl _ _ _ _ _ _ hx) [8,9,10] [12,15,14]) ?_
 refine kr [20,2000011,2000013] ?_
 refine Qg 8 2 9 yx rfl rfl rfl rfl rfl rfl ?_
 refine Qg 8 3 10 zo rfl rfl rfl rfl rfl rfl ?_
 refine W6 ?_
 refine kr [20,2000011,2000013] ?_
 obtain ⟨x15,hx,h⟩:=bind_some h
 refine qr (AC.g9 (jl _ _ _ _ _ _ hx) [5,6,7] [7,11,9]) ?_
 refine kr [20,2000011,2000013] ?_
 exact zx (by kernel_rfl) lQ (Qw _ _ _ _ _ _ _ _ _ _ h)
theorem Qw:PC9 Qv yc:=Yh.1
theorem Qo:PC9 Ql yr:=Yh.2
def kl (a0:Reader):Option (Except Int (Node × Reader)):=
 q9 a0 (2:Int) (⟨#[]⟩) ([]:LB) ([]:LN) (⟨#[102,110]⟩:BA) >>=fun x1=>
 match x1 with
 | .error ee=>some (.error ee)
 | .ok x1=>
 jv x1.1 (2:Int) (⟨#[]⟩) x1.2 ([]:LN) >>=fun x2=>
 match x2 with
 | .error ee=>some (.error ee)
 | .ok x2=>
 q9 x2.1 (3:Int) (⟨#[]⟩) ([]:LB) ([]:LN) (⟨#[40]⟩:BA) >>=fun x3=>
 match x3 with
 | .error ee=>some (.error ee)
 | .ok x3=>
 yc x3.1 (2:Int) x2.2.1 x2.2.2 ([]:LN) (3:Int) (⟨#[]⟩) x3.2 ([]:LN)
@[reducible] def qex (a0:Reader) (r:Except Int (Node × Reader)):Prop:=
  exq (fun (r:Node × Reader)=>AC Tryz.prog G 83 [(.ptr 0 0 0)] 1 [(0, .var 130 (Reader.cells a0))] (.agg (zl r.1)) 1 [(0, .var 130 (Reader.cells r.2))]) (fun e=>FC Tryz.prog G 83 [(.ptr 0 0 0)] 1 [(0, .var 130 (Reader.cells a0))] (flt e)) r
theorem vn:PC1 qex kl:=fun a0 r h=>by
 rw [kl.eq_def] at h
 refine qa9 (T:=tt) (N:=42) (rs:= [.cell 2 45]) (fun vs w=>by simp) Tryz.func83 rfl rfl rfl (by kernel_rfl) (by kernel_rfl) (ub rfl rfl ky) (jw jd) (fun r=>(ua rfl kw)) (fun r=>(jw jd)) (fun _=>rfl) (fun _=>rfl) rfl (fun _=>rfl) ?_
 refine kr [20,2000011,2000013] ?_
 obtain ⟨x1,hx,h⟩:=bind_some h
 rcases x1 with ee | x1
 ·replace h:some (.error ee)=some r:=h
  cases h
  exact zu (FCalls.ghost (e:=9) (FCalls.ghost (e:=45) (FCalls.wkg (FC.go (objs:= [(0, .var 130 (Reader.cells a0)),(1, .var 45 [(.int .i64 0),(.str ⟨#[]⟩),(.sl 0 true []),(.sl 0 true [])]),(2, .var 45 [(.int .i64 (2:Int)),(.str ⟨#[]⟩),(.bs 1 3 3 0 ([]:LB).length),(.bs 4 4 4 0 ([]:LN).length)]),(3, .row 9 (([]:LB).map sc).flatten),(4, .row 45 (([]:LN).map Node.cells).flatten)]) (xs:= [(.ptr 0 0 0),(.ptr 2 2 0),(.str (⟨#[102,110]⟩:BA))]) (ql _ _ _ _ _ _ _ hx) [0,2,3,4] [0,2,3,4] rfl rfl rfl rfl rfl rfl) (qt (za _) (qt (za _) (qt (za _) jh))) (qx (qx (j7 (qp (q7 _) (qp (q7 _) (qp (zq rfl) (qp (zq rfl) j8)))) (z6 _)))))))
 refine qr (ACalls.ghost (e:=9) (ACalls.ghost (e:=45) (ACalls.wkg (AC.go (objs:= [(0, .var 130 (Reader.cells a0)),(1, .var 45 [(.int .i64 0),(.str ⟨#[]⟩),(.sl 0 true []),(.sl 0 true [])]),(2, .var 45 [(.int .i64 (2:Int)),(.str ⟨#[]⟩),(.bs 1 3 3 0 ([]:LB).length),(.bs 4 4 4 0 ([]:LN).length)]),(3, .row 9 (([]:LB).map sc).flatten),(4, .row 45 (([]:LN).map Node.cells).flatten)]) (xs:= [(.ptr 0 0 0),(.ptr 2 2 0),(.str (⟨#[102,110]⟩:BA))]) (ql _ _ _ _ _ _ _ hx) [0,2,3,4] [0,2,3,4] rfl rfl rfl rfl rfl rfl rfl rfl rfl) (qt (za _) (qt (za _) (qt (za _) jh))) (qx (qx (j7 (qp (q7 _) (qp (q7 _) (qp (zq rfl) (qp (zq rfl) j8)))) (z6 _))))))) ?_
 refine kr [20,2000011,2000013] ?_
 obtain ⟨x2,hx,h⟩:=bind_some h
 rcases x2 with ee | x2
 ·replace h:some (.error ee)=some r:=h
  cases h
  exact zu (FC.go (zv _ _ _ _ _ _ hx) [0,2,3,4] [0,2,5,4] rfl rfl rfl rfl rfl rfl)
 refine qr (AC.g9 (zv _ _ _ _ _ _ hx) [0,2,3,4] [0,2,5,4]) ?_
 refine kr [20,2000011,2000013] ?_
 obtain ⟨x3,hx,h⟩:=bind_some h
 rcases x3 with ee | x3
 ·replace h:some (.error ee)=some r:=h
  cases h
  exact zu (FCalls.ghost (e:=9) (FCalls.ghost (e:=45) (FCalls.wkg (FC.go (objs:= [(0, .var 130 (Reader.cells x2.1)),(1, .var 45 [(.int .i64 0),(.str ⟨#[]⟩),(.sl 0 true []),(.sl 0 true [])]),(2, .var 45 [(.int .i64 (2:Int)),(.str x2.2.1),(.bs 1 3 6 0 x2.2.2.length),(.bs 4 4 4 0 ([]:LN).length)]),(6, .row 9 (x2.2.2.map sc).flatten),(4, .row 45 (([]:LN).map Node.cells).flatten),(7, .var 45 [(.int .i64 (3:Int)),(.str ⟨#[]⟩),(.bs 1 6 8 0 ([]:LB).length),(.bs 4 7 9 0 ([]:LN).length)]),(8, .row 9 (([]:LB).map sc).flatten),(9, .row 45 (([]:LN).map Node.cells).flatten)]) (xs:= [(.ptr 0 0 0),(.ptr 5 7 0),(.str (⟨#[40]⟩:BA))]) (ql _ _ _ _ _ _ _ hx) [0,5,6,7] [0,7,8,9] rfl rfl rfl rfl rfl rfl) (qt (za _) (qt (za _) (qt (za _) jh))) (qx (qx (qx (qx (qx (j7 (qp (q7 _) (qp (q7 _) (qp (zq rfl) (qp (zq rfl) j8)))) (z6 _))))))))))
 refine qr (ACalls.ghost (e:=9) (ACalls.ghost (e:=45) (ACalls.wkg (AC.go (objs:= [(0, .var 130 (Reader.cells x2.1)),(1, .var 45 [(.int .i64 0),(.str ⟨#[]⟩),(.sl 0 true []),(.sl 0 true [])]),(2, .var 45 [(.int .i64 (2:Int)),(.str x2.2.1),(.bs 1 3 6 0 x2.2.2.length),(.bs 4 4 4 0 ([]:LN).length)]),(6, .row 9 (x2.2.2.map sc).flatten),(4, .row 45 (([]:LN).map Node.cells).flatten),(7, .var 45 [(.int .i64 (3:Int)),(.str ⟨#[]⟩),(.bs 1 6 8 0 ([]:LB).length),(.bs 4 7 9 0 ([]:LN).length)]),(8, .row 9 (([]:LB).map sc).flatten),(9, .row 45 (([]:LN).map Node.cells).flatten)]) (xs:= [(.ptr 0 0 0),(.ptr 5 7 0),(.str (⟨#[40]⟩:BA))]) (ql _ _ _ _ _ _ _ hx) [0,5,6,7] [0,7,8,9] rfl rfl rfl rfl rfl rfl rfl rfl rfl) (qt (za _) (qt (za _) (qt (za _) jh))) (qx (qx (qx (qx (qx (j7 (qp (q7 _) (qp (q7 _) (qp (zq rfl) (qp (zq rfl) j8)))) (z6 _)))))))))) ?_
 refine kr [20,2000011,2000013] ?_
 exact jb (by kernel_rfl) lQ (Qw _ _ _ _ _ _ _ _ _ _ h)
def y0 (o0:Reader) (o2_0:Int) (o2_1:BA) (o2_2:LB) (o2_3:LN):Option (Except Int (Node × Reader)):=
 zp (qa o0) (⟨#[102,110]⟩:BA) >>=fun x8=>
 if x8=true then
  kl (qa o0) >>=fun x9=>
  match x9 with
  | .error ee=>some (.error ee)
  | .ok x9=>
  jj (qa o2_0) (qa o2_1) (qa o2_2) (qa o2_3) x9.1 >>=fun x10=>
  y0 x9.2 (qa o2_0) (qa o2_1) (qa o2_2) (qa x10)
 else
  q9 (qa o0) (qa o2_0) (qa o2_1) (qa o2_2) (qa o2_3) (⟨#[125]⟩:BA) >>=fun x11=>
  match x11 with
  | .error ee=>some (.error ee)
  | .ok x11=>
  some (.ok ((Node.mk o2_0 o2_1 x11.2 o2_3),x11.1))
 partial_fixpoint
@[reducible] def Wa (o0:Reader) (o2_0:Int) (o2_1:BA) (o2_2:LB) (o2_3:LN) (r:Except Int (Node × Reader)):Prop:=
  Ok Tryz.prog G tt 29 1 (exq (fun (r:Node × Reader)=>Ret Tryz.prog [.cell 2 45] (fun y H=>Qq Tryz.prog G 1 H y (.agg (zl r.1)) ⟨1, [(0, .var 130 (Reader.cells r.2))]⟩)) (fun e=>Kv (flt e)) r) (.again (je [12] Tryz.f84 0).1 (je [12] Tryz.f84 0).2 (.n (.ptr 0 0 0) (.n .undef (.n (.ptr 2 2 0) .z .z) .z) (.n (.ptr 1 1 0) .z .z)) 14 [(0, .var 130 (Reader.cells o0)),(1, .var 45 [(.int .i64 0),(.str ⟨#[]⟩),(.sl 0 true []),(.sl 0 true [])]),(2, .var 45 [(.int .i64 o2_0),(.str o2_1),(.bs 1 3 13 0 o2_2.length),(.bs 4 4 12 0 o2_3.length)]),(13, .row 9 (o2_2.map sc).flatten),(12, .row 45 (o2_3.map Node.cells).flatten)])
theorem Z7:PC5 Wa y0:=by
 refine y0.partial_correctness Wa (fun y0 Z7 o0 o2_0 o2_1 o2_2 o2_3 r h=> ?_)
 unfold qa at h
 refine jm ?_
 refine kr [12] ?_
 obtain ⟨x8,hx,h⟩:=bind_some h
 refine qr (AC.g9 (zr _ _ _ hx) [0] [0]) ?_
 refine kr [12] ?_
 refine qd (fun hb=> ?_) (fun hb=> ?_)
 ·replace h:=qu hb h
  refine kr [12] ?_
  obtain ⟨x9,hx,h⟩:=bind_some h
  rcases x9 with ee | x9
  ·replace h:some (.error ee)=some r:=h
   cases h
   exact zu (FC.go (vn _ _ hx) [0] [0] rfl rfl rfl rfl rfl rfl)
  refine qr (AC.g9 (vn _ _ hx) [0] [0]) ?_
  refine kr [12] ?_
  obtain ⟨x10,hx,h⟩:=bind_some h
  refine qr (AC.g9 (jl _ _ _ _ _ _ hx) [2,3,4] [2,13,12]) ?_
  refine kr [12] ?_
  exact zx (by kernel_rfl) lQ (Z7 _ _ _ _ _ _ h)
 replace h:=qv hb h
 refine kr [12] ?_
 obtain ⟨x11,hx,h⟩:=bind_some h
 rcases x11 with ee | x11
 ·replace h:some (.error ee)=some r:=h
  cases h
  exact zu (FC.go (ql _ _ _ _ _ _ _ hx) [0,2,3,4] [0,2,13,12] rfl rfl rfl rfl rfl rfl)
 refine qr (AC.g9 (ql _ _ _ _ _ _ _ hx) [0,2,3,4] [0,2,13,12]) ?_
 refine kr [12] ?_
 cases h
 exact jt env rfl rfl (tS [some 0] (sV (lS (lS lN)) zy) (y4 (jz (qm (qe (qj rfl) rfl) (qm (qe (q8 rfl) rfl) (qm (qe (z8 yx rfl) rfl) (qm (qe (z8 zo rfl) rfl) jy))))) (by simp)))
def wh (o0:Reader) (o2_0:Int) (o2_1:BA) (o2_2:LB) (o2_3:LN) (o5:Node):Option (Except Int (Node × Reader)):=
 jj o2_0 o2_1 o2_2 o2_3 o5 >>=fun x6=>
 q9 o0 o2_0 o2_1 o2_2 x6 (⟨#[123]⟩:BA) >>=fun x7=>
 match x7 with
 | .error ee=>some (.error ee)
 | .ok x7=>
 y0 x7.1 o2_0 o2_1 x7.2 x6
@[reducible] def qd5 (o0:Reader) (o2_0:Int) (o2_1:BA) (o2_2:LB) (o2_3:LN) (o5:Node) (r:Except Int (Node × Reader)):Prop:=
  Ok Tryz.prog G tt 29 1 (exq (fun (r:Node × Reader)=>Ret Tryz.prog [.cell 2 45] (fun y H=>Qq Tryz.prog G 1 H y (.agg (zl r.1)) ⟨1, [(0, .var 130 (Reader.cells r.2))]⟩)) (fun e=>Kv (flt e)) r) (.go [] (vf [12] Tryz.f84 12) [] (.n (.ptr 0 0 0) (.n .undef (.n (.ptr 2 2 0) .z .z) .z) (.n (.ptr 1 1 0) (.n (.ptr 5 7 0) .z .z) .z)) 12 [(0, .var 130 (Reader.cells o0)),(1, .var 45 [(.int .i64 0),(.str ⟨#[]⟩),(.sl 0 true []),(.sl 0 true [])]),(2, .var 45 [(.int .i64 o2_0),(.str o2_1),(.bs 1 3 6 0 o2_2.length),(.bs 4 4 4 0 o2_3.length)]),(6, .row 9 (o2_2.map sc).flatten),(4, .row 45 (o2_3.map Node.cells).flatten),(7, .var 45 (zl o5))])
theorem Ks:PC6 qd5 wh:=fun o0 o2_0 o2_1 o2_2 o2_3 o5 r h=>by
 rw [wh.eq_def] at h
 refine kr [12] ?_
 obtain ⟨x6,hx,h⟩:=bind_some h
 refine qr (AC.g9 (jl _ _ _ _ _ _ hx) [2,3,4] [2,6,4]) ?_
 refine kr [12] ?_
 obtain ⟨x7,hx,h⟩:=bind_some h
 rcases x7 with ee | x7
 ·replace h:some (.error ee)=some r:=h
  cases h
  exact zu (FC.go (ql _ _ _ _ _ _ _ hx) [0,2,3,4] [0,2,6,12] rfl rfl rfl rfl rfl rfl)
 refine qr (AC.g9 (ql _ _ _ _ _ _ _ hx) [0,2,3,4] [0,2,6,12]) ?_
 refine kr [12] ?_
 exact jb (by kernel_rfl) lQ (Z7 _ _ _ _ _ _ h)
def uu (a0:Reader):Option (Except Int (Node × Reader)):=
 q9 a0 (7:Int) (⟨#[]⟩) ([]:LB) ([]:LN) (⟨#[99,108,97,115,115]⟩:BA) >>=fun x1=>
 match x1 with
 | .error ee=>some (.error ee)
 | .ok x1=>
 jv x1.1 (7:Int) (⟨#[]⟩) x1.2 ([]:LN) >>=fun x2=>
 match x2 with
 | .error ee=>some (.error ee)
 | .ok x2=>
 zp x2.1 (⟨#[58]⟩:BA) >>=fun x3=>
 if x3=true then
  q9 x2.1 (8:Int) (⟨#[]⟩) ([]:LB) ([]:LN) (⟨#[58]⟩:BA) >>=fun x4=>
  match x4 with
  | .error ee=>some (.error ee)
  | .ok x4=>
  jv x4.1 (8:Int) (⟨#[]⟩) x4.2 ([]:LN) >>=fun x5=>
  match x5 with
  | .error ee=>some (.error ee)
  | .ok x5=>
  wh x5.1 (7:Int) x2.2.1 x2.2.2 ([]:LN) (Node.mk (8:Int) x5.2.1 x5.2.2 ([]:LN))
 else
  wh x2.1 (7:Int) x2.2.1 x2.2.2 ([]:LN) (Node.mk (8:Int) (⟨#[]⟩) ([]:LB) ([]:LN))
@[reducible] def qgu (a0:Reader) (r:Except Int (Node × Reader)):Prop:=
  exq (fun (r:Node × Reader)=>AC Tryz.prog G 84 [(.ptr 0 0 0)] 1 [(0, .var 130 (Reader.cells a0))] (.agg (zl r.1)) 1 [(0, .var 130 (Reader.cells r.2))]) (fun e=>FC Tryz.prog G 84 [(.ptr 0 0 0)] 1 [(0, .var 130 (Reader.cells a0))] (flt e)) r
theorem qam:PC1 qgu uu:=fun a0 r h=>by
 rw [uu.eq_def] at h
 refine qa9 (T:=tt) (N:=29) (rs:= [.cell 2 45]) (fun vs w=>by simp) Tryz.func84 rfl rfl rfl (by kernel_rfl) (by kernel_rfl) (ub rfl rfl ky) (jw jd) (fun r=>(ua rfl kw)) (fun r=>(jw jd)) (fun _=>rfl) (fun _=>rfl) rfl (fun _=>rfl) ?_
 refine kr [12] ?_
 obtain ⟨x1,hx,h⟩:=bind_some h
 rcases x1 with ee | x1
 ·replace h:some (.error ee)=some r:=h
  cases h
  exact zu (FCalls.ghost (e:=9) (FCalls.ghost (e:=45) (FCalls.wkg (FC.go (objs:= [(0, .var 130 (Reader.cells a0)),(1, .var 45 [(.int .i64 0),(.str ⟨#[]⟩),(.sl 0 true []),(.sl 0 true [])]),(2, .var 45 [(.int .i64 (7:Int)),(.str ⟨#[]⟩),(.bs 1 3 3 0 ([]:LB).length),(.bs 4 4 4 0 ([]:LN).length)]),(3, .row 9 (([]:LB).map sc).flatten),(4, .row 45 (([]:LN).map Node.cells).flatten)]) (xs:= [(.ptr 0 0 0),(.ptr 2 2 0),(.str (⟨#[99,108,97,115,115]⟩:BA))]) (ql _ _ _ _ _ _ _ hx) [0,2,3,4] [0,2,3,4] rfl rfl rfl rfl rfl rfl) (qt (za _) (qt (za _) (qt (za _) jh))) (qx (qx (j7 (qp (q7 _) (qp (q7 _) (qp (zq rfl) (qp (zq rfl) j8)))) (z6 _)))))))
 refine qr (ACalls.ghost (e:=9) (ACalls.ghost (e:=45) (ACalls.wkg (AC.go (objs:= [(0, .var 130 (Reader.cells a0)),(1, .var 45 [(.int .i64 0),(.str ⟨#[]⟩),(.sl 0 true []),(.sl 0 true [])]),(2, .var 45 [(.int .i64 (7:Int)),(.str ⟨#[]⟩),(.bs 1 3 3 0 ([]:LB).length),(.bs 4 4 4 0 ([]:LN).length)]),(3, .row 9 (([]:LB).map sc).flatten),(4, .row 45 (([]:LN).map Node.cells).flatten)]) (xs:= [(.ptr 0 0 0),(.ptr 2 2 0),(.str (⟨#[99,108,97,115,115]⟩:BA))]) (ql _ _ _ _ _ _ _ hx) [0,2,3,4] [0,2,3,4] rfl rfl rfl rfl rfl rfl rfl rfl rfl) (qt (za _) (qt (za _) (qt (za _) jh))) (qx (qx (j7 (qp (q7 _) (qp (q7 _) (qp (zq rfl) (qp (zq rfl) j8)))) (z6 _))))))) ?_
 refine kr [12] ?_
 obtain ⟨x2,hx,h⟩:=bind_some h
 rcases x2 with ee | x2
 ·replace h:some (.error ee)=some r:=h
  cases h
  exact zu (FC.go (zv _ _ _ _ _ _ hx) [0,2,3,4] [0,2,5,4] rfl rfl rfl rfl rfl rfl)
 refine qr (AC.g9 (zv _ _ _ _ _ _ hx) [0,2,3,4] [0,2,5,4]) ?_
 refine kr [12] ?_
 obtain ⟨x3,hx,h⟩:=bind_some h
 refine qr (AC.g9 (zr _ _ _ hx) [0] [0]) ?_
 refine kr [12] ?_
 refine qd (fun hb=> ?_) (fun hb=> ?_)
 ·replace h:=qu hb h
  refine kr [12] ?_
  obtain ⟨x4,hx,h⟩:=bind_some h
  rcases x4 with ee | x4
  ·replace h:some (.error ee)=some r:=h
   cases h
   exact zu (FCalls.ghost (e:=9) (FCalls.ghost (e:=45) (FCalls.wkg (FC.go (objs:= [(0, .var 130 (Reader.cells x2.1)),(1, .var 45 [(.int .i64 0),(.str ⟨#[]⟩),(.sl 0 true []),(.sl 0 true [])]),(2, .var 45 [(.int .i64 (7:Int)),(.str x2.2.1),(.bs 1 3 6 0 x2.2.2.length),(.bs 4 4 4 0 ([]:LN).length)]),(6, .row 9 (x2.2.2.map sc).flatten),(4, .row 45 (([]:LN).map Node.cells).flatten),(7, .var 45 [(.int .i64 (8:Int)),(.str ⟨#[]⟩),(.bs 1 6 8 0 ([]:LB).length),(.bs 4 7 9 0 ([]:LN).length)]),(8, .row 9 (([]:LB).map sc).flatten),(9, .row 45 (([]:LN).map Node.cells).flatten)]) (xs:= [(.ptr 0 0 0),(.ptr 5 7 0),(.str (⟨#[58]⟩:BA))]) (ql _ _ _ _ _ _ _ hx) [0,5,6,7] [0,7,8,9] rfl rfl rfl rfl rfl rfl) (qt (za _) (qt (za _) (qt (za _) jh))) (qx (qx (qx (qx (qx (j7 (qp (q7 _) (qp (q7 _) (qp (zq rfl) (qp (zq rfl) j8)))) (z6 _))))))))))
  refine qr (ACalls.ghost (e:=9) (ACalls.ghost (e:=45) (ACalls.wkg (AC.go (objs:= [(0, .var 130 (Reader.cells x2.1)),(1, .var 45 [(.int .i64 0),(.str ⟨#[]⟩),(.sl 0 true []),(.sl 0 true [])]),(2, .var 45 [(.int .i64 (7:Int)),(.str x2.2.1),(.bs 1 3 6 0 x2.2.2.length),(.bs 4 4 4 0 ([]:LN).length)]),(6, .row 9 (x2.2.2.map sc).flatten),(4, .row 45 (([]:LN).map Node.cells).flatten),(7, .var 45 [(.int .i64 (8:Int)),(.str ⟨#[]⟩),(.bs 1 6 8 0 ([]:LB).length),(.bs 4 7 9 0 ([]:LN).length)]),(8, .row 9 (([]:LB).map sc).flatten),(9, .row 45 (([]:LN).map Node.cells).flatten)]) (xs:= [(.ptr 0 0 0),(.ptr 5 7 0),(.str (⟨#[58]⟩:BA))]) (ql _ _ _ _ _ _ _ hx) [0,5,6,7] [0,7,8,9] rfl rfl rfl rfl rfl rfl rfl rfl rfl) (qt (za _) (qt (za _) (qt (za _) jh))) (qx (qx (qx (qx (qx (j7 (qp (q7 _) (qp (q7 _) (qp (zq rfl) (qp (zq rfl) j8)))) (z6 _)))))))))) ?_
  refine kr [12] ?_
  obtain ⟨x5,hx,h⟩:=bind_some h
  rcases x5 with ee | x5
  ·replace h:some (.error ee)=some r:=h
   cases h
   exact zu (FC.go (zv _ _ _ _ _ _ hx) [0,5,6,7] [0,7,10,9] rfl rfl rfl rfl rfl rfl)
  refine qr (AC.g9 (zv _ _ _ _ _ _ hx) [0,5,6,7] [0,7,10,9]) ?_
  refine kr [12] ?_
  refine Qg 5 2 6 yx rfl rfl rfl rfl rfl rfl ?_
  refine Qg 5 3 7 zo rfl rfl rfl rfl rfl rfl ?_
  exact q6 (by kernel_rfl) rfl lQ (Ks _ _ _ _ _ _ _ h)
 replace h:=qv hb h
 refine kr [12] ?_
 exact q6 (by kernel_rfl) rfl lQ (Ks _ _ _ _ _ _ _ h)
mutual
def jn (o0:Reader) (o2_0:Int) (o2_1:BA) (o2_2:LB) (o2_3:LN):Option (Except Int (Node × Reader)):=
 jq (qa o0) >>=fun x1=>
 if (!decide (x1.Kind=(4:Int)))=true then
  zp (qa o0) (⟨#[102,110]⟩:BA) >>=fun x2=>
  if x2=true then
   kl (qa o0) >>=fun x3=>
   match x3 with
   | .error ee=>some (.error ee)
   | .ok x3=>
   jj (qa o2_0) (qa o2_1) (qa o2_2) (qa o2_3) x3.1 >>=fun x4=>
   yz x3.2 (qa o2_0) (qa o2_1) (qa o2_2) (qa x4)
  else
   zp (qa o0) (⟨#[99,108,97,115,115]⟩:BA) >>=fun x5=>
   if x5=true then
    uu (qa o0) >>=fun x6=>
    match x6 with
    | .error ee=>some (.error ee)
    | .ok x6=>
    jj (qa o2_0) (qa o2_1) (qa o2_2) (qa o2_3) x6.1 >>=fun x7=>
    yy x6.2 (qa o2_0) (qa o2_1) (qa o2_2) (qa x7)
   else
    zp (qa o0) (⟨#[99,111,110,115,116]⟩:BA) >>=fun x8=>
    if x8=true then
     ut (qa o0) (9:Int) (⟨#[99,111,110,115,116]⟩:BA) >>=fun x9=>
     match x9 with
     | .error ee=>some (.error ee)
     | .ok x9=>
     jj (qa o2_0) (qa o2_1) (qa o2_2) (qa o2_3) x9.1 >>=fun x10=>
     km x9.2 (qa o2_0) (qa o2_1) (qa o2_2) (qa x10)
    else
     wb (qa o0) >>=fun x11=>
     match x11 with
     | .error ee=>some (.error ee)
     | .ok x11=>
     km (qa o0) (qa o2_0) (qa o2_1) (qa o2_2) (qa o2_3)
 else
  jq (qa o0) >>=fun x12=>
  app 16 o2_2 ([x12.Lead]) >>=fun x13=>
  some (.ok ((Node.mk o2_0 o2_1 x13 o2_3),o0))
 partial_fixpoint
def yz (o0:Reader) (o2_0:Int) (o2_1:BA) (o2_2:LB) (o2_3:LN):Option (Except Int (Node × Reader)):=
 jn (qa o0) (qa o2_0) (qa o2_1) (qa o2_2) (qa o2_3)
 partial_fixpoint
def yy (o0:Reader) (o2_0:Int) (o2_1:BA) (o2_2:LB) (o2_3:LN):Option (Except Int (Node × Reader)):=
 yz (qa o0) (qa o2_0) (qa o2_1) (qa o2_2) (qa o2_3)
 partial_fixpoint
def km (o0:Reader) (o2_0:Int) (o2_1:BA) (o2_2:LB) (o2_3:LN):Option (Except Int (Node × Reader)):=
 yy (qa o0) (qa o2_0) (qa o2_1) (qa o2_2) (qa o2_3)
 partial_fixpoint
end
@[reducible] def Jm (o0:Reader) (o2_0:Int) (o2_1:BA) (o2_2:LB) (o2_3:LN) (r:Except Int (Node × Reader)):Prop:=
  Ok Tryz.prog G tt 38 1 (exq (fun (r:Node × Reader)=>Ret Tryz.prog [.cell 2 45] (fun y H=>Qq Tryz.prog G 1 H y (.agg (zl r.1)) ⟨1, [(0, .var 130 (Reader.cells r.2))]⟩)) (fun e=>Kv (flt e)) r) (.again (je [11,17,23] Tryz.f55 0).1 (je [11,17,23] Tryz.f55 0).2 (.n (.ptr 0 0 0) (.n .undef (.n (.ptr 2 2 0) .z .z) .z) (.n (.ptr 1 1 0) .z .z)) 5 [(0, .var 130 (Reader.cells o0)),(1, .var 45 [(.int .i64 0),(.str ⟨#[]⟩),(.sl 0 true []),(.sl 0 true [])]),(2, .var 45 [(.int .i64 o2_0),(.str o2_1),(.bs 1 3 3 0 o2_2.length),(.bs 4 4 4 0 o2_3.length)]),(3, .row 9 (o2_2.map sc).flatten),(4, .row 45 (o2_3.map Node.cells).flatten)])
@[reducible] def Z3 (o0:Reader) (o2_0:Int) (o2_1:BA) (o2_2:LB) (o2_3:LN) (r:Except Int (Node × Reader)):Prop:=
  Ok Tryz.prog G tt 38 1 (exq (fun (r:Node × Reader)=>Ret Tryz.prog [.cell 2 45] (fun y H=>Qq Tryz.prog G 1 H y (.agg (zl r.1)) ⟨1, [(0, .var 130 (Reader.cells r.2))]⟩)) (fun e=>Kv (flt e)) r) (.go [] (vf [11,17,23] Tryz.f55 11) [] (.n (.ptr 0 0 0) (.n .undef (.n (.ptr 2 2 0) .z .z) .z) (.n (.ptr 1 1 0) .z .z)) 6 [(0, .var 130 (Reader.cells o0)),(1, .var 45 [(.int .i64 0),(.str ⟨#[]⟩),(.sl 0 true []),(.sl 0 true [])]),(2, .var 45 [(.int .i64 o2_0),(.str o2_1),(.bs 1 3 3 0 o2_2.length),(.bs 4 4 5 0 o2_3.length)]),(3, .row 9 (o2_2.map sc).flatten),(5, .row 45 (o2_3.map Node.cells).flatten)])
@[reducible] def Z2 (o0:Reader) (o2_0:Int) (o2_1:BA) (o2_2:LB) (o2_3:LN) (r:Except Int (Node × Reader)):Prop:=
  Ok Tryz.prog G tt 38 1 (exq (fun (r:Node × Reader)=>Ret Tryz.prog [.cell 2 45] (fun y H=>Qq Tryz.prog G 1 H y (.agg (zl r.1)) ⟨1, [(0, .var 130 (Reader.cells r.2))]⟩)) (fun e=>Kv (flt e)) r) (.go [] (vf [11,17,23] Tryz.f55 17) [] (.n (.ptr 0 0 0) (.n .undef (.n (.ptr 2 2 0) .z .z) .z) (.n (.ptr 1 1 0) .z .z)) 6 [(0, .var 130 (Reader.cells o0)),(1, .var 45 [(.int .i64 0),(.str ⟨#[]⟩),(.sl 0 true []),(.sl 0 true [])]),(2, .var 45 [(.int .i64 o2_0),(.str o2_1),(.bs 1 3 3 0 o2_2.length),(.bs 4 4 5 0 o2_3.length)]),(3, .row 9 (o2_2.map sc).flatten),(5, .row 45 (o2_3.map Node.cells).flatten)])
@[reducible] def Z1 (o0:Reader) (o2_0:Int) (o2_1:BA) (o2_2:LB) (o2_3:LN) (r:Except Int (Node × Reader)):Prop:=
  Ok Tryz.prog G tt 38 1 (exq (fun (r:Node × Reader)=>Ret Tryz.prog [.cell 2 45] (fun y H=>Qq Tryz.prog G 1 H y (.agg (zl r.1)) ⟨1, [(0, .var 130 (Reader.cells r.2))]⟩)) (fun e=>Kv (flt e)) r) (.go [] (vf [11,17,23] Tryz.f55 23) [] (.n (.ptr 0 0 0) (.n .undef (.n (.ptr 2 2 0) .z .z) .z) (.n (.ptr 1 1 0) .z .z)) 6 [(0, .var 130 (Reader.cells o0)),(1, .var 45 [(.int .i64 0),(.str ⟨#[]⟩),(.sl 0 true []),(.sl 0 true [])]),(2, .var 45 [(.int .i64 o2_0),(.str o2_1),(.bs 1 3 3 0 o2_2.length),(.bs 4 4 5 0 o2_3.length)]),(3, .row 9 (o2_2.map sc).flatten),(5, .row 45 (o2_3.map Node.cells).flatten)])
theorem ve:PC5 Jm jn∧PC5 Z1 km∧PC5 Z2 yy∧PC5 Z3 yz:=by
 refine jn.mutual_partial_correctness Jm Z1 Z2 Z3 (fun km yy yz Z6 vo vp o0 o2_0 o2_1 o2_2 o2_3 r h=> ?_) (fun yy vo o0 o2_0 o2_1 o2_2 o2_3 r h=> ?_) (fun yz vp o0 o2_0 o2_1 o2_2 o2_3 r h=> ?_) (fun jn Jo o0 o2_0 o2_1 o2_2 o2_3 r h=> ?_)
 ·unfold qa at h
  refine jm ?_
  refine kr [11,17,23] ?_
  obtain ⟨x1,hx,h⟩:=bind_some h
  refine qr (AC.g9 (j9 _ _ hx) [0] [0]) ?_
  refine kr [11,17,23] ?_
  refine qd (fun hb=> ?_) (fun hb=> ?_)
  ·replace h:=qu hb h
   refine kr [11,17,23] ?_
   obtain ⟨x2,hx,h⟩:=bind_some h
   refine qr (AC.g9 (zr _ _ _ hx) [0] [0]) ?_
   refine kr [11,17,23] ?_
   refine qd (fun hb=> ?_) (fun hb=> ?_)
   ·replace h:=qu hb h
    refine kr [11,17,23] ?_
    obtain ⟨x3,hx,h⟩:=bind_some h
    rcases x3 with ee | x3
    ·replace h:some (.error ee)=some r:=h
     cases h
     exact zu (FC.go (vn _ _ hx) [0] [0] rfl rfl rfl rfl rfl rfl)
    refine qr (AC.g9 (vn _ _ hx) [0] [0]) ?_
    refine kr [11,17,23] ?_
    obtain ⟨x4,hx,h⟩:=bind_some h
    refine qr (AC.g9 (jl _ _ _ _ _ _ hx) [2,3,4] [2,3,4]) ?_
    refine kr [11,17,23] ?_
    exact q6 (by kernel_rfl) rfl lQ (vp _ _ _ _ _ _ h)
   replace h:=qv hb h
   refine kr [11,17,23] ?_
   obtain ⟨x5,hx,h⟩:=bind_some h
   refine qr (AC.g9 (zr _ _ _ hx) [0] [0]) ?_
   refine kr [11,17,23] ?_
   refine qd (fun hb=> ?_) (fun hb=> ?_)
   ·replace h:=qu hb h
    refine kr [11,17,23] ?_
    obtain ⟨x6,hx,h⟩:=bind_some h
    rcases x6 with ee | x6
    ·replace h:some (.error ee)=some r:=h
     cases h
     exact zu (FC.go (qam _ _ hx) [0] [0] rfl rfl rfl rfl rfl rfl)
    refine qr (AC.g9 (qam _ _ hx) [0] [0]) ?_
    refine kr [11,17,23] ?_
    obtain ⟨x7,hx,h⟩:=bind_some h
    refine qr (AC.g9 (jl _ _ _ _ _ _ hx) [2,3,4] [2,3,4]) ?_
    refine kr [11,17,23] ?_
    exact q6 (by kernel_rfl) rfl lQ (vo _ _ _ _ _ _ h)
   replace h:=qv hb h
   refine kr [11,17,23] ?_
   obtain ⟨x8,hx,h⟩:=bind_some h
   refine qr (AC.g9 (zr _ _ _ hx) [0] [0]) ?_
   refine kr [11,17,23] ?_
   refine qd (fun hb=> ?_) (fun hb=> ?_)
   ·replace h:=qu hb h
    refine kr [11,17,23] ?_
    obtain ⟨x9,hx,h⟩:=bind_some h
    rcases x9 with ee | x9
    ·replace h:some (.error ee)=some r:=h
     cases h
     exact zu (FC.go (Q2 _ _ _ _ hx) [0] [0] rfl rfl rfl rfl rfl rfl)
    refine qr (AC.g9 (Q2 _ _ _ _ hx) [0] [0]) ?_
    refine kr [11,17,23] ?_
    obtain ⟨x10,hx,h⟩:=bind_some h
    refine qr (AC.g9 (jl _ _ _ _ _ _ hx) [2,3,4] [2,3,4]) ?_
    refine kr [11,17,23] ?_
    exact q6 (by kernel_rfl) rfl lQ (Z6 _ _ _ _ _ _ h)
   replace h:=qv hb h
   refine kr [11,17,23] ?_
   obtain ⟨x11,hx,h⟩:=bind_some h
   rcases x11 with ee | x11
   ·replace h:some (.error ee)=some r:=h
    cases h
    exact zu (FC.go (kg _ _ hx) [0] [0] rfl rfl rfl rfl rfl rfl)
   refine qr (AC.g9 (kg _ _ hx) [0] [0]) ?_
   refine kr [11,17,23] ?_
   exact q6 (by kernel_rfl) rfl lQ (Z6 _ _ _ _ _ _ h)
  replace h:=qv hb h
  refine kr [11,17,23] ?_
  obtain ⟨x12,hx,h⟩:=bind_some h
  refine qr (AC.g9 (j9 _ _ hx) [0] [0]) ?_
  refine kr [11,17,23] ?_
  obtain ⟨x13,hx,h⟩:=bind_some h
  have hp_x13:=ju hx (by simp)
  refine y3 (C:=sc) env hx rfl rfl (by simp) (fun _=>rfl) rfl rfl rfl rfl rfl (by decide) rfl rfl rfl ?_
  refine kr [11,17,23] ?_
  cases h
  exact jt env rfl rfl (tS [some 0] (sV (lS (lS lN)) zy) (y4 (jz (qm (qe (qj rfl) rfl) (qm (qe (q8 rfl) rfl) (qm (qe (z8 yx rfl) rfl) (qm (qe (z8 zo rfl) rfl) jy))))) (by simp)))
 ·unfold qa at h
  refine kr [11,17,23] ?_
  exact q6 (by kernel_rfl) rfl lQ (vo _ _ _ _ _ _ h)
 ·unfold qa at h
  refine kr [11,17,23] ?_
  exact q6 (by kernel_rfl) rfl lQ (vp _ _ _ _ _ _ h)
 unfold qa at h
 refine kr [11,17,23] ?_
 exact zx (by kernel_rfl) lQ (Jo _ _ _ _ _ _ h)
theorem Jo:PC5 Jm jn:=ve.1
theorem Z6:PC5 Z1 km:=ve.2.1
theorem vo:PC5 Z2 yy:=ve.2.2.1
theorem vp:PC5 Z3 yz:=ve.2.2.2
def Jw (a0:Reader):Option (Except Int (Node × Reader)):=
 jn a0 (1:Int) (⟨#[]⟩) ([]:LB) ([]:LN)
@[reducible] def qhm (a0:Reader) (r:Except Int (Node × Reader)):Prop:=
  exq (fun (r:Node × Reader)=>AC Tryz.prog G 55 [(.ptr 0 0 0)] 1 [(0, .var 130 (Reader.cells a0))] (.agg (zl r.1)) 1 [(0, .var 130 (Reader.cells r.2))]) (fun e=>FC Tryz.prog G 55 [(.ptr 0 0 0)] 1 [(0, .var 130 (Reader.cells a0))] (flt e)) r
end Go.Proofs.YtpnkemogepoioaaGreatDoorW.Ex.Gr
