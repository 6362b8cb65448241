/- The functions of the program's layer 9 and of its references, printed as functions on numbers, strings, lists and trees, with the proofs that they are what the code computes. Conditions: those in each theorem. -/
import Derived.Test.YtpnkemogepoioaaGreatDoorGh
import Derived.Test.YtpnkemogepoioaaGreatDoorYa
import Derived.Test.YtpnkemogepoioaaGreatDoorExZ
import Derived.Test.YtpnkemogepoioaaGreatDoorExF
import Derived.Test.YtpnkemogepoioaaGreatDoorT8
import Derived.Test.YtpnkemogepoioaaGreatDoorT0
import Derived.Test.YtpnkemogepoioaaGreatDoorM1
import Derived.Test.YtpnkemogepoioaaGreatDoorM2
namespace Go.Proofs.YtpnkemogepoioaaGreatDoorW.Ex.Gr
open Go Go.Proofs.YtpnkemogepoioaaGreatDoorW.Ex
set_option linter.all false
set_option maxRecDepth 100000
set_option synthInstance.maxSize 4000
set_option maxHeartbeats 4000000
open Go.Proofs.YtpnkemogepoioaaGreatDoorW.Plain
structure Token where
 Kind:Int
 Lead:ByteArray
 Text:ByteArray
 At:Int
def Token.cells (x:Token):List AV:= [(.int .i64 x.Kind),(.str x.Lead),(.str x.Text),(.int .i64 x.At)]
theorem qax:CellsOk Token.cells 4:=⟨fun _=>rfl,by decide,fun a z hz=>by
 simp only [Token.cells,AE,Bw,or_false] at hz
 rcases hz with rfl | rfl | rfl | rfl <;> exact ⟨rfl,rfl⟩⟩
structure Reader where
 l_:(List Token)
 at_:Int
def Reader.cells (x:Reader):List AV:= [(.sl 4 false (x.l_.map Token.cells)),(.int .i64 x.at_)]
structure Row where
 Parent:Int
 Kind:Int
 Text:ByteArray
 Gaps:(List ByteArray)
 Kids:(List Int)
def Row.cells (x:Row):List AV:= [(.int .i64 x.Parent),(.int .i64 x.Kind),(.str x.Text),(.sl 1 false (x.Gaps.map sc)),(.sl 1 false (x.Kids.map ic))]
theorem Q8:CellsOk Row.cells 5:=⟨fun _=>rfl,by decide,fun a z hz=>by
 simp only [Row.cells,AE,Bw,or_false] at hz
 rcases hz with rfl | rfl | rfl | rfl | rfl <;> exact ⟨rfl,rfl⟩⟩
structure File where
 Path:ByteArray
 Text:ByteArray
def File.cells (x:File):List AV:= [(.str x.Path),(.str x.Text)]
theorem qa6:CellsOk File.cells 2:=⟨fun _=>rfl,by decide,fun a z hz=>by
 simp only [File.cells,AE,Bw,or_false] at hz
 rcases hz with rfl | rfl <;> exact ⟨rfl,rfl⟩⟩
structure Unit where
 Path:ByteArray
 Text:ByteArray
 Tree:Node
 Broken:Bool
def Unit.cells (x:Unit):List AV:= [(.str x.Path),(.str x.Text),(.int .i64 x.Tree.kind),(.str x.Tree.text),(.sl 1 false (x.Tree.gaps.map sc)),(.sl 4 false (x.Tree.kids.map Node.cells)),(.bool x.Broken)]
theorem qaw:CellsOk Unit.cells 7:=⟨fun _=>rfl,by decide,fun a z hz=>by
 simp only [Unit.cells,AE,Bw,or_false] at hz
 rcases hz with rfl | rfl | rfl | rfl | rfl | rfl | rfl <;> exact ⟨rfl,rfl⟩⟩
structure Ref where
 Unit:Int
 Node:Int
structure Decl where
 Kind:Int
 Owner:ByteArray
 Name:ByteArray
 At:Ref
def Decl.cells (x:Decl):List AV:= [(.int .i64 x.Kind),(.str x.Owner),(.str x.Name),(.int .i64 x.At.Unit),(.int .i64 x.At.Node)]
theorem Wa:CellsOk Decl.cells 5:=⟨fun _=>rfl,by decide,fun a z hz=>by
 simp only [Decl.cells,AE,Bw,or_false] at hz
 rcases hz with rfl | rfl | rfl | rfl | rfl <;> exact ⟨rfl,rfl⟩⟩
@[reducible] def PC0 {R:Type} (M:R→Prop) (F:Option R):Prop:=∀r,F=some r→M r
@[reducible] def PC1 {A0 R:Type} (M:A0→R→Prop) (F:A0→Option R):Prop:=∀a0 r,F a0=some r→M a0 r
@[reducible] def PC2 {A0 A1 R:Type} (M:A0→A1→R→Prop) (F:A0→A1→Option R):Prop:=∀a0 a1 r,F a0 a1=some r→M a0 a1 r
@[reducible] def PC3 {A0 A1 A2 R:Type} (M:A0→A1→A2→R→Prop) (F:A0→A1→A2→Option R):Prop:=∀a0 a1 a2 r,F a0 a1 a2=some r→M a0 a1 a2 r
@[reducible] def PC4 {A0 A1 A2 A3 R:Type} (M:A0→A1→A2→A3→R→Prop) (F:A0→A1→A2→A3→Option R):Prop:=∀a0 a1 a2 a3 r,F a0 a1 a2 a3=some r→M a0 a1 a2 a3 r
@[reducible] def PC5 {A0 A1 A2 A3 A4 R:Type} (M:A0→A1→A2→A3→A4→R→Prop) (F:A0→A1→A2→A3→A4→Option R):Prop:=∀a0 a1 a2 a3 a4 r,F a0 a1 a2 a3 a4=some r→M a0 a1 a2 a3 a4 r
@[reducible] def PC6 {A0 A1 A2 A3 A4 A5 R:Type} (M:A0→A1→A2→A3→A4→A5→R→Prop) (F:A0→A1→A2→A3→A4→A5→Option R):Prop:=∀a0 a1 a2 a3 a4 a5 r,F a0 a1 a2 a3 a4 a5=some r→M a0 a1 a2 a3 a4 a5 r
@[reducible] def PC8 {A0 A1 A2 A3 A4 A5 A6 A7 R:Type} (M:A0→A1→A2→A3→A4→A5→A6→A7→R→Prop) (F:A0→A1→A2→A3→A4→A5→A6→A7→Option R):Prop:=∀a0 a1 a2 a3 a4 a5 a6 a7 r,F a0 a1 a2 a3 a4 a5 a6 a7=some r→M a0 a1 a2 a3 a4 a5 a6 a7 r
@[reducible] def PC9 {A0 A1 A2 A3 A4 A5 A6 A7 A8 R:Type} (M:A0→A1→A2→A3→A4→A5→A6→A7→A8→R→Prop) (F:A0→A1→A2→A3→A4→A5→A6→A7→A8→Option R):Prop:=∀a0 a1 a2 a3 a4 a5 a6 a7 a8 r,F a0 a1 a2 a3 a4 a5 a6 a7 a8=some r→M a0 a1 a2 a3 a4 a5 a6 a7 a8 r
@[reducible] def PC10 {A0 A1 A2 A3 A4 A5 A6 A7 A8 A9 R:Type} (M:A0→A1→A2→A3→A4→A5→A6→A7→A8→A9→R→Prop) (F:A0→A1→A2→A3→A4→A5→A6→A7→A8→A9→Option R):Prop:=∀a0 a1 a2 a3 a4 a5 a6 a7 a8 a9 r,F a0 a1 a2 a3 a4 a5 a6 a7 a8 a9=some r→M a0 a1 a2 a3 a4 a5 a6 a7 a8 a9 r
@[reducible] def PC11 {A0 A1 A2 A3 A4 A5 A6 A7 A8 A9 A10 R:Type} (M:A0→A1→A2→A3→A4→A5→A6→A7→A8→A9→A10→R→Prop) (F:A0→A1→A2→A3→A4→A5→A6→A7→A8→A9→A10→Option R):Prop:=∀a0 a1 a2 a3 a4 a5 a6 a7 a8 a9 a10 r,F a0 a1 a2 a3 a4 a5 a6 a7 a8 a9 a10=some r→M a0 a1 a2 a3 a4 a5 a6 a7 a8 a9 a10 r
theorem Node.cells_eq (n:Node):n.cells=z7 n:=Go.Proofs.YtpnkemogepoioaaGreatDoorW.Ex.Gr.cells_eq n
theorem Node.cells_len (n:Node):n.cells.length=4:=by rw [Node.cells_eq];rfl
theorem qo:CellsOk Node.cells 4:=⟨Node.cells_len,by decide,fun n z hz=>by
 rw [Node.cells_eq] at hz
 simp only [AE,Bw,or_false] at hz
 rcases hz with rfl | rfl | rfl | rfl <;> exact ⟨rfl,rfl⟩⟩
mutual
def wfB:Node→Bool
 | .mk _ t g l=>decide (l.length≤9223372036854775807) && decide (g.length≤9223372036854775807) && decide (t.size≤9223372036854775807) && g.all (fun s=>decide (s.size≤9223372036854775807)) && wfBL l
def wfBL:List Node→Bool
 | []=>true
 | n::l=>wfB n && wfBL l
end
mutual
theorem q28:∀n:Node,wfB n=true→Wf n
 | .mk k t g l,h=>by
   simp only [wfB,An,decide_eq_true_eq,Aw] at h
   exact .mk _ h.1.1.1.1 h.1.1.1.2 h.1.1.2 h.1.2 (qzc l h.2)
theorem qzc:∀l:List Node,wfBL l=true→∀m∈l,Wf m
 | [],_,m,hm=>by cases hm
 | n::l,h,m,hm=>by
   simp only [wfBL,An] at h
   rcases AE.1 hm with e | hm
   ·rw [e];exact q28 n h.1
   exact qzc l h.2 m hm
end
def u0 (n:Node):Option Int:=if wfB n=true then some (checkErr n) else none
theorem qek (n:Node) (r:Int) (h:u0 n=some r):Fn Tryz.prog G 44 [.agg (z7 n)] (.int .i64 r):=by
 unfold u0 at h
 split at h
 ·rename_i hc;cases h;exact qre n (q28 n hc)
 cases h
def y4 (s:ByteArray) (c:Int):Option Int:=some (Lib.indexByte s.data.toList c.toNat.toUInt8)
theorem kz (s:ByteArray) (c:Int) (r:Int) (h:y4 s c=some r):Fn Tryz.prog G 147 [.str s, .int .u8 c] (.int .i64 r):=by
 cases h;exact qea s c
def J6 (s:ByteArray) (i:Int):Option ByteArray:=if 0≤i∧i≤9223372036854775807∧s.size*i.toNat≤140737488355328 then some (⟨(Lib.repeatL s.data.toList i.toNat).toArray⟩:ByteArray) else none
theorem qke (s:ByteArray) (i:Int) (r:ByteArray) (h:J6 s i=some r):Fn Tryz.prog G 175 [.str s, .int .i64 i] (.str r):=by
 unfold J6 at h
 split at h
 ·rename_i hc;cases h;exact strings_Repeat s i hc.1 hc.2.1 hc.2.2
 cases h
def K5 (s:ByteArray) (a:Int):Option Int:=if s.size≤9223372036854775807 then some (qp5 s a) else none
theorem qqz (s:ByteArray) (a:Int) (r:Int) (h:K5 s a=some r):Fn Tryz.prog G 119 [.str s, .int .i64 a] (.int .i64 r):=by
 unfold K5 at h
 split at h
 ·rename_i hc;cases h;exact qon s a hc
 cases h
def Wy (s:ByteArray):Option Bool:=if s.size≤281474976710656 then some (qae s.data.toList) else none
theorem qlp (s:ByteArray) (r:Bool) (h:Wy s=some r):Fn Tryz.prog G 152 [.str s] (.bool r):=by
 unfold Wy at h
 split at h
 ·rename_i hc;cases h;exact qq9 s hc
 cases h
def qa9 (s:ByteArray):Option Bool:=some (qal s.data.toList)
theorem qia (s:ByteArray) (r:Bool) (h:qa9 s=some r):Fn Tryz.prog G 143 [.str s] (.bool r):=by
 cases h;exact qpe s
theorem qlq (r:List (Int × Int)) (h:qcv=some r):Fn Tryz.prog G 34 [] (.mp .i64 .i64 r):=by cases h;exact qrc
def qic (s:ByteArray):Option Bool:=some (qi5 s.data.toList)
theorem qrr (s:ByteArray) (r:Bool) (h:qic s=some r):Fn Tryz.prog G 56 [.str s] (.bool r):=by
 cases h;exact q15 s
def Qm (l:List ByteArray):Option (List ByteArray):=if l.length*16≤281474976710656 then some l else none
theorem qh4 (l:List ByteArray) (r:(List ByteArray)) (h:Qm l=some r):Fn Tryz.prog G 91 [.sl 1 false (l.map sc)] (.sl 1 false (r.map sc)):=by
 unfold Qm at h
 split at h
 ·rename_i hc;cases h;exact qxz l hc
 cases h
def flt (e:Int):List PanicEntry:= [{v:= .iface 127 (.int .i64 e),recovered:=false}]
abbrev LB:=List ByteArray
abbrev LN:=List Node
abbrev LU:=List UInt8
section
variable {ps:List (Nat × AV)} {k:List Item} {kn:List Nat} {fr fr':FT} {n n' N p m m' r n2:Nat} {objs objs' objs2 O O':Objs} {Q:Exit→Fr→Hp→Prop} {ρ:Nat→Nat}
theorem kr (bars:List Nat) {c:Cfg} (hc:Ok Tryz.prog G tt N p Q c) (h:runK tt G bars 2000 ps k kn fr n objs=some c:=by exact rfl):Ok Tryz.prog G tt N p Q (.go ps k kn fr n objs):=qc5 env bars h hc
theorem kf {rs:List ResultVar} {y:AV} (hk:qi7 k=true:=by exact rfl) (h:qkp tt fr objs rs qi6=some y:=by exact rfl):Ok Tryz.prog G tt N p (Ret Tryz.prog rs (fun z H=>Told Tryz.prog G H z y)) (.fin .ret k fr n objs):=yg env hk h (zl rfl)
theorem lN:leC ρ m [] []:=Ky
theorem lS {v u:AV} {vs us:List AV} (hs:leC ρ m vs us) (h:v=u.ren1 ρ:=by exact rfl) (hu:u.un1 m=true:=by exact rfl):leC ρ m (v::vs) (u::us):=qao h hu hs
theorem sV {i s':Nat} {e:TypeId} {cs cs':List AV} {l:List (Option Nat)} (hc:leC ρ m cs cs') (h:qbc ρ m objs l O') (ho:objs[i]? =some (ρ s', .var e cs):=by exact rfl) (hb:Nat.blt s' m=true:=by exact rfl):qbc ρ m objs (some i::l) ((s', .var e cs')::O'):=qe3 ho hb hc h
theorem sR {α:Type} {C:α→List AV} {sz i s':Nat} {e:TypeId} {x:List α} {l:List (Option Nat)} (hC:CellsOk C sz) (h:qbc ρ m objs l O') (ho:objs[i]? =some (ρ s', .row e (x.map C).flatten):=by exact rfl) (hb:Nat.blt s' m=true:=by exact rfl):qbc ρ m objs (some i::l) ((s', .row e (x.map C).flatten)::O'):=qe4 hC ho hb h
theorem tS {x y:AV} (sel:List (Option Nat)) (ho:qbc (rhoS objs sel O') m' objs sel O') (hx:resT objs' (rhoS objs sel O') m' y x) (hd:qkx (sel.filterMap id) 0 objs some=some objs':=by exact rfl) (hn:qpq sel=true:=by exact rfl) (hid:(List.range m).all (fun s=>Nat.beq (rhoS objs sel O' s) s)=true:=by exact rfl) (hle:Nat.ble m m'=true:=by exact rfl):vj Tryz.prog G m ⟨n,objs⟩ y x ⟨m',O'⟩:=qdi sel hd hn hid hle ho hx
theorem lA (hf:leFT (rho objs' objs) n' fr fr':=by first | (simp [Reader.cells] <;> (repeat' apply Bd) <;> first | rfl | exact .inl ⟨rfl,rfl⟩ | exact Ky | exact fun x a _ h=>(qo.all a x h).2 | exact fun x a _ h=>(zr.all a x h).2 | exact fun x a _ h=>(zp.all a x h).2 | exact fun x a _ h=>(qcw.all a x h).2 | exact fun x a _ h=>(qax.all a x h).2 | exact fun x a _ h=>(Q8.all a x h).2 | exact fun x a _ h=>(Wa.all a x h).2 | exact fun x a _ h=>(qaw.all a x h).2 | exact fun x a _ h=>(qa6.all a x h).2) | (simp [Reader.cells,Token.cells] <;> (repeat' apply Bd) <;> first | rfl | exact .inl ⟨rfl,rfl⟩ | exact Ky | exact fun x a _ h=>(qo.all a x h).2 | exact fun x a _ h=>(zr.all a x h).2 | exact fun x a _ h=>(zp.all a x h).2 | exact fun x a _ h=>(qcw.all a x h).2 | exact fun x a _ h=>(qax.all a x h).2 | exact fun x a _ h=>(Q8.all a x h).2 | exact fun x a _ h=>(Wa.all a x h).2 | exact fun x a _ h=>(qaw.all a x h).2 | exact fun x a _ h=>(qa6.all a x h).2)) (ho:leOs (rho objs' objs) n' objs objs':=by first | (simp [Reader.cells] <;> (repeat' apply Bd) <;> first | rfl | exact .inl ⟨rfl,rfl⟩ | exact Ky | exact fun x a _ h=>(qo.all a x h).2 | exact fun x a _ h=>(zr.all a x h).2 | exact fun x a _ h=>(zp.all a x h).2 | exact fun x a _ h=>(qcw.all a x h).2 | exact fun x a _ h=>(qax.all a x h).2 | exact fun x a _ h=>(Q8.all a x h).2 | exact fun x a _ h=>(Wa.all a x h).2 | exact fun x a _ h=>(qaw.all a x h).2 | exact fun x a _ h=>(qa6.all a x h).2) | (simp [Reader.cells,Token.cells] <;> (repeat' apply Bd) <;> first | rfl | exact .inl ⟨rfl,rfl⟩ | exact Ky | exact fun x a _ h=>(qo.all a x h).2 | exact fun x a _ h=>(zr.all a x h).2 | exact fun x a _ h=>(zp.all a x h).2 | exact fun x a _ h=>(qcw.all a x h).2 | exact fun x a _ h=>(qax.all a x h).2 | exact fun x a _ h=>(Q8.all a x h).2 | exact fun x a _ h=>(Wa.all a x h).2 | exact fun x a _ h=>(qaw.all a x h).2 | exact fun x a _ h=>(qa6.all a x h).2)):Less G N 0 (frT fr) ⟨n,objs⟩ (frT fr') ⟨n',objs'⟩:=qc3 hf ho
theorem lQ (hf:leFT (rho objs' objs) n' fr fr':=by first | (simp [Reader.cells] <;> (repeat' apply Bd) <;> first | rfl | exact .inl ⟨rfl,rfl⟩ | exact Ky | exact fun x a _ h=>(qo.all a x h).2 | exact fun x a _ h=>(zr.all a x h).2 | exact fun x a _ h=>(zp.all a x h).2 | exact fun x a _ h=>(qcw.all a x h).2 | exact fun x a _ h=>(qax.all a x h).2 | exact fun x a _ h=>(Q8.all a x h).2 | exact fun x a _ h=>(Wa.all a x h).2 | exact fun x a _ h=>(qaw.all a x h).2 | exact fun x a _ h=>(qa6.all a x h).2) | (simp [Reader.cells,Token.cells] <;> (repeat' apply Bd) <;> first | rfl | exact .inl ⟨rfl,rfl⟩ | exact Ky | exact fun x a _ h=>(qo.all a x h).2 | exact fun x a _ h=>(zr.all a x h).2 | exact fun x a _ h=>(zp.all a x h).2 | exact fun x a _ h=>(qcw.all a x h).2 | exact fun x a _ h=>(qax.all a x h).2 | exact fun x a _ h=>(Q8.all a x h).2 | exact fun x a _ h=>(Wa.all a x h).2 | exact fun x a _ h=>(qaw.all a x h).2 | exact fun x a _ h=>(qa6.all a x h).2)) (ho:leOs (rho objs' objs) n' objs objs':=by first | (simp [Reader.cells] <;> (repeat' apply Bd) <;> first | rfl | exact .inl ⟨rfl,rfl⟩ | exact Ky | exact fun x a _ h=>(qo.all a x h).2 | exact fun x a _ h=>(zr.all a x h).2 | exact fun x a _ h=>(zp.all a x h).2 | exact fun x a _ h=>(qcw.all a x h).2 | exact fun x a _ h=>(qax.all a x h).2 | exact fun x a _ h=>(Q8.all a x h).2 | exact fun x a _ h=>(Wa.all a x h).2 | exact fun x a _ h=>(qaw.all a x h).2 | exact fun x a _ h=>(qa6.all a x h).2) | (simp [Reader.cells,Token.cells] <;> (repeat' apply Bd) <;> first | rfl | exact .inl ⟨rfl,rfl⟩ | exact Ky | exact fun x a _ h=>(qo.all a x h).2 | exact fun x a _ h=>(zr.all a x h).2 | exact fun x a _ h=>(zp.all a x h).2 | exact fun x a _ h=>(qcw.all a x h).2 | exact fun x a _ h=>(qax.all a x h).2 | exact fun x a _ h=>(Q8.all a x h).2 | exact fun x a _ h=>(Wa.all a x h).2 | exact fun x a _ h=>(qaw.all a x h).2 | exact fun x a _ h=>(qa6.all a x h).2)) (hid:∀s,s < p→rho objs' objs s=s:=by exact qpr rfl) (hp:p≤n':=by exact Ao rfl):Less G N p (frT fr) ⟨n,objs⟩ (frT fr') ⟨n',objs'⟩:=qpm hid hp hf ho
theorem AC.g9 {f:FuncId} {xs xs0:List AV} {x y:AV} (h:AC Tryz.prog G f xs0 r O x m' O') (ids st:List Nat) (hnd:decide ids.Nodup=true:=by exact rfl) (hids:ids.length=O.length:=by exact rfl) (hst:st.length=r:=by exact rfl) (hstn:st.all (fun s=>Nat.blt s n)=true:=by exact rfl)
 (hxs:xs0.map (AV.mv (fun j=>ids.getD j 0) (fun s=>st.getD s 0))=xs:=by exact rfl) (hg:qgh ids objs=some (O.map fun q=>(st.getD q.1 0,q.2.mvR (fun j=>ids.getD j 0) (fun s=>st.getD s 0))):=by exact rfl)
 (hy:qjx (x.mv (fun j=>ids.getD j 0) (qec (fun s=>st.getD s 0) r n)) some=some y:=by exact rfl) (hs:qkm ids (O'.map fun q=>(qec (fun s=>st.getD s 0) r n q.1,q.2.mvR (fun j=>ids.getD j 0) (qec (fun s=>st.getD s 0) r n))) objs some=some objs2:=by exact rfl) (hn:Wg (n+(m' - r)) some=some n2:=by exact rfl):ACalls Tryz.prog G f xs ⟨n,objs⟩ y ⟨n2,objs2⟩:=AC.go h ids st hnd hids hst hstn hxs hg hy hs hn
end
def Qr (t0:(List File)) (t3:Int) (t4:Int):Option Bool:=
 if (decide (t4 < ((t0.map File.cells).length:Int)))=true then
  ix t0 t4 >>=fun x1=>
  if (decide (t3 < (x1.Path.size:Int)))=true then
   some false
  else
   ix t0 t4 >>=fun x2=>
   if (decide (t3 < (x2.Text.size:Int)))=true then
    some false
   else
    ix t0 t4 >>=fun x3=>
    ix t0 t4 >>=fun x4=>
    if (decide ((IntKind.i64.wrap (t3 - (x3.Path.size:Int))) < (x4.Text.size:Int)))=true then
     some false
    else
     ix t0 t4 >>=fun x5=>
     Qr (qa t0) (IntKind.i64.wrap ((IntKind.i64.wrap (t3 - (x3.Path.size:Int))) - (x5.Text.size:Int))) (IntKind.i64.wrap (t4+(1:Int)))
 else
  some true
 partial_fixpoint
@[reducible] def qft (t0:(List File)) (t3:Int) (t4:Int) (r:Bool):Prop:=
  Ok Tryz.prog G tt 56 0 (Ret Tryz.prog [.tmp 2] (fun y H=>Told Tryz.prog G H y (.bool r))) (.again (ju [] Tryz.f8 0).1 (ju [] Tryz.f8 0).2 (.n (.sl 2 false (t0.map File.cells)) (.n .undef (.n (.int .i64 t3) .z .z) .z) (.n .undef (.n (.int .i64 t4) .z .z) .z)) 0 [])
theorem qbr:PC3 qft Qr:=by
 refine Qr.partial_correctness qft (fun Qr qbr t0 t3 t4 r h=> ?_)
 unfold qa at h
 refine yb ?_
 refine kr [] ?_
 refine qe (fun hb=> ?_) (fun hb=> ?_)
 ·replace h:=ql hb h
  refine kr [] ?_
  obtain ⟨x1,hx,h⟩:=bind_some h
  refine y7 env hx rfl rfl rfl rfl rfl ?_
  refine kr [] ?_
  refine q9 (fun hb=> ?_) (fun hb=> ?_)
  ·replace h:=qm hb h
   refine kr [] ?_
   obtain ⟨x2,hx,h⟩:=bind_some h
   refine y7 env hx rfl rfl rfl rfl rfl ?_
   refine kr [] ?_
   refine qe (fun hb=> ?_) (fun hb=> ?_)
   ·replace h:=ql hb h
    refine kr [] ?_
    cases h
    exact kf
   replace h:=qm hb h
   refine kr [] ?_
   obtain ⟨x3,hx,h⟩:=bind_some h
   refine y7 env hx rfl rfl rfl rfl rfl ?_
   refine kr [] ?_
   obtain ⟨x4,hx,h⟩:=bind_some h
   refine y7 env hx rfl rfl rfl rfl rfl ?_
   refine kr [] ?_
   refine qe (fun hb=> ?_) (fun hb=> ?_)
   ·replace h:=ql hb h
    refine kr [] ?_
    cases h
    exact kf
   replace h:=qm hb h
   refine kr [] ?_
   obtain ⟨x5,hx,h⟩:=bind_some h
   refine y7 env hx rfl rfl rfl rfl rfl ?_
   refine kr [] ?_
   exact ja (by kernel_rfl) lA (qbr _ _ _ _ h)
  replace h:=ql hb h
  refine kr [] ?_
  cases h
  exact kf
 replace h:=qm hb h
 refine kr [] ?_
 cases h
 exact kf
def qcg (a0:(List File)):Option Bool:=
 if (decide ((40:Int) < ((a0.map File.cells).length:Int)))=true then
  some false
 else
  Qr a0 (3000:Int) (0:Int)
@[reducible] def qro (a0:(List File)) (r:Bool):Prop:=
  Fn Tryz.prog G 8 [(.sl 2 false (a0.map File.cells))] (.bool r)
theorem qrs:PC1 qro qcg:=fun a0 r h=>by
 rw [qcg.eq_def] at h
 refine z8 (T:=tt) (N:=56) (rs:= [.tmp 2]) (fun vs w=>by simp) Tryz.func8 rfl rfl rfl rfl (by kernel_rfl) (yk rfl) (zt _ rfl) ?_
 refine kr [] ?_
 refine qe (fun hb=> ?_) (fun hb=> ?_)
 ·replace h:=ql hb h
  refine kr [] ?_
  cases h
  exact kf
 replace h:=qm hb h
 refine kr [] ?_
 exact jr (by kernel_rfl) lA (qbr _ _ _ _ h)
mutual
def uv (t0:BA) (t3:Int) (t4:Int):Option Bool:=
 if (decide (t4≤(t0.size:Int)))=true then
  if (decide (t4 < (t0.size:Int)))=true then
   sx t0 t4 >>=fun x1=>
   if (!decide (x1=(47:Int)))=true then
    vw (qa t0) (qa t3) (qa t4)
   else
    Q3 (qa t0) (qa t3) (qa t4)
  else
   Q3 (qa t0) (qa t3) (qa t4)
 else
  some true
 partial_fixpoint
def vw (t0:BA) (t3:Int) (t4:Int):Option Bool:=
 uv (qa t0) (qa t3) (IntKind.i64.wrap (t4+(1:Int)))
 partial_fixpoint
def Q3 (t0:BA) (t3:Int) (t4:Int):Option Bool:=
 ssub t0 t3 t4 >>=fun x2=>
 qic (qa x2) >>=fun x3=>
 if (!x3)=true then
  some false
 else
  vw (qa t0) (IntKind.i64.wrap (t4+(1:Int))) (qa t4)
 partial_fixpoint
end
@[reducible] def qbn (t0:BA) (t3:Int) (t4:Int) (r:Bool):Prop:=
  Ok Tryz.prog G tt 36 0 (Ret Tryz.prog [.tmp 2] (fun y H=>Told Tryz.prog G H y (.bool r))) (.again (ju [1000001,27] Tryz.f31 0).1 (ju [1000001,27] Tryz.f31 0).2 (.n (.str t0) (.n .undef (.n (.int .i64 t3) .z .z) .z) (.n .undef (.n (.int .i64 t4) .z .z) .z)) 0 [])
@[reducible] def qbo (t0:BA) (t3:Int) (t4:Int) (r:Bool):Prop:=
  Ok Tryz.prog G tt 36 0 (Ret Tryz.prog [.tmp 2] (fun y H=>Told Tryz.prog G H y (.bool r))) (.go [] (qgn [1000001,27] Tryz.f31 1) [] (.n (.str t0) (.n .undef (.n (.int .i64 t3) .z .z) .z) (.n .undef (.n (.int .i64 t4) .z .z) .z)) 0 [])
@[reducible] def qa2 (t0:BA) (t3:Int) (t4:Int) (r:Bool):Prop:=
  Ok Tryz.prog G tt 36 0 (Ret Tryz.prog [.tmp 2] (fun y H=>Told Tryz.prog G H y (.bool r))) (.go [] (v8 [1000001,27] Tryz.f31 27) [] (.n (.str t0) (.n .undef (.n (.int .i64 t3) .z .z) .z) (.n .undef (.n (.int .i64 t4) .z .z) .z)) 0 [])
theorem W5:PC3 qbn uv∧PC3 qa2 Q3∧PC3 qbo vw:=by
 refine uv.mutual_partial_correctness qbn qa2 qbo (fun Q3 vw qa4 K4 t0 t3 t4 r h=> ?_) (fun vw K4 t0 t3 t4 r h=> ?_) (fun uv qbq t0 t3 t4 r h=> ?_)
 ·unfold qa at h
  refine yb ?_
  refine kr [1000001,27] ?_
  refine qe (fun hb=> ?_) (fun hb=> ?_)
  ·replace h:=ql hb h
   refine kr [1000001,27] ?_
   refine qr (fun hb=> ?_) (fun hb=> ?_)
   ·replace h:=ql hb h
    refine kr [1000001,27] ?_
    obtain ⟨x1,hx,h⟩:=bind_some h
    refine qqq env hx rfl rfl rfl rfl ?_
    refine kr [1000001,27] ?_
    refine qe (fun hb=> ?_) (fun hb=> ?_)
    ·replace h:=ql hb h
     refine kr [1000001,27] ?_
     exact qx (by kernel_rfl) rfl lA (K4 _ _ _ _ h)
    replace h:=qm hb h
    refine kr [1000001,27] ?_
    exact qx (by kernel_rfl) rfl lA (qa4 _ _ _ _ h)
   replace h:=qm hb h
   refine kr [1000001,27] ?_
   exact qx (by kernel_rfl) rfl lA (qa4 _ _ _ _ h)
  replace h:=qm hb h
  refine kr [1000001,27] ?_
  cases h
  exact kf
 ·unfold qa at h
  refine kr [1000001,27] ?_
  obtain ⟨x2,hx,h⟩:=bind_some h
  refine qdx env hx rfl rfl rfl rfl rfl ?_
  refine kr [1000001,27] ?_
  obtain ⟨x3,hx,h⟩:=bind_some h
  refine qn (qrr _ _ hx) ?_
  refine kr [1000001,27] ?_
  refine qe (fun hb=> ?_) (fun hb=> ?_)
  ·replace h:=ql hb h
   refine kr [1000001,27] ?_
   cases h
   exact kf
  replace h:=qm hb h
  refine kr [1000001,27] ?_
  exact qx (by kernel_rfl) rfl lA (K4 _ _ _ _ h)
 unfold qa at h
 refine kr [1000001,27] ?_
 exact ja (by kernel_rfl) lA (qbq _ _ _ _ h)
theorem qbq:PC3 qbn uv:=W5.1
theorem qa4:PC3 qa2 Q3:=W5.2.1
theorem K4:PC3 qbo vw:=W5.2.2
def Ks (a0:BA):Option Bool:=
 if (decide (a0=(⟨#[]⟩:BA)))=true then
  some false
 else
  if (decide ((64:Int) < (a0.size:Int)))=true then
   some false
  else
   uv a0 (0:Int) (0:Int)
@[reducible] def qrm (a0:BA) (r:Bool):Prop:=
  Fn Tryz.prog G 31 [(.str a0)] (.bool r)
theorem qjf:PC1 qrm Ks:=fun a0 r h=>by
 rw [Ks.eq_def] at h
 refine z8 (T:=tt) (N:=36) (rs:= [.tmp 2]) (fun vs w=>by simp) Tryz.func31 rfl rfl rfl rfl (by kernel_rfl) (yk rfl) (zt _ rfl) ?_
 refine kr [1000001,27] ?_
 refine q9 (fun hb=> ?_) (fun hb=> ?_)
 ·replace h:=qm hb h
  refine kr [1000001,27] ?_
  refine qe (fun hb=> ?_) (fun hb=> ?_)
  ·replace h:=ql hb h
   refine kr [1000001,27] ?_
   cases h
   exact kf
  replace h:=qm hb h
  refine kr [1000001,27] ?_
  exact jr (by kernel_rfl) lA (qbq _ _ _ _ h)
 replace h:=ql hb h
 refine kr [1000001,27] ?_
 cases h
 exact kf
def kp (a0:(List File)):Option Int:=
 match a0 with
 | []=>
   some (0:Int)
 | x_0::a0=>
   if (decide ((65536:Int) < (x_0.Text.size:Int)))=true then
    some (3:Int)
   else
    kp (qa a0)
 partial_fixpoint
@[reducible] def qb8 (a0:(List File)) (r:Int):Prop:=
  ∀(l0:List File) (j0:Nat),l0.drop j0=a0→j0≤l0.length→l0.length≤9223372036854775807→Ok Tryz.prog G tt 55 0 (Ret Tryz.prog [.tmp 2] (fun y H=>Told Tryz.prog G H y (.int .i64 r))) (.again (ju [42] Tryz.f12 2).1 (ju [42] Tryz.f12 2).2 (.n .undef (.n .undef .z (.n .undef .z (.n .undef .z (.n .undef (.n (.int .i64 ((l0.map File.cells).length:Int)) .z .z) .z)))) (.n .undef (.n .undef .z (.n .undef .z (.n .undef (.n (.sl 2 false (l0.map File.cells)) .z .z) .z))) (.n .undef .z (.n .undef .z (.n .undef (.n (.int .i64 ((j0:Nat):Int)) .z .z) .z))))) 0 [])
theorem Km:PC1 qb8 kp:=by
 refine kp.partial_correctness qb8 (fun kp Km a0 r h=> ?_)
 unfold qa at h
 intro l0 j0 hl0 hj0 hm0
 refine yb ?_
 cases a0 with
 | nil=>
   have hb:=Z7 (C:=File.cells) hl0 hj0
   refine kr [42] ?_
   refine qz hb ?_
   refine kr [42] ?_
   cases h
   exact kf
 | cons x_0 a0=>
   obtain ⟨hb,hx0,hd0,hk0,hw0⟩:=Qv (C:=File.cells) hl0 hm0
   refine kr [42] ?_
   refine qy hb ?_
   refine kr [42] ?_
   refine qay env rfl rfl rfl rfl (m:=j0) rfl (qak hx0 rfl) ?_
   refine kr [42] ?_
   refine qe (fun hb=> ?_) (fun hb=> ?_)
   ·replace h:=ql hb h
    refine kr [42] ?_
    cases h
    exact kf
   replace h:=qm hb h
   refine kr [42] ?_
   exact ja (by kernel_rfl) (qc3 (by simp only [hw0];simp <;> (repeat' apply Bd) <;> first | rfl) (by simp <;> (repeat' apply Bd) <;> first | rfl)) (Km _ _ h l0 (j0+1) hd0 hk0 hm0)
mutual
def yc (a0:(List File)) (j0:Nat) (t0:(List File)):Option Int:=
 match a0 with
 | []=>
   kp (qa t0)
 | x_0::a0=>
   if (decide ((0:Int) < ((j0:Nat):Int)))=true then
    ix t0 ((j0:Nat):Int) >>=fun x2=>
    ix t0 (IntKind.i64.wrap (((j0:Nat):Int) - (1:Int))) >>=fun x3=>
    if (Op.bytesLess x2.Path.toList x3.Path.toList || decide (x2.Path=x3.Path))=true then
     some (14:Int)
    else
     uj (qa a0) (qa j0) (qa t0)
   else
    uj (qa a0) (qa j0) (qa t0)
 partial_fixpoint
def uj (a0:(List File)) (j0:Nat) (t0:(List File)):Option Int:=
 yc (qa a0) (j0+1) (qa t0)
 partial_fixpoint
end
@[reducible] def Kj (a0:(List File)) (j0:Nat) (t0:(List File)) (r:Int):Prop:=
  ∀(l0:List File),l0.drop j0=a0→j0≤l0.length→l0.length≤9223372036854775807→Ok Tryz.prog G tt 55 0 (Ret Tryz.prog [.tmp 2] (fun y H=>Told Tryz.prog G H y (.int .i64 r))) (.again (ju [42] Tryz.f12 1).1 (ju [42] Tryz.f12 1).2 (.n (.sl 2 false (t0.map File.cells)) (.n .undef (.n .undef (.n .undef .z (.n (.int .i64 ((l0.map File.cells).length:Int)) .z .z)) .z) .z) (.n .undef (.n .undef (.n .undef .z (.n (.int .i64 ((j0:Nat):Int)) .z .z)) .z) (.n .undef .z (.n .undef (.n (.sl 2 false (l0.map File.cells)) .z .z) .z)))) 0 [])
@[reducible] def Y2 (a0:(List File)) (j0:Nat) (t0:(List File)) (r:Int):Prop:=
  ∀(l0:List File),l0.drop (j0+1)=a0→j0+1≤l0.length→l0.length≤9223372036854775807→Ok Tryz.prog G tt 55 0 (Ret Tryz.prog [.tmp 2] (fun y H=>Told Tryz.prog G H y (.int .i64 r))) (.go [] (v8 [42] Tryz.f12 42) [] (.n (.sl 2 false (t0.map File.cells)) (.n .undef (.n .undef (.n .undef .z (.n (.int .i64 ((l0.map File.cells).length:Int)) .z .z)) .z) .z) (.n .undef (.n .undef (.n .undef .z (.n (.int .i64 ((j0:Nat):Int)) .z .z)) .z) (.n .undef .z (.n .undef (.n (.sl 2 false (l0.map File.cells)) .z .z) .z)))) 0 [])
theorem qbb:PC3 Kj yc∧PC3 Y2 uj:=by
 refine yc.mutual_partial_correctness Kj Y2 (fun uj Y3 a0 j0 t0 r h=> ?_) (fun yc Kn a0 j0 t0 r h=> ?_)
 ·unfold qa at h
  intro l0 hl0 hj0 hm0
  refine yb ?_
  cases a0 with
  | nil=>
    have hb:=Z7 (C:=File.cells) hl0 hj0
    refine kr [42] ?_
    refine qz hb ?_
    refine kr [42] ?_
    refine Wv 44 rfl (fun hm=> ?_)
    exact jr (by kernel_rfl) lA (Km _ _ h t0 0 rfl (AD _) (Qw hm))
  | cons x_0 a0=>
    obtain ⟨hb,hx0,hd0,hk0,hw0⟩:=Qv (C:=File.cells) hl0 hm0
    refine kr [42] ?_
    refine qy hb ?_
    refine kr [42] ?_
    refine qr (fun hb=> ?_) (fun hb=> ?_)
    ·replace h:=ql hb h
     refine kr [42] ?_
     obtain ⟨x2,hx,h⟩:=bind_some h
     refine y7 env hx rfl rfl rfl rfl rfl ?_
     refine kr [42] ?_
     obtain ⟨x3,hx,h⟩:=bind_some h
     refine y7 env hx rfl rfl rfl rfl rfl ?_
     refine kr [42] ?_
     refine qe (fun hb=> ?_) (fun hb=> ?_)
     ·replace h:=ql hb h
      refine kr [42] ?_
      cases h
      exact kf
     replace h:=qm hb h
     refine kr [42] ?_
     exact qx (by kernel_rfl) rfl lA (Y3 _ _ _ _ h l0 hd0 hk0 hm0)
    replace h:=qm hb h
    refine kr [42] ?_
    exact qx (by kernel_rfl) rfl lA (Y3 _ _ _ _ h l0 hd0 hk0 hm0)
 unfold qa at h
 intro l0 hd0 hk0 hm0
 have hw0:=qaj hk0 hm0
 refine kr [42] ?_
 exact ja (by kernel_rfl) (qc3 (by simp only [hw0];simp <;> (repeat' apply Bd) <;> first | rfl) (by simp <;> (repeat' apply Bd) <;> first | rfl)) (Kn _ _ _ _ h l0 hd0 hk0 hm0)
theorem Kn:PC3 Kj yc:=qbb.1
theorem Y3:PC3 Y2 uj:=qbb.2
def w9 (a0:(List File)) (t0:(List File)):Option Int:=
 match a0 with
 | []=>
   yc (qa t0) 0 (qa t0)
 | x_0::a0=>
   Ks x_0.Path >>=fun x1=>
   if (!x1)=true then
    some (4:Int)
   else
    w9 (qa a0) (qa t0)
 partial_fixpoint
@[reducible] def qb9 (a0:(List File)) (t0:(List File)) (r:Int):Prop:=
  ∀(l0:List File) (j0:Nat),l0.drop j0=a0→j0≤l0.length→l0.length≤9223372036854775807→Ok Tryz.prog G tt 55 0 (Ret Tryz.prog [.tmp 2] (fun y H=>Told Tryz.prog G H y (.int .i64 r))) (.again (ju [42] Tryz.f12 0).1 (ju [42] Tryz.f12 0).2 (.n (.sl 2 false (t0.map File.cells)) (.n .undef (.n .undef .z (.n (.sl 2 false (l0.map File.cells)) .z .z)) (.n .undef .z (.n (.int .i64 ((j0:Nat):Int)) .z .z))) (.n .undef (.n .undef .z (.n (.int .i64 ((l0.map File.cells).length:Int)) .z .z)) .z)) 0 [])
theorem Ko:PC2 qb9 w9:=by
 refine w9.partial_correctness qb9 (fun w9 Ko a0 t0 r h=> ?_)
 unfold qa at h
 intro l0 j0 hl0 hj0 hm0
 refine yb ?_
 cases a0 with
 | nil=>
   have hb:=Z7 (C:=File.cells) hl0 hj0
   refine kr [42] ?_
   refine qz hb ?_
   refine kr [42] ?_
   refine Wv 22 rfl (fun hm=> ?_)
   exact jr (by kernel_rfl) lA (Kn _ _ _ _ h t0 rfl (AD _) (Qw hm))
 | cons x_0 a0=>
   obtain ⟨hb,hx0,hd0,hk0,hw0⟩:=Qv (C:=File.cells) hl0 hm0
   refine kr [42] ?_
   refine qy hb ?_
   refine kr [42] ?_
   refine qay env rfl rfl rfl rfl (m:=j0) rfl (qak hx0 rfl) ?_
   refine kr [42] ?_
   obtain ⟨x1,hx,h⟩:=bind_some h
   refine qn (qjf _ _ hx) ?_
   refine kr [42] ?_
   refine qe (fun hb=> ?_) (fun hb=> ?_)
   ·replace h:=ql hb h
    refine kr [42] ?_
    cases h
    exact kf
   replace h:=qm hb h
   refine kr [42] ?_
   exact ja (by kernel_rfl) (qc3 (by simp only [hw0];simp <;> (repeat' apply Bd) <;> first | rfl) (by simp <;> (repeat' apply Bd) <;> first | rfl)) (Ko _ _ _ h l0 (j0+1) hd0 hk0 hm0)
def Q2 (a0:(List File)):Option Int:=
 if (decide ((32:Int) < ((a0.map File.cells).length:Int)))=true then
  some (3:Int)
 else
  w9 a0 a0
@[reducible] def qlm (a0:(List File)) (r:Int):Prop:=
  Fn Tryz.prog G 12 [(.sl 2 false (a0.map File.cells))] (.int .i64 r)
theorem qa3:PC1 qlm Q2:=fun a0 r h=>by
 rw [Q2.eq_def] at h
 refine z8 (T:=tt) (N:=55) (rs:= [.tmp 2]) (fun vs w=>by simp) Tryz.func12 rfl rfl rfl rfl (by kernel_rfl) (yk rfl) (zt _ rfl) ?_
 refine kr [42] ?_
 refine qe (fun hb=> ?_) (fun hb=> ?_)
 ·replace h:=ql hb h
  refine kr [42] ?_
  cases h
  exact kf
 replace h:=qm hb h
 refine kr [42] ?_
 refine Wv 11 rfl (fun hm=> ?_)
 exact jr (by kernel_rfl) lA (Ko _ _ _ h a0 0 rfl (AD _) (Qw hm))
def ko (a0:BA) (a1:BA):Option Bool:=
 if (decide ((a1.size:Int)≤(a0.size:Int)))=true then
  ssub a0 (0:Int) (a1.size:Int) >>=fun x1=>
  some (decide (x1=a1))
 else
  some false
@[reducible] def W1 (a0:BA) (a1:BA) (r:Bool):Prop:=
  Fn Tryz.prog G 72 [(.str a0),(.str a1)] (.bool r)
theorem W3:PC2 W1 ko:=fun a0 a1 r h=>by
 rw [ko.eq_def] at h
 refine z8 (T:=tt) (N:=18) (rs:= [.tmp 4]) (fun vs w=>by simp) Tryz.func72 rfl rfl rfl rfl (by kernel_rfl) (yk rfl) (zt _ rfl) ?_
 refine kr [] ?_
 refine qr (fun hb=> ?_) (fun hb=> ?_)
 ·replace h:=ql hb h
  refine kr [] ?_
  obtain ⟨x1,hx,h⟩:=bind_some h
  refine qdx env hx rfl rfl rfl rfl rfl ?_
  refine kr [] ?_
  cases h
  exact kf
 replace h:=qm hb h
 refine kr [] ?_
 cases h
 exact kf
def y5 (a0:BA) (a1:BA):Option Bool:=
 ko a0 a1 >>=fun x1=>
 some x1
@[reducible] def qg8 (a0:BA) (a1:BA) (r:Bool):Prop:=
  Fn Tryz.prog G 47 [(.str a0),(.str a1)] (.bool r)
theorem Zw:PC2 qg8 y5:=fun a0 a1 r h=>by
 rw [y5.eq_def] at h
 refine z8 (T:=tt) (N:=8) (rs:= [.tmp 4]) (fun vs w=>by simp) Tryz.func47 rfl rfl rfl rfl (by kernel_rfl) (yk rfl) (zt _ rfl) ?_
 refine kr [] ?_
 obtain ⟨x1,hx,h⟩:=bind_some h
 refine qn (W3 _ _ _ hx) ?_
 refine kr [] ?_
 cases h
 exact kf
def kj  :Option Int:=
 some (0:Int)
@[reducible] def qka  (r:Int):Prop:=
  Ok Tryz.prog G tt 29 0 (Ret Tryz.prog [.tmp 2] (fun y H=>Told Tryz.prog G H y (.int .i64 r))) (.go [] (v8 [3] Tryz.f112 3) [] .z 0 [])
theorem wz:PC0 qka kj:=fun  r h=>by
 rw [kj.eq_def] at h
 refine kr [3] ?_
 cases h
 exact kf
def Jp (a0:Int):Option Int:=
 if (decide ((48:Int)≤a0))=true then
  if (decide (a0≤(57:Int)))=true then
   some (1:Int)
  else
   if (decide ((97:Int)≤a0))=true then
    if (decide (a0≤(122:Int)))=true then
     some (2:Int)
    else
     if (decide ((65:Int)≤a0))=true then
      if (decide (a0≤(90:Int)))=true then
       some (2:Int)
      else
       if (decide (a0=(95:Int)))=true then
        some (2:Int)
       else
        y4 (⟨#[40,41,123,125,44,59,58,46,61,60,43,45,42,47,33,38,124]⟩:BA) a0 >>=fun x1=>
        if (decide ((0:Int)≤x1))=true then
         some (3:Int)
        else
         kj 
     else
      if (decide (a0=(95:Int)))=true then
       some (2:Int)
      else
       y4 (⟨#[40,41,123,125,44,59,58,46,61,60,43,45,42,47,33,38,124]⟩:BA) a0 >>=fun x2=>
       if (decide ((0:Int)≤x2))=true then
        some (3:Int)
       else
        kj 
   else
    if (decide ((65:Int)≤a0))=true then
     if (decide (a0≤(90:Int)))=true then
      some (2:Int)
     else
      if (decide (a0=(95:Int)))=true then
       some (2:Int)
      else
       y4 (⟨#[40,41,123,125,44,59,58,46,61,60,43,45,42,47,33,38,124]⟩:BA) a0 >>=fun x3=>
       if (decide ((0:Int)≤x3))=true then
        some (3:Int)
       else
        kj 
    else
     if (decide (a0=(95:Int)))=true then
      some (2:Int)
     else
      y4 (⟨#[40,41,123,125,44,59,58,46,61,60,43,45,42,47,33,38,124]⟩:BA) a0 >>=fun x4=>
      if (decide ((0:Int)≤x4))=true then
       some (3:Int)
      else
       kj 
 else
  if (decide ((97:Int)≤a0))=true then
   if (decide (a0≤(122:Int)))=true then
    some (2:Int)
   else
    if (decide ((65:Int)≤a0))=true then
     if (decide (a0≤(90:Int)))=true then
      some (2:Int)
     else
      if (decide (a0=(95:Int)))=true then
       some (2:Int)
      else
       y4 (⟨#[40,41,123,125,44,59,58,46,61,60,43,45,42,47,33,38,124]⟩:BA) a0 >>=fun x5=>
       if (decide ((0:Int)≤x5))=true then
        some (3:Int)
       else
        kj 
    else
     if (decide (a0=(95:Int)))=true then
      some (2:Int)
     else
      y4 (⟨#[40,41,123,125,44,59,58,46,61,60,43,45,42,47,33,38,124]⟩:BA) a0 >>=fun x6=>
      if (decide ((0:Int)≤x6))=true then
       some (3:Int)
      else
       kj 
  else
   if (decide ((65:Int)≤a0))=true then
    if (decide (a0≤(90:Int)))=true then
     some (2:Int)
    else
     if (decide (a0=(95:Int)))=true then
      some (2:Int)
     else
      y4 (⟨#[40,41,123,125,44,59,58,46,61,60,43,45,42,47,33,38,124]⟩:BA) a0 >>=fun x7=>
      if (decide ((0:Int)≤x7))=true then
       some (3:Int)
      else
       kj 
   else
    if (decide (a0=(95:Int)))=true then
     some (2:Int)
    else
     y4 (⟨#[40,41,123,125,44,59,58,46,61,60,43,45,42,47,33,38,124]⟩:BA) a0 >>=fun x8=>
     if (decide ((0:Int)≤x8))=true then
      some (3:Int)
     else
      kj 
@[reducible] def qnl (a0:Int) (r:Int):Prop:=
  Fn Tryz.prog G 112 [(.int .u8 a0)] (.int .i64 r)
theorem qcs:PC1 qnl Jp:=fun a0 r h=>by
 rw [Jp.eq_def] at h
 refine z8 (T:=tt) (N:=29) (rs:= [.tmp 2]) (fun vs w=>by simp) Tryz.func112 rfl rfl rfl rfl (by kernel_rfl) (yk rfl) (zt _ rfl) ?_
 refine kr [3] ?_
 refine qr (fun hb=> ?_) (fun hb=> ?_)
 ·replace h:=ql hb h
  refine kr [3] ?_
  refine qe (fun hb=> ?_) (fun hb=> ?_)
  ·replace h:=ql hb h
   refine kr [3] ?_
   cases h
   exact kf
  replace h:=qm hb h
  refine kr [3] ?_
  refine qr (fun hb=> ?_) (fun hb=> ?_)
  ·replace h:=ql hb h
   refine kr [3] ?_
   refine qe (fun hb=> ?_) (fun hb=> ?_)
   ·replace h:=ql hb h
    refine kr [3] ?_
    cases h
    exact kf
   replace h:=qm hb h
   refine kr [3] ?_
   refine qr (fun hb=> ?_) (fun hb=> ?_)
   ·replace h:=ql hb h
    refine kr [3] ?_
    refine qe (fun hb=> ?_) (fun hb=> ?_)
    ·replace h:=ql hb h
     refine kr [3] ?_
     cases h
     exact kf
    replace h:=qm hb h
    refine kr [3] ?_
    refine qe (fun hb=> ?_) (fun hb=> ?_)
    ·replace h:=ql hb h
     refine kr [3] ?_
     cases h
     exact kf
    replace h:=qm hb h
    refine kr [3] ?_
    obtain ⟨x1,hx,h⟩:=bind_some h
    refine qn (kz _ _ _ hx) ?_
    refine kr [3] ?_
    refine qe (fun hb=> ?_) (fun hb=> ?_)
    ·replace h:=ql hb h
     refine kr [3] ?_
     cases h
     exact kf
    replace h:=qm hb h
    refine kr [3] ?_
    exact qx (by kernel_rfl) rfl lA (wz _ h)
   replace h:=qm hb h
   refine kr [3] ?_
   refine qe (fun hb=> ?_) (fun hb=> ?_)
   ·replace h:=ql hb h
    refine kr [3] ?_
    cases h
    exact kf
   replace h:=qm hb h
   refine kr [3] ?_
   obtain ⟨x2,hx,h⟩:=bind_some h
   refine qn (kz _ _ _ hx) ?_
   refine kr [3] ?_
   refine qe (fun hb=> ?_) (fun hb=> ?_)
   ·replace h:=ql hb h
    refine kr [3] ?_
    cases h
    exact kf
   replace h:=qm hb h
   refine kr [3] ?_
   exact qx (by kernel_rfl) rfl lA (wz _ h)
  replace h:=qm hb h
  refine kr [3] ?_
  refine qr (fun hb=> ?_) (fun hb=> ?_)
  ·replace h:=ql hb h
   refine kr [3] ?_
   refine qe (fun hb=> ?_) (fun hb=> ?_)
   ·replace h:=ql hb h
    refine kr [3] ?_
    cases h
    exact kf
   replace h:=qm hb h
   refine kr [3] ?_
   refine qe (fun hb=> ?_) (fun hb=> ?_)
   ·replace h:=ql hb h
    refine kr [3] ?_
    cases h
    exact kf
   replace h:=qm hb h
   refine kr [3] ?_
   obtain ⟨x3,hx,h⟩:=bind_some h
   refine qn (kz _ _ _ hx) ?_
   refine kr [3] ?_
   refine qe (fun hb=> ?_) (fun hb=> ?_)
   ·replace h:=ql hb h
    refine kr [3] ?_
    cases h
    exact kf
   replace h:=qm hb h
   refine kr [3] ?_
   exact qx (by kernel_rfl) rfl lA (wz _ h)
  replace h:=qm hb h
  refine kr [3] ?_
  refine qe (fun hb=> ?_) (fun hb=> ?_)
  ·replace h:=ql hb h
   refine kr [3] ?_
   cases h
   exact kf
  replace h:=qm hb h
  refine kr [3] ?_
  obtain ⟨x4,hx,h⟩:=bind_some h
  refine qn (kz _ _ _ hx) ?_
  refine kr [3] ?_
  refine qe (fun hb=> ?_) (fun hb=> ?_)
  ·replace h:=ql hb h
   refine kr [3] ?_
   cases h
   exact kf
  replace h:=qm hb h
  refine kr [3] ?_
  exact qx (by kernel_rfl) rfl lA (wz _ h)
 replace h:=qm hb h
 refine kr [3] ?_
 refine qr (fun hb=> ?_) (fun hb=> ?_)
 ·replace h:=ql hb h
  refine kr [3] ?_
  refine qe (fun hb=> ?_) (fun hb=> ?_)
  ·replace h:=ql hb h
   refine kr [3] ?_
   cases h
   exact kf
  replace h:=qm hb h
  refine kr [3] ?_
  refine qr (fun hb=> ?_) (fun hb=> ?_)
  ·replace h:=ql hb h
   refine kr [3] ?_
   refine qe (fun hb=> ?_) (fun hb=> ?_)
   ·replace h:=ql hb h
    refine kr [3] ?_
    cases h
    exact kf
   replace h:=qm hb h
   refine kr [3] ?_
   refine qe (fun hb=> ?_) (fun hb=> ?_)
   ·replace h:=ql hb h
    refine kr [3] ?_
    cases h
    exact kf
   replace h:=qm hb h
   refine kr [3] ?_
   obtain ⟨x5,hx,h⟩:=bind_some h
   refine qn (kz _ _ _ hx) ?_
   refine kr [3] ?_
   refine qe (fun hb=> ?_) (fun hb=> ?_)
   ·replace h:=ql hb h
    refine kr [3] ?_
    cases h
    exact kf
   replace h:=qm hb h
   refine kr [3] ?_
   exact qx (by kernel_rfl) rfl lA (wz _ h)
  replace h:=qm hb h
  refine kr [3] ?_
  refine qe (fun hb=> ?_) (fun hb=> ?_)
  ·replace h:=ql hb h
   refine kr [3] ?_
   cases h
   exact kf
  replace h:=qm hb h
  refine kr [3] ?_
  obtain ⟨x6,hx,h⟩:=bind_some h
  refine qn (kz _ _ _ hx) ?_
  refine kr [3] ?_
  refine qe (fun hb=> ?_) (fun hb=> ?_)
  ·replace h:=ql hb h
   refine kr [3] ?_
   cases h
   exact kf
  replace h:=qm hb h
  refine kr [3] ?_
  exact qx (by kernel_rfl) rfl lA (wz _ h)
 replace h:=qm hb h
 refine kr [3] ?_
 refine qr (fun hb=> ?_) (fun hb=> ?_)
 ·replace h:=ql hb h
  refine kr [3] ?_
  refine qe (fun hb=> ?_) (fun hb=> ?_)
  ·replace h:=ql hb h
   refine kr [3] ?_
   cases h
   exact kf
  replace h:=qm hb h
  refine kr [3] ?_
  refine qe (fun hb=> ?_) (fun hb=> ?_)
  ·replace h:=ql hb h
   refine kr [3] ?_
   cases h
   exact kf
  replace h:=qm hb h
  refine kr [3] ?_
  obtain ⟨x7,hx,h⟩:=bind_some h
  refine qn (kz _ _ _ hx) ?_
  refine kr [3] ?_
  refine qe (fun hb=> ?_) (fun hb=> ?_)
  ·replace h:=ql hb h
   refine kr [3] ?_
   cases h
   exact kf
  replace h:=qm hb h
  refine kr [3] ?_
  exact qx (by kernel_rfl) rfl lA (wz _ h)
 replace h:=qm hb h
 refine kr [3] ?_
 refine qe (fun hb=> ?_) (fun hb=> ?_)
 ·replace h:=ql hb h
  refine kr [3] ?_
  cases h
  exact kf
 replace h:=qm hb h
 refine kr [3] ?_
 obtain ⟨x8,hx,h⟩:=bind_some h
 refine qn (kz _ _ _ hx) ?_
 refine kr [3] ?_
 refine qe (fun hb=> ?_) (fun hb=> ?_)
 ·replace h:=ql hb h
  refine kr [3] ?_
  cases h
  exact kf
 replace h:=qm hb h
 refine kr [3] ?_
 exact qx (by kernel_rfl) rfl lA (wz _ h)
def Zj (a0:Int):Option Bool:=
 Jp a0 >>=fun x1=>
 if (decide (x1=(2:Int)))=true then
  some true
 else
  Jp a0 >>=fun x2=>
  some (decide (x2=(1:Int)))
@[reducible] def qnj (a0:Int) (r:Bool):Prop:=
  Fn Tryz.prog G 71 [(.int .u8 a0)] (.bool r)
theorem qcr:PC1 qnj Zj:=fun a0 r h=>by
 rw [Zj.eq_def] at h
 refine z8 (T:=tt) (N:=11) (rs:= [.tmp 2]) (fun vs w=>by simp) Tryz.func71 rfl rfl rfl rfl (by kernel_rfl) (yk rfl) (zt _ rfl) ?_
 refine kr [] ?_
 obtain ⟨x1,hx,h⟩:=bind_some h
 refine qn (qcs _ _ hx) ?_
 refine kr [] ?_
 refine q9 (fun hb=> ?_) (fun hb=> ?_)
 ·replace h:=qm hb h
  refine kr [] ?_
  obtain ⟨x2,hx,h⟩:=bind_some h
  refine qn (qcs _ _ hx) ?_
  refine kr [] ?_
  cases h
  exact kf
 replace h:=ql hb h
 refine kr [] ?_
 cases h
 exact kf
def Qp (t3:Int):Option Int:=
 some t3
@[reducible] def qmk (t3:Int) (r:Int):Prop:=
  Ok Tryz.prog G tt 17 0 (Ret Tryz.prog [.tmp 2] (fun y H=>Told Tryz.prog G H y (.int .i64 r))) (.go [] (qgn [1000000] Tryz.f151 0) [] (.n .undef (.n .undef (.n (.int .i64 t3) .z .z) .z) .z) 0 [])
theorem qfu:PC1 qmk Qp:=fun t3 r h=>by
 rw [Qp.eq_def] at h
 refine kr [1000000] ?_
 cases h
 exact kf
def vu (t0:BA) (t3:Int):Option Int:=
 if (decide (t3 < (t0.size:Int)))=true then
  sx t0 t3 >>=fun x1=>
  Zj (qa x1) >>=fun x2=>
  if x2=true then
   vu (qa t0) (IntKind.i64.wrap (t3+(1:Int)))
  else
   Qp (qa t3)
 else
  Qp (qa t3)
 partial_fixpoint
@[reducible] def qfl (t0:BA) (t3:Int) (r:Int):Prop:=
  Ok Tryz.prog G tt 17 0 (Ret Tryz.prog [.tmp 2] (fun y H=>Told Tryz.prog G H y (.int .i64 r))) (.again (ju [1000000] Tryz.f151 0).1 (ju [1000000] Tryz.f151 0).2 (.n (.str t0) (.n .undef (.n (.int .i64 t3) .z .z) .z) .z) 0 [])
theorem qbp:PC2 qfl vu:=by
 refine vu.partial_correctness qfl (fun vu qbp t0 t3 r h=> ?_)
 unfold qa at h
 refine yb ?_
 refine kr [1000000] ?_
 refine qr (fun hb=> ?_) (fun hb=> ?_)
 ·replace h:=ql hb h
  refine kr [1000000] ?_
  obtain ⟨x1,hx,h⟩:=bind_some h
  refine qqq env hx rfl rfl rfl rfl ?_
  refine kr [1000000] ?_
  obtain ⟨x2,hx,h⟩:=bind_some h
  refine qn (qcr _ _ hx) ?_
  refine kr [1000000] ?_
  refine qe (fun hb=> ?_) (fun hb=> ?_)
  ·replace h:=ql hb h
   refine kr [1000000] ?_
   exact ja (by kernel_rfl) lA (qbp _ _ _ h)
  replace h:=qm hb h
  refine kr [1000000] ?_
  exact qx (by kernel_rfl) rfl lA (qfu _ _ h)
 replace h:=qm hb h
 refine kr [1000000] ?_
 exact qx (by kernel_rfl) rfl lA (qfu _ _ h)
def qac (a0:BA):Option Int:=
 vu a0 (0:Int)
@[reducible] def qrj (a0:BA) (r:Int):Prop:=
  Fn Tryz.prog G 151 [(.str a0)] (.int .i64 r)
theorem qjc:PC1 qrj qac:=fun a0 r h=>by
 rw [qac.eq_def] at h
 refine z8 (T:=tt) (N:=17) (rs:= [.tmp 2]) (fun vs w=>by simp) Tryz.func151 rfl rfl rfl rfl (by kernel_rfl) (yk rfl) (zt _ rfl) ?_
 refine kr [1000000] ?_
 exact jr (by kernel_rfl) lA (qbp _ _ _ h)
def vv  :Option (Int × Int):=
 some ((0:Int),(0:Int))
@[reducible] def qi2  (r:Int × Int):Prop:=
  Ok Tryz.prog G tt 33 0 (Ret Tryz.prog [.tmp 2, .tmp 3] (fun y H=>Told Tryz.prog G H y (.tup [(.int .i64 r.1),(.int .i64 r.2)]))) (.go [] (v8 [11,20] Tryz.f120 11) [] .z 0 [])
theorem qc2:PC0 qi2 vv:=fun  r h=>by
 rw [vv.eq_def] at h
 refine kr [11,20] ?_
 cases h
 exact kf
def Qt  :Option (Int × Int):=
 vv 
@[reducible] def qi1  (r:Int × Int):Prop:=
  Ok Tryz.prog G tt 33 0 (Ret Tryz.prog [.tmp 2, .tmp 3] (fun y H=>Told Tryz.prog G H y (.tup [(.int .i64 r.1),(.int .i64 r.2)]))) (.go [] (v8 [11,20] Tryz.f120 20) [] .z 0 [])
theorem qc1:PC0 qi1 Qt:=fun  r h=>by
 rw [Qt.eq_def] at h
 refine kr [11,20] ?_
 exact qx (by kernel_rfl) rfl lA (qc2 _ h)
def Yw (a0:BA):Option (Int × Int):=
 if (decide (a0=(⟨#[]⟩:BA)))=true then
  some ((0:Int),(0:Int))
 else
  sx a0 (0:Int) >>=fun x1=>
  Jp x1 >>=fun x2=>
  if (decide (x2=(1:Int)))=true then
   qac a0 >>=fun x3=>
   ssub a0 (0:Int) x3 >>=fun x4=>
   Wy x4 >>=fun x5=>
   if x5=true then
    some (x3,(2:Int))
   else
    vv 
  else
   if (decide (x2=(2:Int)))=true then
    qac a0 >>=fun x6=>
    if (decide (x6≤(32:Int)))=true then
     some (x6,(1:Int))
    else
     Qt 
   else
    if (decide (x2=(3:Int)))=true then
     y5 a0 (⟨#[47,47]⟩:BA) >>=fun x7=>
     if x7=true then
      some ((0:Int),(0:Int))
     else
      y5 a0 (⟨#[61,61]⟩:BA) >>=fun x8=>
      if x8=true then
       some ((2:Int),(3:Int))
      else
       some ((1:Int),(3:Int))
    else
     Qt 
@[reducible] def qnk (a0:BA) (r:Int × Int):Prop:=
  Fn Tryz.prog G 120 [(.str a0)] (.tup [(.int .i64 r.1),(.int .i64 r.2)])
theorem qnq:PC1 qnk Yw:=fun a0 r h=>by
 rw [Yw.eq_def] at h
 refine z8 (T:=tt) (N:=33) (rs:= [.tmp 2, .tmp 3]) (fun vs w=>by simp) Tryz.func120 rfl rfl rfl rfl (by kernel_rfl) (yk rfl) (zt _ rfl) ?_
 refine kr [11,20] ?_
 refine qe (fun hb=> ?_) (fun hb=> ?_)
 ·replace h:=ql hb h
  refine kr [11,20] ?_
  cases h
  exact kf
 replace h:=qm hb h
 refine kr [11,20] ?_
 obtain ⟨x1,hx,h⟩:=bind_some h
 refine qqq env hx rfl rfl rfl rfl ?_
 refine kr [11,20] ?_
 obtain ⟨x2,hx,h⟩:=bind_some h
 refine qn (qcs _ _ hx) ?_
 refine kr [11,20] ?_
 refine qe (fun hb=> ?_) (fun hb=> ?_)
 ·replace h:=ql hb h
  refine kr [11,20] ?_
  obtain ⟨x3,hx,h⟩:=bind_some h
  refine qn (qjc _ _ hx) ?_
  refine kr [11,20] ?_
  obtain ⟨x4,hx,h⟩:=bind_some h
  refine qdx env hx rfl rfl rfl rfl rfl ?_
  refine kr [11,20] ?_
  obtain ⟨x5,hx,h⟩:=bind_some h
  refine qn (qlp _ _ hx) ?_
  refine kr [11,20] ?_
  refine qe (fun hb=> ?_) (fun hb=> ?_)
  ·replace h:=ql hb h
   refine kr [11,20] ?_
   cases h
   exact kf
  replace h:=qm hb h
  refine kr [11,20] ?_
  exact qx (by kernel_rfl) rfl lA (qc2 _ h)
 replace h:=qm hb h
 refine kr [11,20] ?_
 refine qe (fun hb=> ?_) (fun hb=> ?_)
 ·replace h:=ql hb h
  refine kr [11,20] ?_
  obtain ⟨x6,hx,h⟩:=bind_some h
  refine qn (qjc _ _ hx) ?_
  refine kr [11,20] ?_
  refine qe (fun hb=> ?_) (fun hb=> ?_)
  ·replace h:=ql hb h
   refine kr [11,20] ?_
   cases h
   exact kf
  replace h:=qm hb h
  refine kr [11,20] ?_
  exact qx (by kernel_rfl) rfl lA (qc1 _ h)
 replace h:=qm hb h
 refine kr [11,20] ?_
 refine qe (fun hb=> ?_) (fun hb=> ?_)
 ·replace h:=ql hb h
  refine kr [11,20] ?_
  obtain ⟨x7,hx,h⟩:=bind_some h
  refine qn (Zw _ _ _ hx) ?_
  refine kr [11,20] ?_
  refine qe (fun hb=> ?_) (fun hb=> ?_)
  ·replace h:=ql hb h
   refine kr [11,20] ?_
   cases h
   exact kf
  replace h:=qm hb h
  refine kr [11,20] ?_
  obtain ⟨x8,hx,h⟩:=bind_some h
  refine qn (Zw _ _ _ hx) ?_
  refine kr [11,20] ?_
  refine qe (fun hb=> ?_) (fun hb=> ?_)
  ·replace h:=ql hb h
   refine kr [11,20] ?_
   cases h
   exact kf
  replace h:=qm hb h
  refine kr [11,20] ?_
  cases h
  exact kf
 replace h:=qm hb h
 refine kr [11,20] ?_
 exact qx (by kernel_rfl) rfl lA (qc1 _ h)
def wt (t0:BA) (t5:(List Token)) (t6:Int):Option ((List Token) × Int × Int):=
 K5 (qa t0) (qa t6) >>=fun x1=>
 if (decide (x1=(t0.size:Int)))=true then
  ssub t0 t6 (t0.size:Int) >>=fun x2=>
  app 48 t5 ([(Token.mk (4:Int) x2 (⟨#[]⟩) (t0.size:Int))]) >>=fun x3=>
  some (x3,(0:Int),(0:Int))
 else
  ssub t0 x1 (t0.size:Int) >>=fun x4=>
  Yw (qa x4) >>=fun x5=>
  if (decide (x5.2=(0:Int)))=true then
   some (([]:(List Token)),(1:Int),x1)
  else
   ssub t0 t6 x1 >>=fun x6=>
   ssub t0 x1 (IntKind.i64.wrap (x1+x5.1)) >>=fun x7=>
   app 48 t5 ([(Token.mk x5.2 x6 x7 x1)]) >>=fun x8=>
   wt (qa t0) (qa x8) (IntKind.i64.wrap (x1+x5.1))
 partial_fixpoint
@[reducible] def qcz (t0:BA) (t5:(List Token)) (t6:Int) (r:(List Token) × Int × Int):Prop:=
  Ok Tryz.prog G tt 58 0 (Ret Tryz.prog [.tmp 2, .tmp 3, .tmp 4] (fun y H=>Told Tryz.prog G H y (.tup [(.sl 4 false (r.1.map Token.cells)),(.int .i64 r.2.1),(.int .i64 r.2.2)]))) (.again (ju [] Tryz.f78 0).1 (ju [] Tryz.f78 0).2 (.n (.str t0) (.n .undef .z (.n (.bs 4 0 0 0 t5.length) .z .z)) (.n .undef .z (.n (.int .i64 t6) .z .z))) 1 [(0, .row 118 (t5.map Token.cells).flatten)])
theorem Wi:PC3 qcz wt:=by
 refine wt.partial_correctness qcz (fun wt Wi t0 t5 t6 r h=> ?_)
 unfold qa at h
 refine yb ?_
 refine kr [] ?_
 obtain ⟨x1,hx,h⟩:=bind_some h
 refine qn (qqz _ _ _ hx) ?_
 refine kr [] ?_
 refine qe (fun hb=> ?_) (fun hb=> ?_)
 ·replace h:=ql hb h
  refine kr [] ?_
  obtain ⟨x2,hx,h⟩:=bind_some h
  refine qdx env hx rfl rfl rfl rfl rfl ?_
  refine kr [] ?_
  obtain ⟨x3,hx,h⟩:=bind_some h
  have hp_x3:=qav hx (by simp)
  refine qbv (C:=Token.cells) env hx rfl rfl (by simp) (fun _=>rfl) rfl rfl rfl rfl rfl (by decide) rfl rfl rfl ?_
  refine kr [] ?_
  cases h
  exact yg env rfl rfl (Z6 (Yt (j8 (uq (jm qax rfl) (by simp)) (j8 (uq (zo rfl) (by simp)) (j8 (uq (zo rfl) (by simp)) Jk)))))
 replace h:=qm hb h
 refine kr [] ?_
 obtain ⟨x4,hx,h⟩:=bind_some h
 refine qdx env hx rfl rfl rfl rfl rfl ?_
 refine kr [] ?_
 obtain ⟨x5,hx,h⟩:=bind_some h
 refine qn (qnq _ _ hx) ?_
 refine kr [] ?_
 refine qe (fun hb=> ?_) (fun hb=> ?_)
 ·replace h:=ql hb h
  refine kr [] ?_
  cases h
  exact yg env rfl rfl (Z6 (Yt (j8 (uq (y6 (.inr rfl)) (by simp)) (j8 (uq (zo rfl) (by simp)) (j8 (uq (zo rfl) (by simp)) Jk)))))
 replace h:=qm hb h
 refine kr [] ?_
 obtain ⟨x6,hx,h⟩:=bind_some h
 refine qdx env hx rfl rfl rfl rfl rfl ?_
 refine kr [] ?_
 obtain ⟨x7,hx,h⟩:=bind_some h
 refine qdx env hx rfl rfl rfl rfl rfl ?_
 refine kr [] ?_
 obtain ⟨x8,hx,h⟩:=bind_some h
 have hp_x8:=qav hx (by simp)
 refine qbv (C:=Token.cells) env hx rfl rfl (by simp) (fun _=>rfl) rfl rfl rfl rfl rfl (by decide) rfl rfl rfl ?_
 refine kr [] ?_
 exact ja (by kernel_rfl) lA (Wi _ _ _ _ h)
def J4 (a0:BA):Option ((List Token) × Int × Int):=
 if (decide ((65536:Int) < (a0.size:Int)))=true then
  some (([]:(List Token)),(3:Int),(0:Int))
 else
  wt a0 ([]:List Token) (0:Int)
@[reducible] def qml (a0:BA) (r:(List Token) × Int × Int):Prop:=
  Fn Tryz.prog G 78 [(.str a0)] (.tup [(.sl 4 false (r.1.map Token.cells)),(.int .i64 r.2.1),(.int .i64 r.2.2)])
theorem qmt:PC1 qml J4:=fun a0 r h=>by
 rw [J4.eq_def] at h
 refine z8 (T:=tt) (N:=58) (rs:= [.tmp 2, .tmp 3, .tmp 4]) (fun vs w=>by simp) Tryz.func78 rfl rfl rfl rfl (by kernel_rfl) (yk rfl) (zt _ rfl) ?_
 refine kr [] ?_
 refine qe (fun hb=> ?_) (fun hb=> ?_)
 ·replace h:=ql hb h
  refine kr [] ?_
  cases h
  exact yg env rfl rfl (Z6 (Yt (j8 (uq (y6 (.inr rfl)) (by simp)) (j8 (uq (zo rfl) (by simp)) (j8 (uq (zo rfl) (by simp)) Jk)))))
 replace h:=qm hb h
 refine kr [] ?_
 refine quu 5 _ 4 118 rfl rfl ?_
 exact jr (by kernel_rfl) lA (Wi _ _ _ _ h)
def Wp (a0 :Token):Option Int:=
 if (!decide (a0.Kind=(3:Int)))=true then
  some (0:Int)
 else
  if (decide (a0.Text=(⟨#[124]⟩:BA)))=true then
   some (1:Int)
  else
   if (decide (a0.Text=(⟨#[38]⟩:BA)))=true then
    some (2:Int)
   else
    if (decide (a0.Text=(⟨#[61,61]⟩:BA)))=true then
     some (3:Int)
    else
     if (decide (a0.Text=(⟨#[60]⟩:BA)))=true then
      some (3:Int)
     else
      if (decide (a0.Text=(⟨#[43]⟩:BA)))=true then
       some (4:Int)
      else
       if (decide (a0.Text=(⟨#[45]⟩:BA)))=true then
        some (4:Int)
       else
        if (decide (a0.Text=(⟨#[42]⟩:BA)))=true then
         some (5:Int)
        else
         if (decide (a0.Text=(⟨#[47]⟩:BA)))=true then
          some (5:Int)
         else
          some (0:Int)
@[reducible] def qnm (a0:Token) (r:Int):Prop:=
  Fn Tryz.prog G 155 [(.agg (Token.cells a0))] (.int .i64 r)
theorem qnr:PC1 qnm Wp:=fun a0 r h=>by
 rw [Wp.eq_def] at h
 refine z8 (T:=tt) (N:=21) (rs:= [.tmp 2]) (fun vs w=>by simp) Tryz.func155 rfl rfl rfl rfl (by kernel_rfl) (yk rfl) (zt _ rfl) ?_
 refine kr [] ?_
 refine qe (fun hb=> ?_) (fun hb=> ?_)
 ·replace h:=ql hb h
  refine kr [] ?_
  cases h
  exact kf
 replace h:=qm hb h
 refine kr [] ?_
 refine qe (fun hb=> ?_) (fun hb=> ?_)
 ·replace h:=ql hb h
  refine kr [] ?_
  cases h
  exact kf
 replace h:=qm hb h
 refine kr [] ?_
 refine qe (fun hb=> ?_) (fun hb=> ?_)
 ·replace h:=ql hb h
  refine kr [] ?_
  cases h
  exact kf
 replace h:=qm hb h
 refine kr [] ?_
 refine qe (fun hb=> ?_) (fun hb=> ?_)
 ·replace h:=ql hb h
  refine kr [] ?_
  cases h
  exact kf
 replace h:=qm hb h
 refine kr [] ?_
 refine qe (fun hb=> ?_) (fun hb=> ?_)
 ·replace h:=ql hb h
  refine kr [] ?_
  cases h
  exact kf
 replace h:=qm hb h
 refine kr [] ?_
 refine qe (fun hb=> ?_) (fun hb=> ?_)
 ·replace h:=ql hb h
  refine kr [] ?_
  cases h
  exact kf
 replace h:=qm hb h
 refine kr [] ?_
 refine qe (fun hb=> ?_) (fun hb=> ?_)
 ·replace h:=ql hb h
  refine kr [] ?_
  cases h
  exact kf
 replace h:=qm hb h
 refine kr [] ?_
 refine qe (fun hb=> ?_) (fun hb=> ?_)
 ·replace h:=ql hb h
  refine kr [] ?_
  cases h
  exact kf
 replace h:=qm hb h
 refine kr [] ?_
 refine qe (fun hb=> ?_) (fun hb=> ?_)
 ·replace h:=ql hb h
  refine kr [] ?_
  cases h
  exact kf
 replace h:=qm hb h
 refine kr [] ?_
 cases h
 exact kf
def zy (a0:Reader):Option (Token):=
 ix a0.l_ a0.at_ >>=fun x1=>
 some x1
@[reducible] def qfo (a0:Reader) (r:Token):Prop:=
  AC Tryz.prog G 80 [(.ptr 0 0 0)] 1 [(0, .var 130 (Reader.cells a0))] (.agg (Token.cells r)) 1 [(0, .var 130 (Reader.cells a0))]
theorem jv:PC1 qfo zy:=fun a0 r h=>by
 rw [zy.eq_def] at h
 refine ⟨?_,(zm rfl rfl j3),(qj zg),(zn rfl j6),(qj zg),rfl,rfl,rfl,rfl⟩
 refine ku (T:=tt) (N:=13) (rs:= [.cell 2 118]) (fun vs w=>by simp) Tryz.func80 rfl rfl rfl (by kernel_rfl) (by kernel_rfl) ?_
 refine kr [] ?_
 obtain ⟨x1,hx,h⟩:=bind_some h
 refine y7 env hx rfl rfl rfl rfl rfl ?_
 refine kr [] ?_
 cases h
 exact yp env rfl rfl (tS [some 0] (sV (lS (lS lN)) q8) (yf (kw (qi (qh (zo rfl) rfl) (qi (qh (z6 rfl) rfl) (qi (qh (z6 rfl) rfl) (qi (qh (zo rfl) rfl) kv))))) (by simp)))
def zd (a0:Reader) (a1:BA):Option Bool:=
 zy a0 >>=fun x1=>
 if (!decide (x1.Kind=(4:Int)))=true then
  zy a0 >>=fun x2=>
  some (decide (x2.Text=a1))
 else
  some false
@[reducible] def qg9 (a0:Reader) (a1:BA) (r:Bool):Prop:=
  AC Tryz.prog G 81 [(.ptr 0 0 0),(.str a1)] 1 [(0, .var 130 (Reader.cells a0))] (.bool r) 1 [(0, .var 130 (Reader.cells a0))]
theorem zh:PC2 qg9 zd:=fun a0 a1 r h=>by
 rw [zd.eq_def] at h
 refine ⟨?_,(zm rfl rfl j3),(qj zg),(zn rfl j6),(qj zg),rfl,rfl,rfl,rfl⟩
 refine ku (T:=tt) (N:=16) (rs:= [.tmp 4]) (fun vs w=>by simp) Tryz.func81 rfl rfl rfl (by kernel_rfl) (by kernel_rfl) ?_
 refine kr [] ?_
 obtain ⟨x1,hx,h⟩:=bind_some h
 refine qb (AC.g9 (jv _ _ hx) [0] [0]) ?_
 refine kr [] ?_
 refine qr (fun hb=> ?_) (fun hb=> ?_)
 ·replace h:=ql hb h
  refine kr [] ?_
  obtain ⟨x2,hx,h⟩:=bind_some h
  refine qb (AC.g9 (jv _ _ hx) [0] [0]) ?_
  refine kr [] ?_
  cases h
  exact yp env rfl rfl (tS [some 0] (sV (lS (lS lN)) q8) (yf (Yl (qh (qbh rfl) rfl) (by simp)) (by simp)))
 replace h:=qm hb h
 refine kr [] ?_
 cases h
 exact yp env rfl rfl (tS [some 0] (sV (lS (lS lN)) q8) (yf (Yl (qh (qbh rfl) rfl) (by simp)) (by simp)))
def k7 (a0:Reader):Option (Except Int (Unit)):=
 zy a0 >>=fun x1=>
 some (.error x1.At)
@[reducible] def qfs (a0:Reader) (r:Except Int (Unit)):Prop:=
  exq (fun (r:Unit)=>AC Tryz.prog G 86 [(.ptr 0 0 0)] 1 [(0, .var 130 (Reader.cells a0))] (.tup []) 1 [(0, .var 130 (Reader.cells a0))]) (fun e=>FC Tryz.prog G 86 [(.ptr 0 0 0)] 1 [(0, .var 130 (Reader.cells a0))] (flt e)) r
theorem y0:PC1 qfs k7:=fun a0 r h=>by
 rw [k7.eq_def] at h
 refine W6 (T:=tt) (N:=6) (rs:= []) (fun vs w=>by simp) Tryz.func86 rfl rfl rfl (by kernel_rfl) (by kernel_rfl) (zm rfl rfl j3) (qj zg) (fun r=>(zn rfl j6)) (fun r=>(qj zg)) (fun _=>rfl) (fun _=>rfl) rfl (fun _=>rfl) ?_
 refine kr [] ?_
 obtain ⟨x1,hx,h⟩:=bind_some h
 refine qb (AC.g9 (jv _ _ hx) [0] [0]) ?_
 refine kr [] ?_
 refine qy3 (by kernel_rfl) rfl ?_
 refine kr [] ?_
 cases h
 exact q50 rfl rfl
def uu (o0:Reader) (o1_0:Int) (o1_1:BA) (o1_2:LB) (o1_3:LN):Option (Except Int (Reader × LB)):=
 zy o0 >>=fun x3=>
 app 16 o1_2 ([x3.Lead]) >>=fun x4=>
 some (.ok ((Reader.mk o0.l_ (IntKind.i64.wrap (o0.at_+(1:Int)))),x4))
@[reducible] def qd1 (o0:Reader) (o1_0:Int) (o1_1:BA) (o1_2:LB) (o1_3:LN) (r:Except Int (Reader × LB)):Prop:=
  Ok Tryz.prog G tt 31 4 (exq (fun (r:Reader × LB)=>Ret Tryz.prog [] (fun y H=>vj Tryz.prog G 4 H y (.tup []) ⟨5, [(0, .var 130 (Reader.cells r.1)),(1, .var 45 [(.int .i64 o1_0),(.str o1_1),(.bs 1 2 4 0 r.2.length),(.bs 4 3 3 0 o1_3.length)]),(4, .row 9 (r.2.map sc).flatten),(3, .row 45 (o1_3.map Node.cells).flatten)]⟩)) (fun e=>Yq (flt e)) r) (.go [] (v8 [9] Tryz.f121 9) [] (.n (.ptr 0 0 0) (.n (.ptr 1 1 0) .z .z) .z) 5 [(0, .var 130 (Reader.cells o0)),(1, .var 45 [(.int .i64 o1_0),(.str o1_1),(.bs 1 2 4 0 o1_2.length),(.bs 4 3 3 0 o1_3.length)]),(4, .row 9 (o1_2.map sc).flatten),(3, .row 45 (o1_3.map Node.cells).flatten)])
theorem Kp:PC5 qd1 uu:=fun o0 o1_0 o1_1 o1_2 o1_3 r h=>by
 rw [uu.eq_def] at h
 refine kr [9] ?_
 obtain ⟨x3,hx,h⟩:=bind_some h
 refine qb (AC.g9 (jv _ _ hx) [0] [0]) ?_
 refine kr [9] ?_
 obtain ⟨x4,hx,h⟩:=bind_some h
 have hp_x4:=qav hx (by simp)
 refine qbv (C:=sc) env hx rfl rfl (by simp) (fun _=>rfl) rfl rfl rfl rfl rfl (by decide) rfl rfl rfl ?_
 refine kr [9] ?_
 cases h
 exact jh env rfl (tS [some 0,some 1,some 2,some 3] (sV (lS (lS lN)) (sV (lS (lS (lS (lS lN)))) (sR zp (sR qo q8)))) (jy jf))
def qp (a0:Reader) (a1:Int) (a3:BA) (a4:LB) (a5:LN) (a2:BA):Option (Except Int (Reader × LB)):=
 zd a0 a2 >>=fun x1=>
 if (!x1)=true then
  k7 a0 >>=fun x2=>
  match x2 with
  | .error ee=>some (.error ee)
  | .ok x2=>
  uu a0 a1 a3 a4 a5
 else
  uu a0 a1 a3 a4 a5
@[reducible] def qfn (a0:Reader) (a1:Int) (a3:BA) (a4:LB) (a5:LN) (a2:BA) (r:Except Int (Reader × LB)):Prop:=
  exq (fun (r:Reader × LB)=>AC Tryz.prog G 121 [(.ptr 0 0 0),(.ptr 1 1 0),(.str a2)] 4 [(0, .var 130 (Reader.cells a0)),(1, .var 45 [(.int .i64 a1),(.str a3),(.bs 1 2 2 0 a4.length),(.bs 4 3 3 0 a5.length)]),(2, .row 9 (a4.map sc).flatten),(3, .row 45 (a5.map Node.cells).flatten)] (.tup []) 5 [(0, .var 130 (Reader.cells r.1)),(1, .var 45 [(.int .i64 a1),(.str a3),(.bs 1 2 4 0 r.2.length),(.bs 4 3 3 0 a5.length)]),(4, .row 9 (r.2.map sc).flatten),(3, .row 45 (a5.map Node.cells).flatten)]) (fun e=>FC Tryz.prog G 121 [(.ptr 0 0 0),(.ptr 1 1 0),(.str a2)] 4 [(0, .var 130 (Reader.cells a0)),(1, .var 45 [(.int .i64 a1),(.str a3),(.bs 1 2 2 0 a4.length),(.bs 4 3 3 0 a5.length)]),(2, .row 9 (a4.map sc).flatten),(3, .row 45 (a5.map Node.cells).flatten)] (flt e)) r
theorem qc:PC6 qfn qp:=fun a0 a1 a3 a4 a5 a2 r h=>by
 rw [qp.eq_def] at h
 refine W6 (T:=tt) (N:=31) (rs:= []) (fun vs w=>by simp) Tryz.func121 rfl rfl rfl (by kernel_rfl) (by kernel_rfl) (zm rfl rfl (zm rfl rfl (jn zp rfl (jn qo rfl j3)))) (qj (qj (za zp (za qo zg)))) (fun r=>(zn rfl (zn rfl (jt zp (jt qo j6))))) (fun r=>(qj (qj (za zp (za qo zg))))) (fun _=>rfl) (fun _=>rfl) rfl (fun _=>rfl) ?_
 refine kr [9] ?_
 obtain ⟨x1,hx,h⟩:=bind_some h
 refine qb (AC.g9 (zh _ _ _ hx) [0] [0]) ?_
 refine kr [9] ?_
 refine qe (fun hb=> ?_) (fun hb=> ?_)
 ·replace h:=ql hb h
  refine kr [9] ?_
  obtain ⟨x2,hx,h⟩:=bind_some h
  rcases x2 with ee | x2
  ·replace h:some (.error ee)=some r:=h
   cases h
   exact zi (FC.go (y0 _ _ hx) [0] [0] rfl rfl rfl rfl rfl rfl)
  refine qb (AC.g9 (y0 _ _ hx) [0] [0]) ?_
  refine kr [9] ?_
  exact qx (by kernel_rfl) rfl lQ (Kp _ _ _ _ _ _ h)
 replace h:=qm hb h
 refine kr [9] ?_
 exact qx (by kernel_rfl) rfl lQ (Kp _ _ _ _ _ _ h)
def wj (o0:Reader) (o1_0:Int) (o1_1:BA) (o1_2:LB) (o1_3:LN) (o4:Token):Option (Except Int (Reader × BA × LB)):=
 app 16 o1_2 ([o4.Lead]) >>=fun x5=>
 some (.ok ((Reader.mk o0.l_ (IntKind.i64.wrap (o0.at_+(1:Int)))),o4.Text,x5))
@[reducible] def qc6 (o0:Reader) (o1_0:Int) (o1_1:BA) (o1_2:LB) (o1_3:LN) (o4:Token) (r:Except Int (Reader × BA × LB)):Prop:=
  Ok Tryz.prog G tt 41 4 (exq (fun (r:Reader × BA × LB)=>Ret Tryz.prog [] (fun y H=>vj Tryz.prog G 4 H y (.tup []) ⟨5, [(0, .var 130 (Reader.cells r.1)),(1, .var 45 [(.int .i64 o1_0),(.str r.2.1),(.bs 1 2 4 0 r.2.2.length),(.bs 4 3 3 0 o1_3.length)]),(4, .row 9 (r.2.2.map sc).flatten),(3, .row 45 (o1_3.map Node.cells).flatten)]⟩)) (fun e=>Yq (flt e)) r) (.go [] (v8 [15] Tryz.f122 15) [] (.n (.ptr 0 0 0) (.n (.ptr 1 1 0) .z .z) (.n .undef (.n (.ptr 4 4 0) .z .z) .z)) 6 [(0, .var 130 (Reader.cells o0)),(1, .var 45 [(.int .i64 o1_0),(.str o1_1),(.bs 1 2 5 0 o1_2.length),(.bs 4 3 3 0 o1_3.length)]),(5, .row 9 (o1_2.map sc).flatten),(3, .row 45 (o1_3.map Node.cells).flatten),(4, .var 118 (Token.cells o4))])
theorem Ze:PC6 qc6 wj:=fun o0 o1_0 o1_1 o1_2 o1_3 o4 r h=>by
 rw [wj.eq_def] at h
 refine kr [15] ?_
 obtain ⟨x5,hx,h⟩:=bind_some h
 have hp_x5:=qav hx (by simp)
 refine qbv (C:=sc) env hx rfl rfl (by simp) (fun _=>rfl) rfl rfl rfl rfl rfl (by decide) rfl rfl rfl ?_
 refine kr [15] ?_
 cases h
 exact jh env rfl (tS [some 0,some 1,some 2,some 3] (sV (lS (lS lN)) (sV (lS (lS (lS (lS lN)))) (sR zp (sR qo q8)))) (jy jf))
def jd (a0:Reader) (a1:Int) (a2:BA) (a3:LB) (a4:LN):Option (Except Int (Reader × BA × LB)):=
 zy a0 >>=fun x1=>
 if (!decide (x1.Kind=(1:Int)))=true then
  k7 a0 >>=fun x4=>
  match x4 with
  | .error ee=>some (.error ee)
  | .ok x4=>
  wj a0 a1 a2 a3 a4 x1
 else
  qa9 x1.Text >>=fun x2=>
  if (!x2)=true then
   k7 a0 >>=fun x3=>
   match x3 with
   | .error ee=>some (.error ee)
   | .ok x3=>
   wj a0 a1 a2 a3 a4 x1
  else
   wj a0 a1 a2 a3 a4 x1
@[reducible] def qfp (a0:Reader) (a1:Int) (a2:BA) (a3:LB) (a4:LN) (r:Except Int (Reader × BA × LB)):Prop:=
  exq (fun (r:Reader × BA × LB)=>AC Tryz.prog G 122 [(.ptr 0 0 0),(.ptr 1 1 0)] 4 [(0, .var 130 (Reader.cells a0)),(1, .var 45 [(.int .i64 a1),(.str a2),(.bs 1 2 2 0 a3.length),(.bs 4 3 3 0 a4.length)]),(2, .row 9 (a3.map sc).flatten),(3, .row 45 (a4.map Node.cells).flatten)] (.tup []) 5 [(0, .var 130 (Reader.cells r.1)),(1, .var 45 [(.int .i64 a1),(.str r.2.1),(.bs 1 2 4 0 r.2.2.length),(.bs 4 3 3 0 a4.length)]),(4, .row 9 (r.2.2.map sc).flatten),(3, .row 45 (a4.map Node.cells).flatten)]) (fun e=>FC Tryz.prog G 122 [(.ptr 0 0 0),(.ptr 1 1 0)] 4 [(0, .var 130 (Reader.cells a0)),(1, .var 45 [(.int .i64 a1),(.str a2),(.bs 1 2 2 0 a3.length),(.bs 4 3 3 0 a4.length)]),(2, .row 9 (a3.map sc).flatten),(3, .row 45 (a4.map Node.cells).flatten)] (flt e)) r
theorem zj:PC5 qfp jd:=fun a0 a1 a2 a3 a4 r h=>by
 rw [jd.eq_def] at h
 refine W6 (T:=tt) (N:=41) (rs:= []) (fun vs w=>by simp) Tryz.func122 rfl rfl rfl (by kernel_rfl) (by kernel_rfl) (zm rfl rfl (zm rfl rfl (jn zp rfl (jn qo rfl j3)))) (qj (qj (za zp (za qo zg)))) (fun r=>(zn rfl (zn rfl (jt zp (jt qo j6))))) (fun r=>(qj (qj (za zp (za qo zg))))) (fun _=>rfl) (fun _=>rfl) rfl (fun _=>rfl) ?_
 refine kr [15] ?_
 obtain ⟨x1,hx,h⟩:=bind_some h
 refine qb (AC.g9 (jv _ _ hx) [0] [0]) ?_
 refine kr [15] ?_
 refine q9 (fun hb=> ?_) (fun hb=> ?_)
 ·replace h:=qm hb h
  refine kr [15] ?_
  obtain ⟨x2,hx,h⟩:=bind_some h
  refine qn (qia _ _ hx) ?_
  refine kr [15] ?_
  refine qe (fun hb=> ?_) (fun hb=> ?_)
  ·replace h:=ql hb h
   refine kr [15] ?_
   obtain ⟨x3,hx,h⟩:=bind_some h
   rcases x3 with ee | x3
   ·replace h:some (.error ee)=some r:=h
    cases h
    exact zi (FC.go (y0 _ _ hx) [0] [0] rfl rfl rfl rfl rfl rfl)
   refine qb (AC.g9 (y0 _ _ hx) [0] [0]) ?_
   refine kr [15] ?_
   exact qx (by kernel_rfl) rfl lQ (Ze _ _ _ _ _ _ _ h)
  replace h:=qm hb h
  refine kr [15] ?_
  exact qx (by kernel_rfl) rfl lQ (Ze _ _ _ _ _ _ _ h)
 replace h:=ql hb h
 refine kr [15] ?_
 obtain ⟨x4,hx,h⟩:=bind_some h
 rcases x4 with ee | x4
 ·replace h:some (.error ee)=some r:=h
  cases h
  exact zi (FC.go (y0 _ _ hx) [0] [0] rfl rfl rfl rfl rfl rfl)
 refine qb (AC.g9 (y0 _ _ hx) [0] [0]) ?_
 refine kr [15] ?_
 exact qx (by kernel_rfl) rfl lQ (Ze _ _ _ _ _ _ _ h)
def zu (a0:Int) (a2:BA) (a3:LB) (a4:LN) (a1:Node):Option LN:=
 app 72 a4 [a1] >>=fun x1=>
 some x1
@[reducible] def qno (a0:Int) (a2:BA) (a3:LB) (a4:LN) (a1:Node) (r:LN):Prop:=
  AC Tryz.prog G 82 [(.ptr 0 0 0),(.agg (z7 a1))] 3 [(0, .var 45 [(.int .i64 a0),(.str a2),(.bs 1 1 1 0 a3.length),(.bs 4 2 2 0 a4.length)]),(1, .row 9 (a3.map sc).flatten),(2, .row 45 (a4.map Node.cells).flatten)] (.tup []) 4 [(0, .var 45 [(.int .i64 a0),(.str a2),(.bs 1 1 1 0 a3.length),(.bs 4 2 3 0 r.length)]),(1, .row 9 (a3.map sc).flatten),(3, .row 45 (r.map Node.cells).flatten)]
theorem zv:PC5 qno zu:=fun a0 a2 a3 a4 a1 r h=>by
 rw [zu.eq_def] at h
 refine ⟨?_,(zm rfl rfl (jn zp rfl (jn qo rfl j3))),(qj (za zp (za qo zg))),(zn rfl (jt zp (jt qo j6))),(qj (za zp (za qo zg))),rfl,rfl,rfl,rfl⟩
 refine ku (T:=tt) (N:=15) (rs:= []) (fun vs w=>by simp) Tryz.func82 rfl rfl rfl (by kernel_rfl) (by kernel_rfl) ?_
 refine kr [] ?_
 obtain ⟨x1,hx,h⟩:=bind_some h
 have hz_x1:=hx
 refine qqr (C:=Node.cells) env hx rfl rfl Node.cells_len rfl rfl rfl rfl rfl (by decide) rfl rfl rfl ?_
 refine kr [] ?_
 refine qj9 env rfl rfl rfl rfl (BL _) (qqj hz_x1) ?_
 refine kr [] ?_
 refine qmi hz_x1 qo rfl rfl (Node.cells_eq a1).symm rfl rfl rfl ?_
 refine kr [] ?_
 cases h
 exact jh env rfl (tS [some 0,some 1,some 2] (sV (lS (lS (lS (lS lN)))) (sR zp (sR qo q8))) (jy jf))
def uo (a0:Reader):Option (Except Int (Node × Reader)):=
 jd a0 (5:Int) (⟨#[]⟩) ([]:LB) ([]:LN) >>=fun x1=>
 match x1 with
 | .error ee=>some (.error ee)
 | .ok x1=>
 some (.ok ((Node.mk (5:Int) x1.2.1 x1.2.2 ([]:LN)),x1.1))
@[reducible] def qfq (a0:Reader) (r:Except Int (Node × Reader)):Prop:=
  exq (fun (r:Node × Reader)=>AC Tryz.prog G 123 [(.ptr 0 0 0)] 1 [(0, .var 130 (Reader.cells a0))] (.agg (z7 r.1)) 1 [(0, .var 130 (Reader.cells r.2))]) (fun e=>FC Tryz.prog G 123 [(.ptr 0 0 0)] 1 [(0, .var 130 (Reader.cells a0))] (flt e)) r
theorem Qs:PC1 qfq uo:=fun a0 r h=>by
 rw [uo.eq_def] at h
 refine W6 (T:=tt) (N:=8) (rs:= [.cell 2 45]) (fun vs w=>by simp) Tryz.func123 rfl rfl rfl (by kernel_rfl) (by kernel_rfl) (zm rfl rfl j3) (qj zg) (fun r=>(zn rfl j6)) (fun r=>(qj zg)) (fun _=>rfl) (fun _=>rfl) rfl (fun _=>rfl) ?_
 refine kr [] ?_
 obtain ⟨x1,hx,h⟩:=bind_some h
 rcases x1 with ee | x1
 ·replace h:some (.error ee)=some r:=h
  cases h
  exact zi (FCalls.ghost (e:=9) (FCalls.ghost (e:=45) (FCalls.wkg (FC.go (objs:= [(0, .var 130 (Reader.cells a0)),(1, .var 45 [(.int .i64 0),(.str ⟨#[]⟩),(.sl 0 true []),(.sl 0 true [])]),(2, .var 45 [(.int .i64 (5:Int)),(.str ⟨#[]⟩),(.bs 1 3 3 0 ([]:LB).length),(.bs 4 4 4 0 ([]:LN).length)]),(3, .row 9 (([]:LB).map sc).flatten),(4, .row 45 (([]:LN).map Node.cells).flatten)]) (xs:= [(.ptr 0 0 0),(.ptr 2 2 0)]) (zj _ _ _ _ _ _ hx) [0,2,3,4] [0,2,3,4] rfl rfl rfl rfl rfl rfl) (qg (qq _) (qg (qq _) jb)) (qf (qf (je (qd (qk _) (qd (qk _) (qd (ze rfl) (qd (ze rfl) jw)))) (zq _)))))))
 refine qb (ACalls.ghost (e:=9) (ACalls.ghost (e:=45) (ACalls.wkg (AC.go (objs:= [(0, .var 130 (Reader.cells a0)),(1, .var 45 [(.int .i64 0),(.str ⟨#[]⟩),(.sl 0 true []),(.sl 0 true [])]),(2, .var 45 [(.int .i64 (5:Int)),(.str ⟨#[]⟩),(.bs 1 3 3 0 ([]:LB).length),(.bs 4 4 4 0 ([]:LN).length)]),(3, .row 9 (([]:LB).map sc).flatten),(4, .row 45 (([]:LN).map Node.cells).flatten)]) (xs:= [(.ptr 0 0 0),(.ptr 2 2 0)]) (zj _ _ _ _ _ _ hx) [0,2,3,4] [0,2,3,4] rfl rfl rfl rfl rfl rfl rfl rfl rfl) (qg (qq _) (qg (qq _) jb)) (qf (qf (je (qd (qk _) (qd (qk _) (qd (ze rfl) (qd (ze rfl) jw)))) (zq _))))))) ?_
 refine kr [] ?_
 cases h
 exact yp env rfl rfl (tS [some 0] (sV (lS (lS lN)) q8) (yf (kw (qi (qh (zo rfl) rfl) (qi (qh (z6 rfl) rfl) (qi (qh (jm zp rfl) rfl) (qi (qh (jm qo rfl) rfl) kv))))) (by simp)))
def j7 (a0:Reader) (a1:Int):Option (Node × Reader):=
 zy a0 >>=fun x1=>
 some ((Node.mk a1 x1.Text ([x1.Lead]) ([]:LN)),(Reader.mk a0.l_ (IntKind.i64.wrap (a0.at_+(1:Int)))))
@[reducible] def qfm (a0:Reader) (a1:Int) (r:Node × Reader):Prop:=
  AC Tryz.prog G 156 [(.ptr 0 0 0),(.int .i64 a1)] 2 [(0, .var 130 (Reader.cells a0)),(1, .row 45 [])] (.agg [(.int .i64 r.1.kind),(.str r.1.text),(.sl 1 false (r.1.gaps.map sc)),(.bs 4 1 2 0 r.1.kids.length)]) 3 [(0, .var 130 (Reader.cells r.2)),(2, .row 45 (r.1.kids.map Node.cells).flatten)]
theorem wb:PC2 qfm j7:=fun a0 a1 r h=>by
 rw [j7.eq_def] at h
 refine ⟨?_,(zm rfl rfl (q0i rfl j3)),(qj (qn7 zg)),(zn rfl (jt qo j6)),(qj (za qo zg)),rfl,rfl,rfl,rfl⟩
 refine ku (T:=tt) (N:=22) (rs:= [.cell 4 45]) (fun vs w=>by simp) Tryz.func156 rfl rfl rfl (by kernel_rfl) (by kernel_rfl) ?_
 refine kr [] ?_
 obtain ⟨x1,hx,h⟩:=bind_some h
 refine qb (AC.g9 (jv _ _ hx) [0] [0]) ?_
 refine kr [] ?_
 cases h
 exact yp env rfl rfl (tS [some 0,none] (sV (lS (lS lN)) (qhl rfl rfl q8)) (yf (kw (qi (qh (zo rfl) rfl) (qi (qh (z6 rfl) rfl) (qi (qh (y6 (.inl rfl)) rfl) (qi (q3r rfl rfl) kv))))) (by simp)))
def Zk (a0:Int) (a2:BA) (a3:LB) (a4:LN) (a1:Node):Option LN:=
 app 72 a4 [a1] >>=fun x1=>
 some x1
@[reducible] def qnn (a0:Int) (a2:BA) (a3:LB) (a4:LN) (a1:Node) (r:LN):Prop:=
  AC Tryz.prog G 82 [(.ptr 0 0 0),(.agg (z7 a1))] 2 [(0, .var 45 [(.int .i64 a0),(.str a2),(.sl 1 false (a3.map sc)),(.bs 4 1 1 0 a4.length)]),(1, .row 45 (a4.map Node.cells).flatten)] (.tup []) 3 [(0, .var 45 [(.int .i64 a0),(.str a2),(.sl 1 false (a3.map sc)),(.bs 4 1 2 0 r.length)]),(2, .row 45 (r.map Node.cells).flatten)]
theorem Ww:PC5 qnn Zk:=fun a0 a2 a3 a4 a1 r h=>by
 rw [Zk.eq_def] at h
 refine ⟨?_,(zm rfl rfl (jn qo rfl j3)),(qj (za qo zg)),(zn rfl (jt qo j6)),(qj (za qo zg)),rfl,rfl,rfl,rfl⟩
 refine ku (T:=tt) (N:=15) (rs:= []) (fun vs w=>by simp) Tryz.func82 rfl rfl rfl (by kernel_rfl) (by kernel_rfl) ?_
 refine kr [] ?_
 obtain ⟨x1,hx,h⟩:=bind_some h
 have hz_x1:=hx
 refine qqr (C:=Node.cells) env hx rfl rfl Node.cells_len rfl rfl rfl rfl rfl (by decide) rfl rfl rfl ?_
 refine kr [] ?_
 refine qj9 env rfl rfl rfl rfl (BL _) (qqj hz_x1) ?_
 refine kr [] ?_
 refine qmi hz_x1 qo rfl rfl (Node.cells_eq a1).symm rfl rfl rfl ?_
 refine kr [] ?_
 cases h
 exact jh env rfl (tS [some 0,some 1] (sV (lS (lS (lS (lS lN)))) (sR qo q8)) (jy jf))
def km (o0:Reader) (o3_0:Int) (o3_1:BA) (o3_2:LB) (o3_3:LN):Option (Except Int (Node × Reader)):=
 some (.ok ((Node.mk o3_0 o3_1 o3_2 o3_3),o0))
@[reducible] def qbm (o0:Reader) (o3_0:Int) (o3_1:BA) (o3_2:LB) (o3_3:LN) (r:Except Int (Node × Reader)):Prop:=
  Ok Tryz.prog G tt 61 1 (exq (fun (r:Node × Reader)=>Ret Tryz.prog [.cell 2 45] (fun y H=>vj Tryz.prog G 1 H y (.agg (z7 r.1)) ⟨1, [(0, .var 130 (Reader.cells r.2))]⟩)) (fun e=>Yq (flt e)) r) (.go [] (v8 [56] Tryz.f178 56) [] (.n .undef .z (.n (.ptr 1 1 0) .z (.n (.ptr 3 3 0) .z .z))) 9 [(0, .var 130 (Reader.cells o0)),(1, .var 45 [(.int .i64 0),(.str ⟨#[]⟩),(.sl 0 true []),(.sl 0 true [])]),(2, .dead),(3, .var 45 [(.int .i64 o3_0),(.str o3_1),(.bs 1 4 7 0 o3_2.length),(.bs 4 5 8 0 o3_3.length)]),(7, .row 9 (o3_2.map sc).flatten),(8, .row 45 (o3_3.map Node.cells).flatten)])
theorem J1:PC5 qbm km:=fun o0 o3_0 o3_1 o3_2 o3_3 r h=>by
 rw [km.eq_def] at h
 refine kr [56] ?_
 cases h
 exact yp env rfl rfl (tS [some 0] (sV (lS (lS lN)) q8) (yf (kw (qi (qh (zo rfl) rfl) (qi (qh (z6 rfl) rfl) (qi (qh (jm zp rfl) rfl) (qi (qh (jm qo rfl) rfl) kv))))) (by simp)))
def wd (o0:Reader) (o2:Node):Option (Except Int (Node × Reader)):=
 some (.ok (o2,o0))
@[reducible] def qcn (o0:Reader) (o2:Node) (r:Except Int (Node × Reader)):Prop:=
  Ok Tryz.prog G tt 33 1 (exq (fun (r:Node × Reader)=>Ret Tryz.prog [.cell 4 45] (fun y H=>vj Tryz.prog G 1 H y (.agg (z7 r.1)) ⟨1, [(0, .var 130 (Reader.cells r.2))]⟩)) (fun e=>Yq (flt e)) r) (.go [] (qgn [1000000] Tryz.f125 0) [] (.n .undef (.n .undef .z (.n (.ptr 2 2 0) .z .z)) (.n .undef (.n (.ptr 1 1 0) .z .z) .z)) 8 [(0, .var 130 (Reader.cells o0)),(1, .var 45 [(.int .i64 0),(.str ⟨#[]⟩),(.sl 0 true []),(.sl 0 true [])]),(2, .var 45 (z7 o2))])
theorem Yp:PC2 qcn wd:=fun o0 o2 r h=>by
 rw [wd.eq_def] at h
 refine kr [1000000] ?_
 cases h
 exact yp env rfl rfl (tS [some 0] (sV (lS (lS lN)) q8) (yf (kw (qi (qh (zo rfl) rfl) (qi (qh (z6 rfl) rfl) (qi (qh (y6 (.inl rfl)) rfl) (qi (qh (y6 (.inl rfl)) rfl) kv))))) (by simp)))
mutual
def zb (a0:Reader) (a1:Int):Option (Except Int (Node × Reader)):=
 if (decide ((5:Int) < a1))=true then
  yi (qa a0) >>=fun x1=>
  match x1 with
  | .error ee=>some (.error ee)
  | .ok x1=>
  some (.ok (x1.1,x1.2))
 else
  zb (qa a0) (IntKind.i64.wrap (a1+(1:Int))) >>=fun x2=>
  match x2 with
  | .error ee=>some (.error ee)
  | .ok x2=>
  jz (qa a1) x2.2 x2.1
 partial_fixpoint
def yi (a0:Reader):Option (Except Int (Node × Reader)):=
 zd (qa a0) (⟨#[45]⟩:BA) >>=fun x3=>
 if x3=true then
  j7 (qa a0) (25:Int) >>=fun x9=>
  yi x9.2 >>=fun x10=>
  match x10 with
  | .error ee=>some (.error ee)
  | .ok x10=>
  Zk x9.1.kind x9.1.text x9.1.gaps x9.1.kids x10.1 >>=fun x11=>
  some (.ok ((Node.mk x9.1.kind x9.1.text x9.1.gaps x11),x10.2))
 else
  zd (qa a0) (⟨#[33]⟩:BA) >>=fun x4=>
  if x4=true then
   j7 (qa a0) (25:Int) >>=fun x5=>
   yi x5.2 >>=fun x6=>
   match x6 with
   | .error ee=>some (.error ee)
   | .ok x6=>
   Zk x5.1.kind x5.1.text x5.1.gaps x5.1.kids x6.1 >>=fun x7=>
   some (.ok ((Node.mk x5.1.kind x5.1.text x5.1.gaps x7),x6.2))
  else
   kq (qa a0) >>=fun x8=>
   match x8 with
   | .error ee=>some (.error ee)
   | .ok x8=>
   js x8.2 x8.1
 partial_fixpoint
def kq (a0:Reader):Option (Except Int (Node × Reader)):=
 zy (qa a0) >>=fun x12=>
 if (decide (x12.Kind=(2:Int)))=true then
  j7 (qa a0) (17:Int) >>=fun x13=>
  some (.ok ((Node.mk x13.1.kind x13.1.text x13.1.gaps x13.1.kids),x13.2))
 else
  zd (qa a0) (⟨#[116,114,117,101]⟩:BA) >>=fun x14=>
  if x14=true then
   j7 (qa a0) (18:Int) >>=fun x15=>
   some (.ok ((Node.mk x15.1.kind x15.1.text x15.1.gaps x15.1.kids),x15.2))
  else
   zd (qa a0) (⟨#[102,97,108,115,101]⟩:BA) >>=fun x16=>
   if x16=true then
    j7 (qa a0) (18:Int) >>=fun x17=>
    some (.ok ((Node.mk x17.1.kind x17.1.text x17.1.gaps x17.1.kids),x17.2))
   else
    zd (qa a0) (⟨#[115,101,108,102]⟩:BA) >>=fun x18=>
    if x18=true then
     j7 (qa a0) (23:Int) >>=fun x19=>
     some (.ok ((Node.mk x19.1.kind x19.1.text x19.1.gaps x19.1.kids),x19.2))
    else
     zd (qa a0) (⟨#[110,101,119]⟩:BA) >>=fun x20=>
     if x20=true then
      qp (qa a0) (22:Int) (⟨#[]⟩) ([]:LB) ([]:LN) (⟨#[110,101,119]⟩:BA) >>=fun x21=>
      match x21 with
      | .error ee=>some (.error ee)
      | .ok x21=>
      jd x21.1 (22:Int) (⟨#[]⟩) x21.2 ([]:LN) >>=fun x22=>
      match x22 with
      | .error ee=>some (.error ee)
      | .ok x22=>
      qp x22.1 (22:Int) x22.2.1 x22.2.2 ([]:LN) (⟨#[40]⟩:BA) >>=fun x23=>
      match x23 with
      | .error ee=>some (.error ee)
      | .ok x23=>
      qp x23.1 (22:Int) x22.2.1 x23.2 ([]:LN) (⟨#[41]⟩:BA) >>=fun x24=>
      match x24 with
      | .error ee=>some (.error ee)
      | .ok x24=>
      some (.ok ((Node.mk (22:Int) x22.2.1 x24.2 ([]:LN)),x24.1))
     else
      zd (qa a0) (⟨#[40]⟩:BA) >>=fun x25=>
      if x25=true then
       qp (qa a0) (26:Int) (⟨#[]⟩) ([]:LB) ([]:LN) (⟨#[40]⟩:BA) >>=fun x26=>
       match x26 with
       | .error ee=>some (.error ee)
       | .ok x26=>
       zb x26.1 (1:Int) >>=fun x27=>
       match x27 with
       | .error ee=>some (.error ee)
       | .ok x27=>
       zu (26:Int) (⟨#[]⟩) x26.2 ([]:LN) x27.1 >>=fun x28=>
       qp x27.2 (26:Int) (⟨#[]⟩) x26.2 (qa x28) (⟨#[41]⟩:BA) >>=fun x29=>
       match x29 with
       | .error ee=>some (.error ee)
       | .ok x29=>
       some (.ok ((Node.mk (26:Int) (⟨#[]⟩) x29.2 x28),x29.1))
      else
       jd (qa a0) (19:Int) (⟨#[]⟩) ([]:LB) ([]:LN) >>=fun x30=>
       match x30 with
       | .error ee=>some (.error ee)
       | .ok x30=>
       zd x30.1 (⟨#[40]⟩:BA) >>=fun x31=>
       if x31=true then
        jl x30.1 (20:Int) x30.2.1 x30.2.2 ([]:LN) >>=fun x32=>
        match x32 with
        | .error ee=>some (.error ee)
        | .ok x32=>
        km x32.1 (20:Int) x30.2.1 x32.2.1 x32.2.2
       else
        km x30.1 (19:Int) x30.2.1 x30.2.2 ([]:LN)
 partial_fixpoint
def jl (a0:Reader) (a1:Int) (a2:BA) (a3:LB) (a4:LN):Option (Except Int (Reader × LB × LN)):=
 qp (qa a0) (qa a1) (qa a2) (qa a3) (qa a4) (⟨#[40]⟩:BA) >>=fun x33=>
 match x33 with
 | .error ee=>some (.error ee)
 | .ok x33=>
 ji (qa true) x33.1 (qa a1) (qa a2) x33.2 (qa a4)
 partial_fixpoint
def jz (t1:Int) (o0:Reader) (o2:Node):Option (Except Int (Node × Reader)):=
 zy (qa o0) >>=fun x34=>
 Wp (qa x34) >>=fun x35=>
 if (decide (x35=t1))=true then
  j7 (qa o0) (24:Int) >>=fun x36=>
  Zk x36.1.kind x36.1.text x36.1.gaps x36.1.kids (qa o2) >>=fun x37=>
  zb x36.2 (IntKind.i64.wrap (t1+(1:Int))) >>=fun x38=>
  match x38 with
  | .error ee=>some (.error ee)
  | .ok x38=>
  Zk x36.1.kind x36.1.text x36.1.gaps (qa x37) x38.1 >>=fun x39=>
  if (decide (t1=(3:Int)))=true then
   wd x38.2 (Node.mk x36.1.kind x36.1.text x36.1.gaps x39)
  else
   jz (qa t1) x38.2 (Node.mk x36.1.kind x36.1.text x36.1.gaps x39)
 else
  wd (qa o0) (qa o2)
 partial_fixpoint
def js (o0:Reader) (o2:Node):Option (Except Int (Node × Reader)):=
 zd (qa o0) (⟨#[46]⟩:BA) >>=fun x40=>
 if x40=true then
  qp (qa o0) (21:Int) (⟨#[]⟩) ([]:LB) ([o2]:LN) (⟨#[46]⟩:BA) >>=fun x41=>
  match x41 with
  | .error ee=>some (.error ee)
  | .ok x41=>
  jd x41.1 (21:Int) (⟨#[]⟩) x41.2 ([o2]:LN) >>=fun x42=>
  match x42 with
  | .error ee=>some (.error ee)
  | .ok x42=>
  jl x42.1 (21:Int) x42.2.1 x42.2.2 ([o2]:LN) >>=fun x43=>
  match x43 with
  | .error ee=>some (.error ee)
  | .ok x43=>
  js x43.1 (Node.mk (21:Int) x42.2.1 x43.2.1 x43.2.2)
 else
  some (.ok (o2,o0))
 partial_fixpoint
def ji (t4:Bool) (o0:Reader) (o1_0:Int) (o1_1:BA) (o1_2:LB) (o1_3:LN):Option (Except Int (Reader × LB × LN)):=
 zd (qa o0) (⟨#[41]⟩:BA) >>=fun x44=>
 if (!x44)=true then
  if (!t4)=true then
   qp (qa o0) (qa o1_0) (qa o1_1) (qa o1_2) (qa o1_3) (⟨#[44]⟩:BA) >>=fun x45=>
   match x45 with
   | .error ee=>some (.error ee)
   | .ok x45=>
   ye x45.1 (qa o1_0) (qa o1_1) x45.2 (qa o1_3)
  else
   ye (qa o0) (qa o1_0) (qa o1_1) (qa o1_2) (qa o1_3)
 else
  qp (qa o0) (qa o1_0) (qa o1_1) (qa o1_2) (qa o1_3) (⟨#[41]⟩:BA) >>=fun x46=>
  match x46 with
  | .error ee=>some (.error ee)
  | .ok x46=>
  some (.ok (x46.1,x46.2,o1_3))
 partial_fixpoint
def ye (o0:Reader) (o1_0:Int) (o1_1:BA) (o1_2:LB) (o1_3:LN):Option (Except Int (Reader × LB × LN)):=
 zb (qa o0) (1:Int) >>=fun x47=>
 match x47 with
 | .error ee=>some (.error ee)
 | .ok x47=>
 zu (qa o1_0) (qa o1_1) (qa o1_2) (qa o1_3) x47.1 >>=fun x48=>
 ji (qa false) x47.2 (qa o1_0) (qa o1_1) (qa o1_2) (qa x48)
 partial_fixpoint
end
@[reducible] def Z4 (a0:Reader) (a1:Int) (r:Except Int (Node × Reader)):Prop:=
  exq (fun (r:Node × Reader)=>AC Tryz.prog G 125 [(.ptr 0 0 0),(.int .i64 a1)] 1 [(0, .var 130 (Reader.cells a0))] (.agg (z7 r.1)) 1 [(0, .var 130 (Reader.cells r.2))]) (fun e=>FC Tryz.prog G 125 [(.ptr 0 0 0),(.int .i64 a1)] 1 [(0, .var 130 (Reader.cells a0))] (flt e)) r
@[reducible] def Jm (a0:Reader) (r:Except Int (Node × Reader)):Prop:=
  exq (fun (r:Node × Reader)=>AC Tryz.prog G 154 [(.ptr 0 0 0)] 1 [(0, .var 130 (Reader.cells a0))] (.agg (z7 r.1)) 1 [(0, .var 130 (Reader.cells r.2))]) (fun e=>FC Tryz.prog G 154 [(.ptr 0 0 0)] 1 [(0, .var 130 (Reader.cells a0))] (flt e)) r
@[reducible] def Zo (a0:Reader) (r:Except Int (Node × Reader)):Prop:=
  exq (fun (r:Node × Reader)=>AC Tryz.prog G 178 [(.ptr 0 0 0)] 1 [(0, .var 130 (Reader.cells a0))] (.agg (z7 r.1)) 1 [(0, .var 130 (Reader.cells r.2))]) (fun e=>FC Tryz.prog G 178 [(.ptr 0 0 0)] 1 [(0, .var 130 (Reader.cells a0))] (flt e)) r
@[reducible] def Qz (a0:Reader) (a1:Int) (a2:BA) (a3:LB) (a4:LN) (r:Except Int (Reader × LB × LN)):Prop:=
  exq (fun (r:Reader × LB × LN)=>AC Tryz.prog G 179 [(.ptr 0 0 0),(.ptr 1 1 0)] 4 [(0, .var 130 (Reader.cells a0)),(1, .var 45 [(.int .i64 a1),(.str a2),(.bs 1 2 2 0 a3.length),(.bs 4 3 3 0 a4.length)]),(2, .row 9 (a3.map sc).flatten),(3, .row 45 (a4.map Node.cells).flatten)] (.tup []) 6 [(0, .var 130 (Reader.cells r.1)),(1, .var 45 [(.int .i64 a1),(.str a2),(.bs 1 2 4 0 r.2.1.length),(.bs 4 3 5 0 r.2.2.length)]),(4, .row 9 (r.2.1.map sc).flatten),(5, .row 45 (r.2.2.map Node.cells).flatten)]) (fun e=>FC Tryz.prog G 179 [(.ptr 0 0 0),(.ptr 1 1 0)] 4 [(0, .var 130 (Reader.cells a0)),(1, .var 45 [(.int .i64 a1),(.str a2),(.bs 1 2 2 0 a3.length),(.bs 4 3 3 0 a4.length)]),(2, .row 9 (a3.map sc).flatten),(3, .row 45 (a4.map Node.cells).flatten)] (flt e)) r
@[reducible] def Qy (t1:Int) (o0:Reader) (o2:Node) (r:Except Int (Node × Reader)):Prop:=
  Ok Tryz.prog G tt 33 1 (exq (fun (r:Node × Reader)=>Ret Tryz.prog [.cell 4 45] (fun y H=>vj Tryz.prog G 1 H y (.agg (z7 r.1)) ⟨1, [(0, .var 130 (Reader.cells r.2))]⟩)) (fun e=>Yq (flt e)) r) (.again (ju [1000000] Tryz.f125 0).1 (ju [1000000] Tryz.f125 0).2 (.n (.ptr 0 0 0) (.n (.int .i64 t1) .z (.n (.ptr 2 2 0) .z .z)) (.n .undef (.n (.ptr 1 1 0) .z .z) .z)) 3 [(0, .var 130 (Reader.cells o0)),(1, .var 45 [(.int .i64 0),(.str ⟨#[]⟩),(.sl 0 true []),(.sl 0 true [])]),(2, .var 45 (z7 o2))])
@[reducible] def Q9 (o0:Reader) (o2:Node) (r:Except Int (Node × Reader)):Prop:=
  Ok Tryz.prog G tt 33 1 (exq (fun (r:Node × Reader)=>Ret Tryz.prog [.cell 2 45] (fun y H=>vj Tryz.prog G 1 H y (.agg (z7 r.1)) ⟨1, [(0, .var 130 (Reader.cells r.2))]⟩)) (fun e=>Yq (flt e)) r) (.again (ju [3000023] Tryz.f154 0).1 (ju [3000023] Tryz.f154 0).2 (.n (.ptr 0 0 0) .z (.n (.ptr 1 1 0) (.n (.ptr 2 2 0) .z .z) .z)) 3 [(0, .var 130 (Reader.cells o0)),(1, .var 45 [(.int .i64 0),(.str ⟨#[]⟩),(.sl 0 true []),(.sl 0 true [])]),(2, .var 45 (z7 o2))])
@[reducible] def Qb (t4:Bool) (o0:Reader) (o1_0:Int) (o1_1:BA) (o1_2:LB) (o1_3:LN) (r:Except Int (Reader × LB × LN)):Prop:=
  Ok Tryz.prog G tt 23 4 (exq (fun (r:Reader × LB × LN)=>Ret Tryz.prog [] (fun y H=>vj Tryz.prog G 4 H y (.tup []) ⟨6, [(0, .var 130 (Reader.cells r.1)),(1, .var 45 [(.int .i64 o1_0),(.str o1_1),(.bs 1 2 4 0 r.2.1.length),(.bs 4 3 5 0 r.2.2.length)]),(4, .row 9 (r.2.1.map sc).flatten),(5, .row 45 (r.2.2.map Node.cells).flatten)]⟩)) (fun e=>Yq (flt e)) r) (.again (ju [12] Tryz.f179 0).1 (ju [12] Tryz.f179 0).2 (.n (.ptr 0 0 0) (.n (.ptr 1 1 0) .z .z) (.n .undef (.n (.bool t4) .z .z) .z)) 7 [(0, .var 130 (Reader.cells o0)),(1, .var 45 [(.int .i64 o1_0),(.str o1_1),(.bs 1 2 5 0 o1_2.length),(.bs 4 3 6 0 o1_3.length)]),(5, .row 9 (o1_2.map sc).flatten),(6, .row 45 (o1_3.map Node.cells).flatten)])
@[reducible] def vq (o0:Reader) (o1_0:Int) (o1_1:BA) (o1_2:LB) (o1_3:LN) (r:Except Int (Reader × LB × LN)):Prop:=
  Ok Tryz.prog G tt 23 4 (exq (fun (r:Reader × LB × LN)=>Ret Tryz.prog [] (fun y H=>vj Tryz.prog G 4 H y (.tup []) ⟨6, [(0, .var 130 (Reader.cells r.1)),(1, .var 45 [(.int .i64 o1_0),(.str o1_1),(.bs 1 2 4 0 r.2.1.length),(.bs 4 3 5 0 r.2.2.length)]),(4, .row 9 (r.2.1.map sc).flatten),(5, .row 45 (r.2.2.map Node.cells).flatten)]⟩)) (fun e=>Yq (flt e)) r) (.go [] (v8 [12] Tryz.f179 12) [] (.n (.ptr 0 0 0) (.n (.ptr 1 1 0) .z .z) .z) 10 [(0, .var 130 (Reader.cells o0)),(1, .var 45 [(.int .i64 o1_0),(.str o1_1),(.bs 1 2 8 0 o1_2.length),(.bs 4 3 9 0 o1_3.length)]),(8, .row 9 (o1_2.map sc).flatten),(9, .row 45 (o1_3.map Node.cells).flatten)])
theorem ya:PC2 Z4 zb∧PC3 Qy jz∧PC1 Jm yi∧PC2 Q9 js∧PC5 Qz jl∧PC6 Qb ji∧PC5 vq ye∧PC1 Zo kq:=by
 refine zb.mutual_partial_correctness Z4 Qy Jm Q9 Qz Qb vq Zo (fun zb jz yi q7 uy yx a0 a1 r h=> ?_) (fun zb jz q7 uy t1 o0 o2 r h=> ?_) (fun yi js kq yx u7 Zr a0 r h=> ?_) (fun js jl u7 kh o0 o2 r h=> ?_) (fun ji ww a0 a1 a2 a3 a4 r h=> ?_) (fun ye vt t4 o0 o1_0 o1_1 o1_2 o1_3 r h=> ?_) (fun zb ji q7 ww o0 o1_0 o1_1 o1_2 o1_3 r h=> ?_) (fun zb jl q7 kh a0 r h=> ?_)
 ·unfold qa at h
  refine W6 (T:=tt) (N:=33) (rs:= [.cell 4 45]) (fun vs w=>by simp) Tryz.func125 rfl rfl rfl (by kernel_rfl) (by kernel_rfl) (zm rfl rfl j3) (qj zg) (fun r=>(zn rfl j6)) (fun r=>(qj zg)) (fun _=>rfl) (fun _=>rfl) rfl (fun _=>rfl) ?_
  refine kr [1000000] ?_
  refine qe (fun hb=> ?_) (fun hb=> ?_)
  ·replace h:=ql hb h
   refine kr [1000000] ?_
   obtain ⟨x1,hx,h⟩:=bind_some h
   rcases x1 with ee | x1
   ·replace h:some (.error ee)=some r:=h
    cases h
    exact zi (FC.go (yx _ _ hx) [0] [0] rfl rfl rfl rfl rfl rfl)
   refine qb (AC.g9 (yx _ _ hx) [0] [0]) ?_
   refine kr [1000000] ?_
   cases h
   exact yp env rfl rfl (tS [some 0] (sV (lS (lS lN)) q8) (yf (kw (qi (qh (zo rfl) rfl) (qi (qh (z6 rfl) rfl) (qi (qh (y6 (.inl rfl)) rfl) (qi (qh (y6 (.inl rfl)) rfl) kv))))) (by simp)))
  replace h:=qm hb h
  refine kr [1000000] ?_
  obtain ⟨x2,hx,h⟩:=bind_some h
  rcases x2 with ee | x2
  ·replace h:some (.error ee)=some r:=h
   cases h
   exact zi (FC.go (q7 _ _ _ hx) [0] [0] rfl rfl rfl rfl rfl rfl)
  refine qb (AC.g9 (q7 _ _ _ hx) [0] [0]) ?_
  refine kr [1000000] ?_
  exact jr (by kernel_rfl) lQ (uy _ _ _ _ h)
 ·unfold qa at h
  refine yb ?_
  refine kr [1000000] ?_
  obtain ⟨x34,hx,h⟩:=bind_some h
  refine qb (AC.g9 (jv _ _ hx) [0] [0]) ?_
  refine kr [1000000] ?_
  obtain ⟨x35,hx,h⟩:=bind_some h
  refine qn (qnr _ _ hx) ?_
  refine kr [1000000] ?_
  refine qe (fun hb=> ?_) (fun hb=> ?_)
  ·replace h:=ql hb h
   refine kr [1000000] ?_
   obtain ⟨x36,hx,h⟩:=bind_some h
   refine qb (ACalls.ghost (e:=45) (AC.g9 (wb _ _ _ hx) [0,3] [0,3])) ?_
   refine kr [1000000] ?_
   obtain ⟨x37,hx,h⟩:=bind_some h
   refine qb (AC.g9 (Ww _ _ _ _ _ _ hx) [4,3] [5,4]) ?_
   refine kr [1000000] ?_
   obtain ⟨x38,hx,h⟩:=bind_some h
   rcases x38 with ee | x38
   ·replace h:some (.error ee)=some r:=h
    cases h
    exact zi (FC.go (q7 _ _ _ hx) [0] [0] rfl rfl rfl rfl rfl rfl)
   refine qb (AC.g9 (q7 _ _ _ hx) [0] [0]) ?_
   refine kr [1000000] ?_
   obtain ⟨x39,hx,h⟩:=bind_some h
   refine qb (AC.g9 (Ww _ _ _ _ _ _ hx) [4,3] [5,6]) ?_
   refine kr [1000000] ?_
   refine qe (fun hb=> ?_) (fun hb=> ?_)
   ·replace h:=ql hb h
    refine kr [1000000] ?_
    refine K3 2 3 3 qo rfl rfl rfl rfl rfl rfl ?_
    exact qx (by kernel_rfl) rfl lQ (Yp _ _ _ h)
   replace h:=qm hb h
   refine kr [1000000] ?_
   refine qmh 2 3 3 qo rfl rfl rfl rfl rfl ?_
   exact ja (by kernel_rfl) lQ (uy _ _ _ _ h)
  replace h:=qm hb h
  refine kr [1000000] ?_
  exact qx (by kernel_rfl) rfl lQ (Yp _ _ _ h)
 ·unfold qa at h
  refine W6 (T:=tt) (N:=33) (rs:= [.cell 2 45]) (fun vs w=>by simp) Tryz.func154 rfl rfl rfl (by kernel_rfl) (by kernel_rfl) (zm rfl rfl j3) (qj zg) (fun r=>(zn rfl j6)) (fun r=>(qj zg)) (fun _=>rfl) (fun _=>rfl) rfl (fun _=>rfl) ?_
  refine kr [3000023] ?_
  obtain ⟨x3,hx,h⟩:=bind_some h
  refine qb (AC.g9 (zh _ _ _ hx) [0] [0]) ?_
  refine kr [3000023] ?_
  refine q9 (fun hb=> ?_) (fun hb=> ?_)
  ·replace h:=qm hb h
   refine kr [3000023] ?_
   obtain ⟨x4,hx,h⟩:=bind_some h
   refine qb (AC.g9 (zh _ _ _ hx) [0] [0]) ?_
   refine kr [3000023] ?_
   refine qe (fun hb=> ?_) (fun hb=> ?_)
   ·replace h:=ql hb h
    refine kr [3000023] ?_
    obtain ⟨x5,hx,h⟩:=bind_some h
    refine qb (ACalls.ghost (e:=45) (AC.g9 (wb _ _ _ hx) [0,2] [0,2])) ?_
    refine kr [3000023] ?_
    obtain ⟨x6,hx,h⟩:=bind_some h
    rcases x6 with ee | x6
    ·replace h:some (.error ee)=some r:=h
     cases h
     exact zi (FC.go (yx _ _ hx) [0] [0] rfl rfl rfl rfl rfl rfl)
    refine qb (AC.g9 (yx _ _ hx) [0] [0]) ?_
    refine kr [3000023] ?_
    obtain ⟨x7,hx,h⟩:=bind_some h
    refine qb (AC.g9 (Ww _ _ _ _ _ _ hx) [3,2] [4,3]) ?_
    refine kr [3000023] ?_
    cases h
    exact yp env rfl rfl (tS [some 0] (sV (lS (lS lN)) q8) (yf (kw (qi (qh (zo rfl) rfl) (qi (qh (z6 rfl) rfl) (qi (qh (y6 (.inl rfl)) rfl) (qi (qh (jm qo rfl) rfl) kv))))) (by simp)))
   replace h:=qm hb h
   refine kr [3000023] ?_
   obtain ⟨x8,hx,h⟩:=bind_some h
   rcases x8 with ee | x8
   ·replace h:some (.error ee)=some r:=h
    cases h
    exact zi (FC.go (Zr _ _ hx) [0] [0] rfl rfl rfl rfl rfl rfl)
   refine qb (AC.g9 (Zr _ _ hx) [0] [0]) ?_
   refine kr [3000023] ?_
   exact jr (by kernel_rfl) lQ (u7 _ _ _ h)
  replace h:=ql hb h
  refine kr [3000023] ?_
  obtain ⟨x9,hx,h⟩:=bind_some h
  refine qb (ACalls.ghost (e:=45) (AC.g9 (wb _ _ _ hx) [0,2] [0,2])) ?_
  refine kr [3000023] ?_
  obtain ⟨x10,hx,h⟩:=bind_some h
  rcases x10 with ee | x10
  ·replace h:some (.error ee)=some r:=h
   cases h
   exact zi (FC.go (yx _ _ hx) [0] [0] rfl rfl rfl rfl rfl rfl)
  refine qb (AC.g9 (yx _ _ hx) [0] [0]) ?_
  refine kr [3000023] ?_
  obtain ⟨x11,hx,h⟩:=bind_some h
  refine qb (AC.g9 (Ww _ _ _ _ _ _ hx) [3,2] [4,3]) ?_
  refine kr [3000023] ?_
  cases h
  exact yp env rfl rfl (tS [some 0] (sV (lS (lS lN)) q8) (yf (kw (qi (qh (zo rfl) rfl) (qi (qh (z6 rfl) rfl) (qi (qh (y6 (.inl rfl)) rfl) (qi (qh (jm qo rfl) rfl) kv))))) (by simp)))
 ·unfold qa at h
  refine yb ?_
  refine kr [3000023] ?_
  obtain ⟨x40,hx,h⟩:=bind_some h
  refine qb (AC.g9 (zh _ _ _ hx) [0] [0]) ?_
  refine kr [3000023] ?_
  refine qe (fun hb=> ?_) (fun hb=> ?_)
  ·replace h:=ql hb h
   refine kr [3000023] ?_
   refine q2u (l:= [o2]) (C:=Node.cells) env rfl rfl rfl rfl rfl rfl (by simp only [AX,BU,Node.cells_eq];rfl) (by simp only [AX,BU,Node.cells_eq];rfl) rfl ?_
   refine kr [3000023] ?_
   obtain ⟨x41,hx,h⟩:=bind_some h
   rcases x41 with ee | x41
   ·replace h:some (.error ee)=some r:=h
    cases h
    exact zi (FCalls.ghost (e:=9) (FCalls.wkg (FC.go (objs:= [(0, .var 130 (Reader.cells o0)),(1, .var 45 [(.int .i64 0),(.str ⟨#[]⟩),(.sl 0 true []),(.sl 0 true [])]),(2, .var 45 (z7 o2)),(3, .row 45 (([o2]:LN).map Node.cells).flatten),(4, .var 45 [(.int .i64 (21:Int)),(.str ⟨#[]⟩),(.bs 1 5 5 0 ([]:LB).length),(.bs 4 3 3 0 ([o2]:LN).length)]),(5, .row 9 (([]:LB).map sc).flatten)]) (xs:= [(.ptr 0 0 0),(.ptr 4 4 0),(.str (⟨#[46]⟩:BA))]) (qc _ _ _ _ _ _ _ hx) [0,4,5,3] [0,4,5,3] rfl rfl rfl rfl rfl rfl) (qg (qq _) (qg (qq _) (qg (qq _) jb))) (qf (qf (qf (qf (je (qd (qk _) (qd (qk _) (qd (ze rfl) (qd (qk _) jw)))) (zq _))))))))
   refine qb (ACalls.ghost (e:=9) (ACalls.wkg (AC.go (objs:= [(0, .var 130 (Reader.cells o0)),(1, .var 45 [(.int .i64 0),(.str ⟨#[]⟩),(.sl 0 true []),(.sl 0 true [])]),(2, .var 45 (z7 o2)),(3, .row 45 (([o2]:LN).map Node.cells).flatten),(4, .var 45 [(.int .i64 (21:Int)),(.str ⟨#[]⟩),(.bs 1 5 5 0 ([]:LB).length),(.bs 4 3 3 0 ([o2]:LN).length)]),(5, .row 9 (([]:LB).map sc).flatten)]) (xs:= [(.ptr 0 0 0),(.ptr 4 4 0),(.str (⟨#[46]⟩:BA))]) (qc _ _ _ _ _ _ _ hx) [0,4,5,3] [0,4,5,3] rfl rfl rfl rfl rfl rfl rfl rfl rfl) (qg (qq _) (qg (qq _) (qg (qq _) jb))) (qf (qf (qf (qf (je (qd (qk _) (qd (qk _) (qd (ze rfl) (qd (qk _) jw)))) (zq _)))))))) ?_
   refine kr [3000023] ?_
   obtain ⟨x42,hx,h⟩:=bind_some h
   rcases x42 with ee | x42
   ·replace h:some (.error ee)=some r:=h
    cases h
    exact zi (FC.go (zj _ _ _ _ _ _ hx) [0,4,5,3] [0,4,6,3] rfl rfl rfl rfl rfl rfl)
   refine qb (AC.g9 (zj _ _ _ _ _ _ hx) [0,4,5,3] [0,4,6,3]) ?_
   refine kr [3000023] ?_
   obtain ⟨x43,hx,h⟩:=bind_some h
   rcases x43 with ee | x43
   ·replace h:some (.error ee)=some r:=h
    cases h
    exact zi (FC.go (kh _ _ _ _ _ _ hx) [0,4,5,3] [0,4,7,3] rfl rfl rfl rfl rfl rfl)
   refine qb (AC.g9 (kh _ _ _ _ _ _ hx) [0,4,5,3] [0,4,7,3]) ?_
   refine kr [3000023] ?_
   refine qmh 2 2 5 zp rfl rfl rfl rfl rfl ?_
   refine qmh 2 3 3 qo rfl rfl rfl rfl rfl ?_
   exact ja (by kernel_rfl) lQ (u7 _ _ _ h)
  replace h:=qm hb h
  refine kr [3000023] ?_
  cases h
  exact yp env rfl rfl (tS [some 0] (sV (lS (lS lN)) q8) (yf (kw (qi (qh (zo rfl) rfl) (qi (qh (z6 rfl) rfl) (qi (qh (y6 (.inl rfl)) rfl) (qi (qh (y6 (.inl rfl)) rfl) kv))))) (by simp)))
 ·unfold qa at h
  refine W6 (T:=tt) (N:=23) (rs:= []) (fun vs w=>by simp) Tryz.func179 rfl rfl rfl (by kernel_rfl) (by kernel_rfl) (zm rfl rfl (zm rfl rfl (jn zp rfl (jn qo rfl j3)))) (qj (qj (za zp (za qo zg)))) (fun r=>(zn rfl (zn rfl (jt zp (jt qo j6))))) (fun r=>(qj (qj (za zp (za qo zg))))) (fun _=>rfl) (fun _=>rfl) rfl (fun _=>rfl) ?_
  refine kr [12] ?_
  obtain ⟨x33,hx,h⟩:=bind_some h
  rcases x33 with ee | x33
  ·replace h:some (.error ee)=some r:=h
   cases h
   exact zi (FC.go (qc _ _ _ _ _ _ _ hx) [0,1,2,3] [0,1,2,3] rfl rfl rfl rfl rfl rfl)
  refine qb (AC.g9 (qc _ _ _ _ _ _ _ hx) [0,1,2,3] [0,1,2,3]) ?_
  refine kr [12] ?_
  exact jr (by kernel_rfl) lQ (ww _ _ _ _ _ _ _ h)
 ·unfold qa at h
  refine yb ?_
  refine kr [12] ?_
  obtain ⟨x44,hx,h⟩:=bind_some h
  refine qb (AC.g9 (zh _ _ _ hx) [0] [0]) ?_
  refine kr [12] ?_
  refine qe (fun hb=> ?_) (fun hb=> ?_)
  ·replace h:=ql hb h
   refine kr [12] ?_
   refine qe (fun hb=> ?_) (fun hb=> ?_)
   ·replace h:=ql hb h
    refine kr [12] ?_
    obtain ⟨x45,hx,h⟩:=bind_some h
    rcases x45 with ee | x45
    ·replace h:some (.error ee)=some r:=h
     cases h
     exact zi (FC.go (qc _ _ _ _ _ _ _ hx) [0,1,2,3] [0,1,5,6] rfl rfl rfl rfl rfl rfl)
    refine qb (AC.g9 (qc _ _ _ _ _ _ _ hx) [0,1,2,3] [0,1,5,6]) ?_
    refine kr [12] ?_
    exact qx (by kernel_rfl) rfl lQ (vt _ _ _ _ _ _ h)
   replace h:=qm hb h
   refine kr [12] ?_
   exact qx (by kernel_rfl) rfl lQ (vt _ _ _ _ _ _ h)
  replace h:=qm hb h
  refine kr [12] ?_
  obtain ⟨x46,hx,h⟩:=bind_some h
  rcases x46 with ee | x46
  ·replace h:some (.error ee)=some r:=h
   cases h
   exact zi (FC.go (qc _ _ _ _ _ _ _ hx) [0,1,2,3] [0,1,5,6] rfl rfl rfl rfl rfl rfl)
  refine qb (AC.g9 (qc _ _ _ _ _ _ _ hx) [0,1,2,3] [0,1,5,6]) ?_
  refine kr [12] ?_
  cases h
  exact jh env rfl (tS [some 0,some 1,some 2,some 3] (sV (lS (lS lN)) (sV (lS (lS (lS (lS lN)))) (sR zp (sR qo q8)))) (jy jf))
 ·unfold qa at h
  refine kr [12] ?_
  obtain ⟨x47,hx,h⟩:=bind_some h
  rcases x47 with ee | x47
  ·replace h:some (.error ee)=some r:=h
   cases h
   exact zi (FC.go (q7 _ _ _ hx) [0] [0] rfl rfl rfl rfl rfl rfl)
  refine qb (AC.g9 (q7 _ _ _ hx) [0] [0]) ?_
  refine kr [12] ?_
  obtain ⟨x48,hx,h⟩:=bind_some h
  refine qb (AC.g9 (zv _ _ _ _ _ _ hx) [1,2,3] [1,8,9]) ?_
  refine kr [12] ?_
  exact ja (by kernel_rfl) lQ (ww _ _ _ _ _ _ _ h)
 unfold qa at h
 refine W6 (T:=tt) (N:=61) (rs:= [.cell 2 45]) (fun vs w=>by simp) Tryz.func178 rfl rfl rfl (by kernel_rfl) (by kernel_rfl) (zm rfl rfl j3) (qj zg) (fun r=>(zn rfl j6)) (fun r=>(qj zg)) (fun _=>rfl) (fun _=>rfl) rfl (fun _=>rfl) ?_
 refine kr [56] ?_
 obtain ⟨x12,hx,h⟩:=bind_some h
 refine qb (AC.g9 (jv _ _ hx) [0] [0]) ?_
 refine kr [56] ?_
 refine qe (fun hb=> ?_) (fun hb=> ?_)
 ·replace h:=ql hb h
  refine kr [56] ?_
  obtain ⟨x13,hx,h⟩:=bind_some h
  refine qb (ACalls.ghost (e:=45) (AC.g9 (wb _ _ _ hx) [0,3] [0,3])) ?_
  refine kr [56] ?_
  cases h
  exact yp env rfl rfl (tS [some 0] (sV (lS (lS lN)) q8) (yf (kw (qi (qh (zo rfl) rfl) (qi (qh (z6 rfl) rfl) (qi (qh (y6 (.inl rfl)) rfl) (qi (qh (jm qo rfl) rfl) kv))))) (by simp)))
 replace h:=qm hb h
 refine kr [56] ?_
 obtain ⟨x14,hx,h⟩:=bind_some h
 refine qb (AC.g9 (zh _ _ _ hx) [0] [0]) ?_
 refine kr [56] ?_
 refine qe (fun hb=> ?_) (fun hb=> ?_)
 ·replace h:=ql hb h
  refine kr [56] ?_
  obtain ⟨x15,hx,h⟩:=bind_some h
  refine qb (ACalls.ghost (e:=45) (AC.g9 (wb _ _ _ hx) [0,3] [0,3])) ?_
  refine kr [56] ?_
  cases h
  exact yp env rfl rfl (tS [some 0] (sV (lS (lS lN)) q8) (yf (kw (qi (qh (zo rfl) rfl) (qi (qh (z6 rfl) rfl) (qi (qh (y6 (.inl rfl)) rfl) (qi (qh (jm qo rfl) rfl) kv))))) (by simp)))
 replace h:=qm hb h
 refine kr [56] ?_
 obtain ⟨x16,hx,h⟩:=bind_some h
 refine qb (AC.g9 (zh _ _ _ hx) [0] [0]) ?_
 refine kr [56] ?_
 refine qe (fun hb=> ?_) (fun hb=> ?_)
 ·replace h:=ql hb h
  refine kr [56] ?_
  obtain ⟨x17,hx,h⟩:=bind_some h
  refine qb (ACalls.ghost (e:=45) (AC.g9 (wb _ _ _ hx) [0,3] [0,3])) ?_
  refine kr [56] ?_
  cases h
  exact yp env rfl rfl (tS [some 0] (sV (lS (lS lN)) q8) (yf (kw (qi (qh (zo rfl) rfl) (qi (qh (z6 rfl) rfl) (qi (qh (y6 (.inl rfl)) rfl) (qi (qh (jm qo rfl) rfl) kv))))) (by simp)))
 replace h:=qm hb h
 refine kr [56] ?_
 obtain ⟨x18,hx,h⟩:=bind_some h
 refine qb (AC.g9 (zh _ _ _ hx) [0] [0]) ?_
 refine kr [56] ?_
 refine qe (fun hb=> ?_) (fun hb=> ?_)
 ·replace h:=ql hb h
  refine kr [56] ?_
  obtain ⟨x19,hx,h⟩:=bind_some h
  refine qb (ACalls.ghost (e:=45) (AC.g9 (wb _ _ _ hx) [0,3] [0,3])) ?_
  refine kr [56] ?_
  cases h
  exact yp env rfl rfl (tS [some 0] (sV (lS (lS lN)) q8) (yf (kw (qi (qh (zo rfl) rfl) (qi (qh (z6 rfl) rfl) (qi (qh (y6 (.inl rfl)) rfl) (qi (qh (jm qo rfl) rfl) kv))))) (by simp)))
 replace h:=qm hb h
 refine kr [56] ?_
 obtain ⟨x20,hx,h⟩:=bind_some h
 refine qb (AC.g9 (zh _ _ _ hx) [0] [0]) ?_
 refine kr [56] ?_
 refine qe (fun hb=> ?_) (fun hb=> ?_)
 ·replace h:=ql hb h
  refine kr [56] ?_
  obtain ⟨x21,hx,h⟩:=bind_some h
  rcases x21 with ee | x21
  ·replace h:some (.error ee)=some r:=h
   cases h
   exact zi (FCalls.ghost (e:=9) (FCalls.ghost (e:=45) (FCalls.wkg (FC.go (objs:= [(0, .var 130 (Reader.cells a0)),(1, .var 45 [(.int .i64 0),(.str ⟨#[]⟩),(.sl 0 true []),(.sl 0 true [])]),(2, .var 118 (Token.cells x12)),(3, .var 45 [(.int .i64 (22:Int)),(.str ⟨#[]⟩),(.bs 1 4 4 0 ([]:LB).length),(.bs 4 5 5 0 ([]:LN).length)]),(4, .row 9 (([]:LB).map sc).flatten),(5, .row 45 (([]:LN).map Node.cells).flatten)]) (xs:= [(.ptr 0 0 0),(.ptr 3 3 0),(.str (⟨#[110,101,119]⟩:BA))]) (qc _ _ _ _ _ _ _ hx) [0,3,4,5] [0,3,4,5] rfl rfl rfl rfl rfl rfl) (qg (qq _) (qg (qq _) (qg (qq _) jb))) (qf (qf (qf (je (qd (qk _) (qd (qk _) (qd (ze rfl) (qd (ze rfl) jw)))) (zq _))))))))
  refine qb (ACalls.ghost (e:=9) (ACalls.ghost (e:=45) (ACalls.wkg (AC.go (objs:= [(0, .var 130 (Reader.cells a0)),(1, .var 45 [(.int .i64 0),(.str ⟨#[]⟩),(.sl 0 true []),(.sl 0 true [])]),(2, .var 118 (Token.cells x12)),(3, .var 45 [(.int .i64 (22:Int)),(.str ⟨#[]⟩),(.bs 1 4 4 0 ([]:LB).length),(.bs 4 5 5 0 ([]:LN).length)]),(4, .row 9 (([]:LB).map sc).flatten),(5, .row 45 (([]:LN).map Node.cells).flatten)]) (xs:= [(.ptr 0 0 0),(.ptr 3 3 0),(.str (⟨#[110,101,119]⟩:BA))]) (qc _ _ _ _ _ _ _ hx) [0,3,4,5] [0,3,4,5] rfl rfl rfl rfl rfl rfl rfl rfl rfl) (qg (qq _) (qg (qq _) (qg (qq _) jb))) (qf (qf (qf (je (qd (qk _) (qd (qk _) (qd (ze rfl) (qd (ze rfl) jw)))) (zq _)))))))) ?_
  refine kr [56] ?_
  obtain ⟨x22,hx,h⟩:=bind_some h
  rcases x22 with ee | x22
  ·replace h:some (.error ee)=some r:=h
   cases h
   exact zi (FC.go (zj _ _ _ _ _ _ hx) [0,3,4,5] [0,3,6,5] rfl rfl rfl rfl rfl rfl)
  refine qb (AC.g9 (zj _ _ _ _ _ _ hx) [0,3,4,5] [0,3,6,5]) ?_
  refine kr [56] ?_
  obtain ⟨x23,hx,h⟩:=bind_some h
  rcases x23 with ee | x23
  ·replace h:some (.error ee)=some r:=h
   cases h
   exact zi (FC.go (qc _ _ _ _ _ _ _ hx) [0,3,4,5] [0,3,7,5] rfl rfl rfl rfl rfl rfl)
  refine qb (AC.g9 (qc _ _ _ _ _ _ _ hx) [0,3,4,5] [0,3,7,5]) ?_
  refine kr [56] ?_
  obtain ⟨x24,hx,h⟩:=bind_some h
  rcases x24 with ee | x24
  ·replace h:some (.error ee)=some r:=h
   cases h
   exact zi (FC.go (qc _ _ _ _ _ _ _ hx) [0,3,4,5] [0,3,8,5] rfl rfl rfl rfl rfl rfl)
  refine qb (AC.g9 (qc _ _ _ _ _ _ _ hx) [0,3,4,5] [0,3,8,5]) ?_
  refine kr [56] ?_
  cases h
  exact yp env rfl rfl (tS [some 0] (sV (lS (lS lN)) q8) (yf (kw (qi (qh (zo rfl) rfl) (qi (qh (z6 rfl) rfl) (qi (qh (jm zp rfl) rfl) (qi (qh (jm qo rfl) rfl) kv))))) (by simp)))
 replace h:=qm hb h
 refine kr [56] ?_
 obtain ⟨x25,hx,h⟩:=bind_some h
 refine qb (AC.g9 (zh _ _ _ hx) [0] [0]) ?_
 refine kr [56] ?_
 refine qe (fun hb=> ?_) (fun hb=> ?_)
 ·replace h:=ql hb h
  refine kr [56] ?_
  obtain ⟨x26,hx,h⟩:=bind_some h
  rcases x26 with ee | x26
  ·replace h:some (.error ee)=some r:=h
   cases h
   exact zi (FCalls.ghost (e:=9) (FCalls.ghost (e:=45) (FCalls.wkg (FC.go (objs:= [(0, .var 130 (Reader.cells a0)),(1, .var 45 [(.int .i64 0),(.str ⟨#[]⟩),(.sl 0 true []),(.sl 0 true [])]),(2, .var 118 (Token.cells x12)),(3, .var 45 [(.int .i64 (26:Int)),(.str ⟨#[]⟩),(.bs 1 4 4 0 ([]:LB).length),(.bs 4 5 5 0 ([]:LN).length)]),(4, .row 9 (([]:LB).map sc).flatten),(5, .row 45 (([]:LN).map Node.cells).flatten)]) (xs:= [(.ptr 0 0 0),(.ptr 3 3 0),(.str (⟨#[40]⟩:BA))]) (qc _ _ _ _ _ _ _ hx) [0,3,4,5] [0,3,4,5] rfl rfl rfl rfl rfl rfl) (qg (qq _) (qg (qq _) (qg (qq _) jb))) (qf (qf (qf (je (qd (qk _) (qd (qk _) (qd (ze rfl) (qd (ze rfl) jw)))) (zq _))))))))
  refine qb (ACalls.ghost (e:=9) (ACalls.ghost (e:=45) (ACalls.wkg (AC.go (objs:= [(0, .var 130 (Reader.cells a0)),(1, .var 45 [(.int .i64 0),(.str ⟨#[]⟩),(.sl 0 true []),(.sl 0 true [])]),(2, .var 118 (Token.cells x12)),(3, .var 45 [(.int .i64 (26:Int)),(.str ⟨#[]⟩),(.bs 1 4 4 0 ([]:LB).length),(.bs 4 5 5 0 ([]:LN).length)]),(4, .row 9 (([]:LB).map sc).flatten),(5, .row 45 (([]:LN).map Node.cells).flatten)]) (xs:= [(.ptr 0 0 0),(.ptr 3 3 0),(.str (⟨#[40]⟩:BA))]) (qc _ _ _ _ _ _ _ hx) [0,3,4,5] [0,3,4,5] rfl rfl rfl rfl rfl rfl rfl rfl rfl) (qg (qq _) (qg (qq _) (qg (qq _) jb))) (qf (qf (qf (je (qd (qk _) (qd (qk _) (qd (ze rfl) (qd (ze rfl) jw)))) (zq _)))))))) ?_
  refine kr [56] ?_
  obtain ⟨x27,hx,h⟩:=bind_some h
  rcases x27 with ee | x27
  ·replace h:some (.error ee)=some r:=h
   cases h
   exact zi (FC.go (q7 _ _ _ hx) [0] [0] rfl rfl rfl rfl rfl rfl)
  refine qb (AC.g9 (q7 _ _ _ hx) [0] [0]) ?_
  refine kr [56] ?_
  obtain ⟨x28,hx,h⟩:=bind_some h
  refine qb (AC.g9 (zv _ _ _ _ _ _ hx) [3,4,5] [3,6,5]) ?_
  refine kr [56] ?_
  obtain ⟨x29,hx,h⟩:=bind_some h
  rcases x29 with ee | x29
  ·replace h:some (.error ee)=some r:=h
   cases h
   exact zi (FC.go (qc _ _ _ _ _ _ _ hx) [0,3,4,5] [0,3,6,7] rfl rfl rfl rfl rfl rfl)
  refine qb (AC.g9 (qc _ _ _ _ _ _ _ hx) [0,3,4,5] [0,3,6,7]) ?_
  refine kr [56] ?_
  cases h
  exact yp env rfl rfl (tS [some 0] (sV (lS (lS lN)) q8) (yf (kw (qi (qh (zo rfl) rfl) (qi (qh (z6 rfl) rfl) (qi (qh (jm zp rfl) rfl) (qi (qh (jm qo rfl) rfl) kv))))) (by simp)))
 replace h:=qm hb h
 refine kr [56] ?_
 obtain ⟨x30,hx,h⟩:=bind_some h
 rcases x30 with ee | x30
 ·replace h:some (.error ee)=some r:=h
  cases h
  exact zi (FCalls.ghost (e:=9) (FCalls.ghost (e:=45) (FCalls.wkg (FC.go (objs:= [(0, .var 130 (Reader.cells a0)),(1, .var 45 [(.int .i64 0),(.str ⟨#[]⟩),(.sl 0 true []),(.sl 0 true [])]),(2, .var 118 (Token.cells x12)),(3, .var 45 [(.int .i64 (19:Int)),(.str ⟨#[]⟩),(.bs 1 4 4 0 ([]:LB).length),(.bs 4 5 5 0 ([]:LN).length)]),(4, .row 9 (([]:LB).map sc).flatten),(5, .row 45 (([]:LN).map Node.cells).flatten)]) (xs:= [(.ptr 0 0 0),(.ptr 3 3 0)]) (zj _ _ _ _ _ _ hx) [0,3,4,5] [0,3,4,5] rfl rfl rfl rfl rfl rfl) (qg (qq _) (qg (qq _) jb)) (qf (qf (qf (je (qd (qk _) (qd (qk _) (qd (ze rfl) (qd (ze rfl) jw)))) (zq _))))))))
 refine qb (ACalls.ghost (e:=9) (ACalls.ghost (e:=45) (ACalls.wkg (AC.go (objs:= [(0, .var 130 (Reader.cells a0)),(1, .var 45 [(.int .i64 0),(.str ⟨#[]⟩),(.sl 0 true []),(.sl 0 true [])]),(2, .var 118 (Token.cells x12)),(3, .var 45 [(.int .i64 (19:Int)),(.str ⟨#[]⟩),(.bs 1 4 4 0 ([]:LB).length),(.bs 4 5 5 0 ([]:LN).length)]),(4, .row 9 (([]:LB).map sc).flatten),(5, .row 45 (([]:LN).map Node.cells).flatten)]) (xs:= [(.ptr 0 0 0),(.ptr 3 3 0)]) (zj _ _ _ _ _ _ hx) [0,3,4,5] [0,3,4,5] rfl rfl rfl rfl rfl rfl rfl rfl rfl) (qg (qq _) (qg (qq _) jb)) (qf (qf (qf (je (qd (qk _) (qd (qk _) (qd (ze rfl) (qd (ze rfl) jw)))) (zq _)))))))) ?_
 refine kr [56] ?_
 obtain ⟨x31,hx,h⟩:=bind_some h
 refine qb (AC.g9 (zh _ _ _ hx) [0] [0]) ?_
 refine kr [56] ?_
 refine qe (fun hb=> ?_) (fun hb=> ?_)
 ·replace h:=ql hb h
  refine kr [56] ?_
  obtain ⟨x32,hx,h⟩:=bind_some h
  rcases x32 with ee | x32
  ·replace h:some (.error ee)=some r:=h
   cases h
   exact zi (FC.go (kh _ _ _ _ _ _ hx) [0,3,4,5] [0,3,6,5] rfl rfl rfl rfl rfl rfl)
  refine qb (AC.g9 (kh _ _ _ _ _ _ hx) [0,3,4,5] [0,3,6,5]) ?_
  refine kr [56] ?_
  exact qx (by kernel_rfl) rfl lQ (J1 _ _ _ _ _ _ h)
 replace h:=qm hb h
 refine kr [56] ?_
 exact qx (by kernel_rfl) rfl lQ (J1 _ _ _ _ _ _ h)
theorem q7:PC2 Z4 zb:=ya.1
theorem uy:PC3 Qy jz:=ya.2.1
theorem yx:PC1 Jm yi:=ya.2.2.1
theorem u7:PC2 Q9 js:=ya.2.2.2.1
theorem kh:PC5 Qz jl:=ya.2.2.2.2.1
theorem ww:PC6 Qb ji:=ya.2.2.2.2.2.1
theorem vt:PC5 vq ye:=ya.2.2.2.2.2.2.1
theorem Zr:PC1 Zo kq:=ya.2.2.2.2.2.2.2
def ug (a0:Reader) (a1:Int) (a2:BA):Option (Except Int (Node × Reader)):=
 qp a0 a1 (⟨#[]⟩) ([]:LB) ([]:LN) a2 >>=fun x1=>
 match x1 with
 | .error ee=>some (.error ee)
 | .ok x1=>
 jd x1.1 a1 (⟨#[]⟩) x1.2 ([]:LN) >>=fun x2=>
 match x2 with
 | .error ee=>some (.error ee)
 | .ok x2=>
 qp x2.1 a1 x2.2.1 x2.2.2 ([]:LN) (⟨#[61]⟩:BA) >>=fun x3=>
 match x3 with
 | .error ee=>some (.error ee)
 | .ok x3=>
 zb x3.1 (1:Int) >>=fun x4=>
 match x4 with
 | .error ee=>some (.error ee)
 | .ok x4=>
 zu a1 x2.2.1 x3.2 ([]:LN) x4.1 >>=fun x5=>
 qp x4.2 a1 x2.2.1 x3.2 x5 (⟨#[59]⟩:BA) >>=fun x6=>
 match x6 with
 | .error ee=>some (.error ee)
 | .ok x6=>
 some (.ok ((Node.mk a1 x2.2.1 x6.2 x5),x6.1))
@[reducible] def qet (a0:Reader) (a1:Int) (a2:BA) (r:Except Int (Node × Reader)):Prop:=
  exq (fun (r:Node × Reader)=>AC Tryz.prog G 85 [(.ptr 0 0 0),(.int .i64 a1),(.str a2)] 1 [(0, .var 130 (Reader.cells a0))] (.agg (z7 r.1)) 1 [(0, .var 130 (Reader.cells r.2))]) (fun e=>FC Tryz.prog G 85 [(.ptr 0 0 0),(.int .i64 a1),(.str a2)] 1 [(0, .var 130 (Reader.cells a0))] (flt e)) r
theorem Ql:PC3 qet ug:=fun a0 a1 a2 r h=>by
 rw [ug.eq_def] at h
 refine W6 (T:=tt) (N:=23) (rs:= [.cell 6 45]) (fun vs w=>by simp) Tryz.func85 rfl rfl rfl (by kernel_rfl) (by kernel_rfl) (zm rfl rfl j3) (qj zg) (fun r=>(zn rfl j6)) (fun r=>(qj zg)) (fun _=>rfl) (fun _=>rfl) rfl (fun _=>rfl) ?_
 refine kr [] ?_
 obtain ⟨x1,hx,h⟩:=bind_some h
 rcases x1 with ee | x1
 ·replace h:some (.error ee)=some r:=h
  cases h
  exact zi (FCalls.ghost (e:=9) (FCalls.ghost (e:=45) (FCalls.wkg (FC.go (objs:= [(0, .var 130 (Reader.cells a0)),(1, .var 45 [(.int .i64 0),(.str ⟨#[]⟩),(.sl 0 true []),(.sl 0 true [])]),(2, .var 45 [(.int .i64 a1),(.str ⟨#[]⟩),(.bs 1 3 3 0 ([]:LB).length),(.bs 4 4 4 0 ([]:LN).length)]),(3, .row 9 (([]:LB).map sc).flatten),(4, .row 45 (([]:LN).map Node.cells).flatten)]) (xs:= [(.ptr 0 0 0),(.ptr 2 2 0),(.str a2)]) (qc _ _ _ _ _ _ _ hx) [0,2,3,4] [0,2,3,4] rfl rfl rfl rfl rfl rfl) (qg (qq _) (qg (qq _) (qg (qq _) jb))) (qf (qf (je (qd (qk _) (qd (qk _) (qd (ze rfl) (qd (ze rfl) jw)))) (zq _)))))))
 refine qb (ACalls.ghost (e:=9) (ACalls.ghost (e:=45) (ACalls.wkg (AC.go (objs:= [(0, .var 130 (Reader.cells a0)),(1, .var 45 [(.int .i64 0),(.str ⟨#[]⟩),(.sl 0 true []),(.sl 0 true [])]),(2, .var 45 [(.int .i64 a1),(.str ⟨#[]⟩),(.bs 1 3 3 0 ([]:LB).length),(.bs 4 4 4 0 ([]:LN).length)]),(3, .row 9 (([]:LB).map sc).flatten),(4, .row 45 (([]:LN).map Node.cells).flatten)]) (xs:= [(.ptr 0 0 0),(.ptr 2 2 0),(.str a2)]) (qc _ _ _ _ _ _ _ hx) [0,2,3,4] [0,2,3,4] rfl rfl rfl rfl rfl rfl rfl rfl rfl) (qg (qq _) (qg (qq _) (qg (qq _) jb))) (qf (qf (je (qd (qk _) (qd (qk _) (qd (ze rfl) (qd (ze rfl) jw)))) (zq _))))))) ?_
 refine kr [] ?_
 obtain ⟨x2,hx,h⟩:=bind_some h
 rcases x2 with ee | x2
 ·replace h:some (.error ee)=some r:=h
  cases h
  exact zi (FC.go (zj _ _ _ _ _ _ hx) [0,2,3,4] [0,2,5,4] rfl rfl rfl rfl rfl rfl)
 refine qb (AC.g9 (zj _ _ _ _ _ _ hx) [0,2,3,4] [0,2,5,4]) ?_
 refine kr [] ?_
 obtain ⟨x3,hx,h⟩:=bind_some h
 rcases x3 with ee | x3
 ·replace h:some (.error ee)=some r:=h
  cases h
  exact zi (FC.go (qc _ _ _ _ _ _ _ hx) [0,2,3,4] [0,2,6,4] rfl rfl rfl rfl rfl rfl)
 refine qb (AC.g9 (qc _ _ _ _ _ _ _ hx) [0,2,3,4] [0,2,6,4]) ?_
 refine kr [] ?_
 obtain ⟨x4,hx,h⟩:=bind_some h
 rcases x4 with ee | x4
 ·replace h:some (.error ee)=some r:=h
  cases h
  exact zi (FC.go (q7 _ _ _ hx) [0] [0] rfl rfl rfl rfl rfl rfl)
 refine qb (AC.g9 (q7 _ _ _ hx) [0] [0]) ?_
 refine kr [] ?_
 obtain ⟨x5,hx,h⟩:=bind_some h
 refine qb (AC.g9 (zv _ _ _ _ _ _ hx) [2,3,4] [2,7,4]) ?_
 refine kr [] ?_
 obtain ⟨x6,hx,h⟩:=bind_some h
 rcases x6 with ee | x6
 ·replace h:some (.error ee)=some r:=h
  cases h
  exact zi (FC.go (qc _ _ _ _ _ _ _ hx) [0,2,3,4] [0,2,7,8] rfl rfl rfl rfl rfl rfl)
 refine qb (AC.g9 (qc _ _ _ _ _ _ _ hx) [0,2,3,4] [0,2,7,8]) ?_
 refine kr [] ?_
 cases h
 exact yp env rfl rfl (tS [some 0] (sV (lS (lS lN)) q8) (yf (kw (qi (qh (zo rfl) rfl) (qi (qh (z6 rfl) rfl) (qi (qh (jm zp rfl) rfl) (qi (qh (jm qo rfl) rfl) kv))))) (by simp)))
def yy (o0:Reader) (o2_0:Int) (o2_1:BA) (o2_2:LB) (o2_3:LN) (o5:Node):Option (Except Int (Node × Reader)):=
 zu o2_0 o2_1 o2_2 o2_3 o5 >>=fun x37=>
 some (.ok ((Node.mk o2_0 o2_1 o2_2 x37),o0))
@[reducible] def qa1 (o0:Reader) (o2_0:Int) (o2_1:BA) (o2_2:LB) (o2_3:LN) (o5:Node) (r:Except Int (Node × Reader)):Prop:=
  Ok Tryz.prog G tt 106 1 (exq (fun (r:Node × Reader)=>Ret Tryz.prog [.cell 2 45] (fun y H=>vj Tryz.prog G 1 H y (.agg (z7 r.1)) ⟨1, [(0, .var 130 (Reader.cells r.2))]⟩)) (fun e=>Yq (flt e)) r) (.go [] (v8 [41,87] Tryz.f153 41) [] (.n .undef (.n .undef .z (.n (.ptr 5 8 0) .z .z)) (.n (.ptr 1 1 0) (.n (.ptr 2 2 0) .z .z) .z)) 13 [(0, .var 130 (Reader.cells o0)),(1, .var 45 [(.int .i64 0),(.str ⟨#[]⟩),(.sl 0 true []),(.sl 0 true [])]),(2, .var 45 [(.int .i64 o2_0),(.str o2_1),(.bs 1 3 5 0 o2_2.length),(.bs 4 4 7 0 o2_3.length)]),(5, .row 9 (o2_2.map sc).flatten),(7, .row 45 (o2_3.map Node.cells).flatten),(8, .var 45 (z7 o5))])
theorem Jh:PC6 qa1 yy:=fun o0 o2_0 o2_1 o2_2 o2_3 o5 r h=>by
 rw [yy.eq_def] at h
 refine kr [41,87] ?_
 obtain ⟨x37,hx,h⟩:=bind_some h
 refine qb (AC.g9 (zv _ _ _ _ _ _ hx) [2,3,4] [2,5,7]) ?_
 refine kr [41,87] ?_
 cases h
 exact yp env rfl rfl (tS [some 0] (sV (lS (lS lN)) q8) (yf (kw (qi (qh (zo rfl) rfl) (qi (qh (z6 rfl) rfl) (qi (qh (jm zp rfl) rfl) (qi (qh (jm qo rfl) rfl) kv))))) (by simp)))
def yd (o0:Reader):Option (Except Int (Node × Reader)):=
 zb o0 (1:Int) >>=fun x38=>
 match x38 with
 | .error ee=>some (.error ee)
 | .ok x38=>
 zu (16:Int) (⟨#[]⟩) ([]:LB) ([]:LN) x38.1 >>=fun x39=>
 qp x38.2 (16:Int) (⟨#[]⟩) ([]:LB) x39 (⟨#[59]⟩:BA) >>=fun x40=>
 match x40 with
 | .error ee=>some (.error ee)
 | .ok x40=>
 some (.ok ((Node.mk (16:Int) (⟨#[]⟩) x40.2 x39),x40.1))
@[reducible] def qa0 (o0:Reader) (r:Except Int (Node × Reader)):Prop:=
  Ok Tryz.prog G tt 106 1 (exq (fun (r:Node × Reader)=>Ret Tryz.prog [.cell 2 45] (fun y H=>vj Tryz.prog G 1 H y (.agg (z7 r.1)) ⟨1, [(0, .var 130 (Reader.cells r.2))]⟩)) (fun e=>Yq (flt e)) r) (.go [] (v8 [41,87] Tryz.f153 87) [] (.n (.ptr 0 0 0) .z (.n (.ptr 1 1 0) .z .z)) 3 [(0, .var 130 (Reader.cells o0)),(1, .var 45 [(.int .i64 0),(.str ⟨#[]⟩),(.sl 0 true []),(.sl 0 true [])])])
theorem vr:PC1 qa0 yd:=fun o0 r h=>by
 rw [yd.eq_def] at h
 refine kr [41,87] ?_
 obtain ⟨x38,hx,h⟩:=bind_some h
 rcases x38 with ee | x38
 ·replace h:some (.error ee)=some r:=h
  cases h
  exact zi (FC.go (q7 _ _ _ hx) [0] [0] rfl rfl rfl rfl rfl rfl)
 refine qb (AC.g9 (q7 _ _ _ hx) [0] [0]) ?_
 refine kr [41,87] ?_
 obtain ⟨x39,hx,h⟩:=bind_some h
 refine qb (ACalls.ghost (e:=9) (ACalls.ghost (e:=45) (ACalls.wkg (AC.go (objs:= [(0, .var 130 (Reader.cells x38.2)),(1, .var 45 [(.int .i64 0),(.str ⟨#[]⟩),(.sl 0 true []),(.sl 0 true [])]),(3, .var 45 [(.int .i64 (16:Int)),(.str ⟨#[]⟩),(.bs 1 3 4 0 ([]:LB).length),(.bs 4 4 5 0 ([]:LN).length)]),(4, .row 9 (([]:LB).map sc).flatten),(5, .row 45 (([]:LN).map Node.cells).flatten)]) (xs:= [(.ptr 2 3 0),(.agg (z7 x38.1))]) (zv _ _ _ _ _ _ hx) [2,3,4] [3,4,5] rfl rfl rfl rfl rfl rfl rfl rfl rfl) (qg (qq _) (qg (qq _) jb)) (qf (qf (je (qd (qk _) (qd (qk _) (qd (ze rfl) (qd (ze rfl) jw)))) (zq _))))))) ?_
 refine kr [41,87] ?_
 obtain ⟨x40,hx,h⟩:=bind_some h
 rcases x40 with ee | x40
 ·replace h:some (.error ee)=some r:=h
  cases h
  exact zi (FC.go (qc _ _ _ _ _ _ _ hx) [0,2,3,4] [0,3,4,6] rfl rfl rfl rfl rfl rfl)
 refine qb (AC.g9 (qc _ _ _ _ _ _ _ hx) [0,2,3,4] [0,3,4,6]) ?_
 refine kr [41,87] ?_
 cases h
 exact yp env rfl rfl (tS [some 0] (sV (lS (lS lN)) q8) (yf (kw (qi (qh (zo rfl) rfl) (qi (qh (z6 rfl) rfl) (qi (qh (jm zp rfl) rfl) (qi (qh (jm qo rfl) rfl) kv))))) (by simp)))
mutual
def jg (a0:Reader):Option (Except Int (Node × Reader)):=
 qp (qa a0) (6:Int) (⟨#[]⟩) ([]:LB) ([]:LN) (⟨#[123]⟩:BA) >>=fun x1=>
 match x1 with
 | .error ee=>some (.error ee)
 | .ok x1=>
 j5 x1.1 (6:Int) (⟨#[]⟩) x1.2 ([]:LN)
 partial_fixpoint
def ym (a0:Reader):Option (Except Int (Node × Reader)):=
 zd (qa a0) (⟨#[108,101,116]⟩:BA) >>=fun x2=>
 if x2=true then
  ug (qa a0) (10:Int) (⟨#[108,101,116]⟩:BA) >>=fun x3=>
  match x3 with
  | .error ee=>some (.error ee)
  | .ok x3=>
  some (.ok (x3.1,x3.2))
 else
  zd (qa a0) (⟨#[114,101,116,117,114,110]⟩:BA) >>=fun x4=>
  if x4=true then
   qp (qa a0) (12:Int) (⟨#[]⟩) ([]:LB) ([]:LN) (⟨#[114,101,116,117,114,110]⟩:BA) >>=fun x5=>
   match x5 with
   | .error ee=>some (.error ee)
   | .ok x5=>
   zb x5.1 (1:Int) >>=fun x6=>
   match x6 with
   | .error ee=>some (.error ee)
   | .ok x6=>
   zu (12:Int) (⟨#[]⟩) x5.2 ([]:LN) x6.1 >>=fun x7=>
   qp x6.2 (12:Int) (⟨#[]⟩) x5.2 (qa x7) (⟨#[59]⟩:BA) >>=fun x8=>
   match x8 with
   | .error ee=>some (.error ee)
   | .ok x8=>
   some (.ok ((Node.mk (12:Int) (⟨#[]⟩) x8.2 x7),x8.1))
  else
   zd (qa a0) (⟨#[105,102]⟩:BA) >>=fun x9=>
   if x9=true then
    qp (qa a0) (13:Int) (⟨#[]⟩) ([]:LB) ([]:LN) (⟨#[105,102]⟩:BA) >>=fun x10=>
    match x10 with
    | .error ee=>some (.error ee)
    | .ok x10=>
    zb x10.1 (1:Int) >>=fun x11=>
    match x11 with
    | .error ee=>some (.error ee)
    | .ok x11=>
    zu (13:Int) (⟨#[]⟩) x10.2 ([]:LN) x11.1 >>=fun x12=>
    jg x11.2 >>=fun x13=>
    match x13 with
    | .error ee=>some (.error ee)
    | .ok x13=>
    zu (13:Int) (⟨#[]⟩) x10.2 (qa x12) x13.1 >>=fun x14=>
    zd x13.2 (⟨#[101,108,115,101]⟩:BA) >>=fun x15=>
    if x15=true then
     qp x13.2 (14:Int) (⟨#[]⟩) ([]:LB) ([]:LN) (⟨#[101,108,115,101]⟩:BA) >>=fun x16=>
     match x16 with
     | .error ee=>some (.error ee)
     | .ok x16=>
     jg x16.1 >>=fun x17=>
     match x17 with
     | .error ee=>some (.error ee)
     | .ok x17=>
     zu (14:Int) (⟨#[]⟩) x16.2 ([]:LN) x17.1 >>=fun x18=>
     yy x17.2 (13:Int) (⟨#[]⟩) x10.2 (qa x14) (Node.mk (14:Int) (⟨#[]⟩) x16.2 x18)
    else
     yy x13.2 (13:Int) (⟨#[]⟩) x10.2 (qa x14) (Node.mk (14:Int) (⟨#[]⟩) ([]:LB) ([]:LN))
   else
    zd (qa a0) (⟨#[119,104,105,108,101]⟩:BA) >>=fun x19=>
    if x19=true then
     qp (qa a0) (15:Int) (⟨#[]⟩) ([]:LB) ([]:LN) (⟨#[119,104,105,108,101]⟩:BA) >>=fun x20=>
     match x20 with
     | .error ee=>some (.error ee)
     | .ok x20=>
     zb x20.1 (1:Int) >>=fun x21=>
     match x21 with
     | .error ee=>some (.error ee)
     | .ok x21=>
     zu (15:Int) (⟨#[]⟩) x20.2 ([]:LN) x21.1 >>=fun x22=>
     jg x21.2 >>=fun x23=>
     match x23 with
     | .error ee=>some (.error ee)
     | .ok x23=>
     zu (15:Int) (⟨#[]⟩) x20.2 (qa x22) x23.1 >>=fun x24=>
     some (.ok ((Node.mk (15:Int) (⟨#[]⟩) x20.2 x24),x23.2))
    else
     zy (qa a0) >>=fun x25=>
     if (decide (x25.Kind=(1:Int)))=true then
      qa9 x25.Text >>=fun x26=>
      if x26=true then
       ix a0.l_ (IntKind.i64.wrap (a0.at_+(1:Int))) >>=fun x27=>
       if (decide (x27.Text=(⟨#[61]⟩:BA)))=true then
        jd (qa a0) (11:Int) (⟨#[]⟩) ([]:LB) ([]:LN) >>=fun x28=>
        match x28 with
        | .error ee=>some (.error ee)
        | .ok x28=>
        qp x28.1 (11:Int) x28.2.1 x28.2.2 ([]:LN) (⟨#[61]⟩:BA) >>=fun x29=>
        match x29 with
        | .error ee=>some (.error ee)
        | .ok x29=>
        zb x29.1 (1:Int) >>=fun x30=>
        match x30 with
        | .error ee=>some (.error ee)
        | .ok x30=>
        zu (11:Int) x28.2.1 x29.2 ([]:LN) x30.1 >>=fun x31=>
        qp x30.2 (11:Int) x28.2.1 x29.2 (qa x31) (⟨#[59]⟩:BA) >>=fun x32=>
        match x32 with
        | .error ee=>some (.error ee)
        | .ok x32=>
        some (.ok ((Node.mk (11:Int) x28.2.1 x32.2 x31),x32.1))
       else
        yd (qa a0)
      else
       yd (qa a0)
     else
      yd (qa a0)
 partial_fixpoint
def j5 (o0:Reader) (o2_0:Int) (o2_1:BA) (o2_2:LB) (o2_3:LN):Option (Except Int (Node × Reader)):=
 zd (qa o0) (⟨#[125]⟩:BA) >>=fun x33=>
 if (!x33)=true then
  ym (qa o0) >>=fun x34=>
  match x34 with
  | .error ee=>some (.error ee)
  | .ok x34=>
  zu (qa o2_0) (qa o2_1) (qa o2_2) (qa o2_3) x34.1 >>=fun x35=>
  j5 x34.2 (qa o2_0) (qa o2_1) (qa o2_2) (qa x35)
 else
  qp (qa o0) (qa o2_0) (qa o2_1) (qa o2_2) (qa o2_3) (⟨#[125]⟩:BA) >>=fun x36=>
  match x36 with
  | .error ee=>some (.error ee)
  | .ok x36=>
  some (.ok ((Node.mk o2_0 o2_1 x36.2 o2_3),x36.1))
 partial_fixpoint
end
@[reducible] def Jn (a0:Reader) (r:Except Int (Node × Reader)):Prop:=
  exq (fun (r:Node × Reader)=>AC Tryz.prog G 124 [(.ptr 0 0 0)] 1 [(0, .var 130 (Reader.cells a0))] (.agg (z7 r.1)) 1 [(0, .var 130 (Reader.cells r.2))]) (fun e=>FC Tryz.prog G 124 [(.ptr 0 0 0)] 1 [(0, .var 130 (Reader.cells a0))] (flt e)) r
@[reducible] def Qx (a0:Reader) (r:Except Int (Node × Reader)):Prop:=
  exq (fun (r:Node × Reader)=>AC Tryz.prog G 153 [(.ptr 0 0 0)] 1 [(0, .var 130 (Reader.cells a0))] (.agg (z7 r.1)) 1 [(0, .var 130 (Reader.cells r.2))]) (fun e=>FC Tryz.prog G 153 [(.ptr 0 0 0)] 1 [(0, .var 130 (Reader.cells a0))] (flt e)) r
@[reducible] def Zd (o0:Reader) (o2_0:Int) (o2_1:BA) (o2_2:LB) (o2_3:LN) (r:Except Int (Node × Reader)):Prop:=
  Ok Tryz.prog G tt 16 1 (exq (fun (r:Node × Reader)=>Ret Tryz.prog [.cell 2 45] (fun y H=>vj Tryz.prog G 1 H y (.agg (z7 r.1)) ⟨1, [(0, .var 130 (Reader.cells r.2))]⟩)) (fun e=>Yq (flt e)) r) (.again (ju [] Tryz.f124 0).1 (ju [] Tryz.f124 0).2 (.n (.ptr 0 0 0) (.n .undef (.n (.ptr 2 2 0) .z .z) .z) (.n (.ptr 1 1 0) .z .z)) 6 [(0, .var 130 (Reader.cells o0)),(1, .var 45 [(.int .i64 0),(.str ⟨#[]⟩),(.sl 0 true []),(.sl 0 true [])]),(2, .var 45 [(.int .i64 o2_0),(.str o2_1),(.bs 1 3 5 0 o2_2.length),(.bs 4 4 4 0 o2_3.length)]),(5, .row 9 (o2_2.map sc).flatten),(4, .row 45 (o2_3.map Node.cells).flatten)])
theorem Zv:PC1 Jn jg∧PC5 Zd j5∧PC1 Qx ym:=by
 refine jg.mutual_partial_correctness Jn Zd Qx (fun j5 ve a0 r h=> ?_) (fun j5 ym ve Q0 o0 o2_0 o2_1 o2_2 o2_3 r h=> ?_) (fun jg yh a0 r h=> ?_)
 ·unfold qa at h
  refine W6 (T:=tt) (N:=16) (rs:= [.cell 2 45]) (fun vs w=>by simp) Tryz.func124 rfl rfl rfl (by kernel_rfl) (by kernel_rfl) (zm rfl rfl j3) (qj zg) (fun r=>(zn rfl j6)) (fun r=>(qj zg)) (fun _=>rfl) (fun _=>rfl) rfl (fun _=>rfl) ?_
  refine kr [] ?_
  obtain ⟨x1,hx,h⟩:=bind_some h
  rcases x1 with ee | x1
  ·replace h:some (.error ee)=some r:=h
   cases h
   exact zi (FCalls.ghost (e:=9) (FCalls.ghost (e:=45) (FCalls.wkg (FC.go (objs:= [(0, .var 130 (Reader.cells a0)),(1, .var 45 [(.int .i64 0),(.str ⟨#[]⟩),(.sl 0 true []),(.sl 0 true [])]),(2, .var 45 [(.int .i64 (6:Int)),(.str ⟨#[]⟩),(.bs 1 3 3 0 ([]:LB).length),(.bs 4 4 4 0 ([]:LN).length)]),(3, .row 9 (([]:LB).map sc).flatten),(4, .row 45 (([]:LN).map Node.cells).flatten)]) (xs:= [(.ptr 0 0 0),(.ptr 2 2 0),(.str (⟨#[123]⟩:BA))]) (qc _ _ _ _ _ _ _ hx) [0,2,3,4] [0,2,3,4] rfl rfl rfl rfl rfl rfl) (qg (qq _) (qg (qq _) (qg (qq _) jb))) (qf (qf (je (qd (qk _) (qd (qk _) (qd (ze rfl) (qd (ze rfl) jw)))) (zq _)))))))
  refine qb (ACalls.ghost (e:=9) (ACalls.ghost (e:=45) (ACalls.wkg (AC.go (objs:= [(0, .var 130 (Reader.cells a0)),(1, .var 45 [(.int .i64 0),(.str ⟨#[]⟩),(.sl 0 true []),(.sl 0 true [])]),(2, .var 45 [(.int .i64 (6:Int)),(.str ⟨#[]⟩),(.bs 1 3 3 0 ([]:LB).length),(.bs 4 4 4 0 ([]:LN).length)]),(3, .row 9 (([]:LB).map sc).flatten),(4, .row 45 (([]:LN).map Node.cells).flatten)]) (xs:= [(.ptr 0 0 0),(.ptr 2 2 0),(.str (⟨#[123]⟩:BA))]) (qc _ _ _ _ _ _ _ hx) [0,2,3,4] [0,2,3,4] rfl rfl rfl rfl rfl rfl rfl rfl rfl) (qg (qq _) (qg (qq _) (qg (qq _) jb))) (qf (qf (je (qd (qk _) (qd (qk _) (qd (ze rfl) (qd (ze rfl) jw)))) (zq _))))))) ?_
  refine kr [] ?_
  exact jr (by kernel_rfl) lQ (ve _ _ _ _ _ _ h)
 ·unfold qa at h
  refine yb ?_
  refine kr [] ?_
  obtain ⟨x33,hx,h⟩:=bind_some h
  refine qb (AC.g9 (zh _ _ _ hx) [0] [0]) ?_
  refine kr [] ?_
  refine qe (fun hb=> ?_) (fun hb=> ?_)
  ·replace h:=ql hb h
   refine kr [] ?_
   obtain ⟨x34,hx,h⟩:=bind_some h
   rcases x34 with ee | x34
   ·replace h:some (.error ee)=some r:=h
    cases h
    exact zi (FC.go (Q0 _ _ hx) [0] [0] rfl rfl rfl rfl rfl rfl)
   refine qb (AC.g9 (Q0 _ _ hx) [0] [0]) ?_
   refine kr [] ?_
   obtain ⟨x35,hx,h⟩:=bind_some h
   refine qb (AC.g9 (zv _ _ _ _ _ _ hx) [2,3,4] [2,5,4]) ?_
   refine kr [] ?_
   exact ja (by kernel_rfl) lQ (ve _ _ _ _ _ _ h)
  replace h:=qm hb h
  refine kr [] ?_
  obtain ⟨x36,hx,h⟩:=bind_some h
  rcases x36 with ee | x36
  ·replace h:some (.error ee)=some r:=h
   cases h
   exact zi (FC.go (qc _ _ _ _ _ _ _ hx) [0,2,3,4] [0,2,5,4] rfl rfl rfl rfl rfl rfl)
  refine qb (AC.g9 (qc _ _ _ _ _ _ _ hx) [0,2,3,4] [0,2,5,4]) ?_
  refine kr [] ?_
  cases h
  exact yp env rfl rfl (tS [some 0] (sV (lS (lS lN)) q8) (yf (kw (qi (qh (zo rfl) rfl) (qi (qh (z6 rfl) rfl) (qi (qh (jm zp rfl) rfl) (qi (qh (jm qo rfl) rfl) kv))))) (by simp)))
 unfold qa at h
 refine W6 (T:=tt) (N:=106) (rs:= [.cell 2 45]) (fun vs w=>by simp) Tryz.func153 rfl rfl rfl (by kernel_rfl) (by kernel_rfl) (zm rfl rfl j3) (qj zg) (fun r=>(zn rfl j6)) (fun r=>(qj zg)) (fun _=>rfl) (fun _=>rfl) rfl (fun _=>rfl) ?_
 refine kr [41,87] ?_
 obtain ⟨x2,hx,h⟩:=bind_some h
 refine qb (AC.g9 (zh _ _ _ hx) [0] [0]) ?_
 refine kr [41,87] ?_
 refine qe (fun hb=> ?_) (fun hb=> ?_)
 ·replace h:=ql hb h
  refine kr [41,87] ?_
  obtain ⟨x3,hx,h⟩:=bind_some h
  rcases x3 with ee | x3
  ·replace h:some (.error ee)=some r:=h
   cases h
   exact zi (FC.go (Ql _ _ _ _ hx) [0] [0] rfl rfl rfl rfl rfl rfl)
  refine qb (AC.g9 (Ql _ _ _ _ hx) [0] [0]) ?_
  refine kr [41,87] ?_
  cases h
  exact yp env rfl rfl (tS [some 0] (sV (lS (lS lN)) q8) (yf (kw (qi (qh (zo rfl) rfl) (qi (qh (z6 rfl) rfl) (qi (qh (y6 (.inl rfl)) rfl) (qi (qh (y6 (.inl rfl)) rfl) kv))))) (by simp)))
 replace h:=qm hb h
 refine kr [41,87] ?_
 obtain ⟨x4,hx,h⟩:=bind_some h
 refine qb (AC.g9 (zh _ _ _ hx) [0] [0]) ?_
 refine kr [41,87] ?_
 refine qe (fun hb=> ?_) (fun hb=> ?_)
 ·replace h:=ql hb h
  refine kr [41,87] ?_
  obtain ⟨x5,hx,h⟩:=bind_some h
  rcases x5 with ee | x5
  ·replace h:some (.error ee)=some r:=h
   cases h
   exact zi (FCalls.ghost (e:=9) (FCalls.ghost (e:=45) (FCalls.wkg (FC.go (objs:= [(0, .var 130 (Reader.cells a0)),(1, .var 45 [(.int .i64 0),(.str ⟨#[]⟩),(.sl 0 true []),(.sl 0 true [])]),(2, .var 45 [(.int .i64 (12:Int)),(.str ⟨#[]⟩),(.bs 1 3 3 0 ([]:LB).length),(.bs 4 4 4 0 ([]:LN).length)]),(3, .row 9 (([]:LB).map sc).flatten),(4, .row 45 (([]:LN).map Node.cells).flatten)]) (xs:= [(.ptr 0 0 0),(.ptr 2 2 0),(.str (⟨#[114,101,116,117,114,110]⟩:BA))]) (qc _ _ _ _ _ _ _ hx) [0,2,3,4] [0,2,3,4] rfl rfl rfl rfl rfl rfl) (qg (qq _) (qg (qq _) (qg (qq _) jb))) (qf (qf (je (qd (qk _) (qd (qk _) (qd (ze rfl) (qd (ze rfl) jw)))) (zq _)))))))
  refine qb (ACalls.ghost (e:=9) (ACalls.ghost (e:=45) (ACalls.wkg (AC.go (objs:= [(0, .var 130 (Reader.cells a0)),(1, .var 45 [(.int .i64 0),(.str ⟨#[]⟩),(.sl 0 true []),(.sl 0 true [])]),(2, .var 45 [(.int .i64 (12:Int)),(.str ⟨#[]⟩),(.bs 1 3 3 0 ([]:LB).length),(.bs 4 4 4 0 ([]:LN).length)]),(3, .row 9 (([]:LB).map sc).flatten),(4, .row 45 (([]:LN).map Node.cells).flatten)]) (xs:= [(.ptr 0 0 0),(.ptr 2 2 0),(.str (⟨#[114,101,116,117,114,110]⟩:BA))]) (qc _ _ _ _ _ _ _ hx) [0,2,3,4] [0,2,3,4] rfl rfl rfl rfl rfl rfl rfl rfl rfl) (qg (qq _) (qg (qq _) (qg (qq _) jb))) (qf (qf (je (qd (qk _) (qd (qk _) (qd (ze rfl) (qd (ze rfl) jw)))) (zq _))))))) ?_
  refine kr [41,87] ?_
  obtain ⟨x6,hx,h⟩:=bind_some h
  rcases x6 with ee | x6
  ·replace h:some (.error ee)=some r:=h
   cases h
   exact zi (FC.go (q7 _ _ _ hx) [0] [0] rfl rfl rfl rfl rfl rfl)
  refine qb (AC.g9 (q7 _ _ _ hx) [0] [0]) ?_
  refine kr [41,87] ?_
  obtain ⟨x7,hx,h⟩:=bind_some h
  refine qb (AC.g9 (zv _ _ _ _ _ _ hx) [2,3,4] [2,5,4]) ?_
  refine kr [41,87] ?_
  obtain ⟨x8,hx,h⟩:=bind_some h
  rcases x8 with ee | x8
  ·replace h:some (.error ee)=some r:=h
   cases h
   exact zi (FC.go (qc _ _ _ _ _ _ _ hx) [0,2,3,4] [0,2,5,6] rfl rfl rfl rfl rfl rfl)
  refine qb (AC.g9 (qc _ _ _ _ _ _ _ hx) [0,2,3,4] [0,2,5,6]) ?_
  refine kr [41,87] ?_
  cases h
  exact yp env rfl rfl (tS [some 0] (sV (lS (lS lN)) q8) (yf (kw (qi (qh (zo rfl) rfl) (qi (qh (z6 rfl) rfl) (qi (qh (jm zp rfl) rfl) (qi (qh (jm qo rfl) rfl) kv))))) (by simp)))
 replace h:=qm hb h
 refine kr [41,87] ?_
 obtain ⟨x9,hx,h⟩:=bind_some h
 refine qb (AC.g9 (zh _ _ _ hx) [0] [0]) ?_
 refine kr [41,87] ?_
 refine qe (fun hb=> ?_) (fun hb=> ?_)
 ·replace h:=ql hb h
  refine kr [41,87] ?_
  obtain ⟨x10,hx,h⟩:=bind_some h
  rcases x10 with ee | x10
  ·replace h:some (.error ee)=some r:=h
   cases h
   exact zi (FCalls.ghost (e:=9) (FCalls.ghost (e:=45) (FCalls.wkg (FC.go (objs:= [(0, .var 130 (Reader.cells a0)),(1, .var 45 [(.int .i64 0),(.str ⟨#[]⟩),(.sl 0 true []),(.sl 0 true [])]),(2, .var 45 [(.int .i64 (13:Int)),(.str ⟨#[]⟩),(.bs 1 3 3 0 ([]:LB).length),(.bs 4 4 4 0 ([]:LN).length)]),(3, .row 9 (([]:LB).map sc).flatten),(4, .row 45 (([]:LN).map Node.cells).flatten)]) (xs:= [(.ptr 0 0 0),(.ptr 2 2 0),(.str (⟨#[105,102]⟩:BA))]) (qc _ _ _ _ _ _ _ hx) [0,2,3,4] [0,2,3,4] rfl rfl rfl rfl rfl rfl) (qg (qq _) (qg (qq _) (qg (qq _) jb))) (qf (qf (je (qd (qk _) (qd (qk _) (qd (ze rfl) (qd (ze rfl) jw)))) (zq _)))))))
  refine qb (ACalls.ghost (e:=9) (ACalls.ghost (e:=45) (ACalls.wkg (AC.go (objs:= [(0, .var 130 (Reader.cells a0)),(1, .var 45 [(.int .i64 0),(.str ⟨#[]⟩),(.sl 0 true []),(.sl 0 true [])]),(2, .var 45 [(.int .i64 (13:Int)),(.str ⟨#[]⟩),(.bs 1 3 3 0 ([]:LB).length),(.bs 4 4 4 0 ([]:LN).length)]),(3, .row 9 (([]:LB).map sc).flatten),(4, .row 45 (([]:LN).map Node.cells).flatten)]) (xs:= [(.ptr 0 0 0),(.ptr 2 2 0),(.str (⟨#[105,102]⟩:BA))]) (qc _ _ _ _ _ _ _ hx) [0,2,3,4] [0,2,3,4] rfl rfl rfl rfl rfl rfl rfl rfl rfl) (qg (qq _) (qg (qq _) (qg (qq _) jb))) (qf (qf (je (qd (qk _) (qd (qk _) (qd (ze rfl) (qd (ze rfl) jw)))) (zq _))))))) ?_
  refine kr [41,87] ?_
  obtain ⟨x11,hx,h⟩:=bind_some h
  rcases x11 with ee | x11
  ·replace h:some (.error ee)=some r:=h
   cases h
   exact zi (FC.go (q7 _ _ _ hx) [0] [0] rfl rfl rfl rfl rfl rfl)
  refine qb (AC.g9 (q7 _ _ _ hx) [0] [0]) ?_
  refine kr [41,87] ?_
  obtain ⟨x12,hx,h⟩:=bind_some h
  refine qb (AC.g9 (zv _ _ _ _ _ _ hx) [2,3,4] [2,5,4]) ?_
  refine kr [41,87] ?_
  obtain ⟨x13,hx,h⟩:=bind_some h
  rcases x13 with ee | x13
  ·replace h:some (.error ee)=some r:=h
   cases h
   exact zi (FC.go (yh _ _ hx) [0] [0] rfl rfl rfl rfl rfl rfl)
  refine qb (AC.g9 (yh _ _ hx) [0] [0]) ?_
  refine kr [41,87] ?_
  obtain ⟨x14,hx,h⟩:=bind_some h
  refine qb (AC.g9 (zv _ _ _ _ _ _ hx) [2,3,4] [2,5,6]) ?_
  refine kr [41,87] ?_
  obtain ⟨x15,hx,h⟩:=bind_some h
  refine qb (AC.g9 (zh _ _ _ hx) [0] [0]) ?_
  refine kr [41,87] ?_
  refine qe (fun hb=> ?_) (fun hb=> ?_)
  ·replace h:=ql hb h
   refine kr [41,87] ?_
   obtain ⟨x16,hx,h⟩:=bind_some h
   rcases x16 with ee | x16
   ·replace h:some (.error ee)=some r:=h
    cases h
    exact zi (FCalls.ghost (e:=9) (FCalls.ghost (e:=45) (FCalls.wkg (FC.go (objs:= [(0, .var 130 (Reader.cells x13.2)),(1, .var 45 [(.int .i64 0),(.str ⟨#[]⟩),(.sl 0 true []),(.sl 0 true [])]),(2, .var 45 [(.int .i64 (13:Int)),(.str ⟨#[]⟩),(.bs 1 3 5 0 x10.2.length),(.bs 4 4 7 0 x14.length)]),(5, .row 9 (x10.2.map sc).flatten),(7, .row 45 (x14.map Node.cells).flatten),(8, .var 45 [(.int .i64 (14:Int)),(.str ⟨#[]⟩),(.bs 1 6 9 0 ([]:LB).length),(.bs 4 7 10 0 ([]:LN).length)]),(9, .row 9 (([]:LB).map sc).flatten),(10, .row 45 (([]:LN).map Node.cells).flatten)]) (xs:= [(.ptr 0 0 0),(.ptr 5 8 0),(.str (⟨#[101,108,115,101]⟩:BA))]) (qc _ _ _ _ _ _ _ hx) [0,5,6,7] [0,8,9,10] rfl rfl rfl rfl rfl rfl) (qg (qq _) (qg (qq _) (qg (qq _) jb))) (qf (qf (qf (qf (qf (je (qd (qk _) (qd (qk _) (qd (ze rfl) (qd (ze rfl) jw)))) (zq _))))))))))
   refine qb (ACalls.ghost (e:=9) (ACalls.ghost (e:=45) (ACalls.wkg (AC.go (objs:= [(0, .var 130 (Reader.cells x13.2)),(1, .var 45 [(.int .i64 0),(.str ⟨#[]⟩),(.sl 0 true []),(.sl 0 true [])]),(2, .var 45 [(.int .i64 (13:Int)),(.str ⟨#[]⟩),(.bs 1 3 5 0 x10.2.length),(.bs 4 4 7 0 x14.length)]),(5, .row 9 (x10.2.map sc).flatten),(7, .row 45 (x14.map Node.cells).flatten),(8, .var 45 [(.int .i64 (14:Int)),(.str ⟨#[]⟩),(.bs 1 6 9 0 ([]:LB).length),(.bs 4 7 10 0 ([]:LN).length)]),(9, .row 9 (([]:LB).map sc).flatten),(10, .row 45 (([]:LN).map Node.cells).flatten)]) (xs:= [(.ptr 0 0 0),(.ptr 5 8 0),(.str (⟨#[101,108,115,101]⟩:BA))]) (qc _ _ _ _ _ _ _ hx) [0,5,6,7] [0,8,9,10] rfl rfl rfl rfl rfl rfl rfl rfl rfl) (qg (qq _) (qg (qq _) (qg (qq _) jb))) (qf (qf (qf (qf (qf (je (qd (qk _) (qd (qk _) (qd (ze rfl) (qd (ze rfl) jw)))) (zq _)))))))))) ?_
   refine kr [41,87] ?_
   obtain ⟨x17,hx,h⟩:=bind_some h
   rcases x17 with ee | x17
   ·replace h:some (.error ee)=some r:=h
    cases h
    exact zi (FC.go (yh _ _ hx) [0] [0] rfl rfl rfl rfl rfl rfl)
   refine qb (AC.g9 (yh _ _ hx) [0] [0]) ?_
   refine kr [41,87] ?_
   obtain ⟨x18,hx,h⟩:=bind_some h
   refine qb (AC.g9 (zv _ _ _ _ _ _ hx) [5,6,7] [8,11,10]) ?_
   refine kr [41,87] ?_
   refine K3 5 2 6 zp rfl rfl rfl rfl rfl rfl ?_
   refine K3 5 3 7 qo rfl rfl rfl rfl rfl rfl ?_
   exact qx (by kernel_rfl) rfl lQ (Jh _ _ _ _ _ _ _ h)
  replace h:=qm hb h
  refine kr [41,87] ?_
  exact qx (by kernel_rfl) rfl lQ (Jh _ _ _ _ _ _ _ h)
 replace h:=qm hb h
 refine kr [41,87] ?_
 obtain ⟨x19,hx,h⟩:=bind_some h
 refine qb (AC.g9 (zh _ _ _ hx) [0] [0]) ?_
 refine kr [41,87] ?_
 refine qe (fun hb=> ?_) (fun hb=> ?_)
 ·replace h:=ql hb h
  refine kr [41,87] ?_
  obtain ⟨x20,hx,h⟩:=bind_some h
  rcases x20 with ee | x20
  ·replace h:some (.error ee)=some r:=h
   cases h
   exact zi (FCalls.ghost (e:=9) (FCalls.ghost (e:=45) (FCalls.wkg (FC.go (objs:= [(0, .var 130 (Reader.cells a0)),(1, .var 45 [(.int .i64 0),(.str ⟨#[]⟩),(.sl 0 true []),(.sl 0 true [])]),(2, .var 45 [(.int .i64 (15:Int)),(.str ⟨#[]⟩),(.bs 1 3 3 0 ([]:LB).length),(.bs 4 4 4 0 ([]:LN).length)]),(3, .row 9 (([]:LB).map sc).flatten),(4, .row 45 (([]:LN).map Node.cells).flatten)]) (xs:= [(.ptr 0 0 0),(.ptr 2 2 0),(.str (⟨#[119,104,105,108,101]⟩:BA))]) (qc _ _ _ _ _ _ _ hx) [0,2,3,4] [0,2,3,4] rfl rfl rfl rfl rfl rfl) (qg (qq _) (qg (qq _) (qg (qq _) jb))) (qf (qf (je (qd (qk _) (qd (qk _) (qd (ze rfl) (qd (ze rfl) jw)))) (zq _)))))))
  refine qb (ACalls.ghost (e:=9) (ACalls.ghost (e:=45) (ACalls.wkg (AC.go (objs:= [(0, .var 130 (Reader.cells a0)),(1, .var 45 [(.int .i64 0),(.str ⟨#[]⟩),(.sl 0 true []),(.sl 0 true [])]),(2, .var 45 [(.int .i64 (15:Int)),(.str ⟨#[]⟩),(.bs 1 3 3 0 ([]:LB).length),(.bs 4 4 4 0 ([]:LN).length)]),(3, .row 9 (([]:LB).map sc).flatten),(4, .row 45 (([]:LN).map Node.cells).flatten)]) (xs:= [(.ptr 0 0 0),(.ptr 2 2 0),(.str (⟨#[119,104,105,108,101]⟩:BA))]) (qc _ _ _ _ _ _ _ hx) [0,2,3,4] [0,2,3,4] rfl rfl rfl rfl rfl rfl rfl rfl rfl) (qg (qq _) (qg (qq _) (qg (qq _) jb))) (qf (qf (je (qd (qk _) (qd (qk _) (qd (ze rfl) (qd (ze rfl) jw)))) (zq _))))))) ?_
  refine kr [41,87] ?_
  obtain ⟨x21,hx,h⟩:=bind_some h
  rcases x21 with ee | x21
  ·replace h:some (.error ee)=some r:=h
   cases h
   exact zi (FC.go (q7 _ _ _ hx) [0] [0] rfl rfl rfl rfl rfl rfl)
  refine qb (AC.g9 (q7 _ _ _ hx) [0] [0]) ?_
  refine kr [41,87] ?_
  obtain ⟨x22,hx,h⟩:=bind_some h
  refine qb (AC.g9 (zv _ _ _ _ _ _ hx) [2,3,4] [2,5,4]) ?_
  refine kr [41,87] ?_
  obtain ⟨x23,hx,h⟩:=bind_some h
  rcases x23 with ee | x23
  ·replace h:some (.error ee)=some r:=h
   cases h
   exact zi (FC.go (yh _ _ hx) [0] [0] rfl rfl rfl rfl rfl rfl)
  refine qb (AC.g9 (yh _ _ hx) [0] [0]) ?_
  refine kr [41,87] ?_
  obtain ⟨x24,hx,h⟩:=bind_some h
  refine qb (AC.g9 (zv _ _ _ _ _ _ hx) [2,3,4] [2,5,6]) ?_
  refine kr [41,87] ?_
  cases h
  exact yp env rfl rfl (tS [some 0] (sV (lS (lS lN)) q8) (yf (kw (qi (qh (zo rfl) rfl) (qi (qh (z6 rfl) rfl) (qi (qh (jm zp rfl) rfl) (qi (qh (jm qo rfl) rfl) kv))))) (by simp)))
 replace h:=qm hb h
 refine kr [41,87] ?_
 obtain ⟨x25,hx,h⟩:=bind_some h
 refine qb (AC.g9 (jv _ _ hx) [0] [0]) ?_
 refine kr [41,87] ?_
 refine qr (fun hb=> ?_) (fun hb=> ?_)
 ·replace h:=ql hb h
  refine kr [41,87] ?_
  obtain ⟨x26,hx,h⟩:=bind_some h
  refine qn (qia _ _ hx) ?_
  refine kr [41,87] ?_
  refine qr (fun hb=> ?_) (fun hb=> ?_)
  ·replace h:=ql hb h
   refine kr [41,87] ?_
   obtain ⟨x27,hx,h⟩:=bind_some h
   refine y7 env hx rfl rfl rfl rfl rfl ?_
   refine kr [41,87] ?_
   refine qe (fun hb=> ?_) (fun hb=> ?_)
   ·replace h:=ql hb h
    refine kr [41,87] ?_
    obtain ⟨x28,hx,h⟩:=bind_some h
    rcases x28 with ee | x28
    ·replace h:some (.error ee)=some r:=h
     cases h
     exact zi (FCalls.ghost (e:=9) (FCalls.ghost (e:=45) (FCalls.wkg (FC.go (objs:= [(0, .var 130 (Reader.cells a0)),(1, .var 45 [(.int .i64 0),(.str ⟨#[]⟩),(.sl 0 true []),(.sl 0 true [])]),(2, .var 118 (Token.cells x25)),(3, .var 45 [(.int .i64 (11:Int)),(.str ⟨#[]⟩),(.bs 1 4 4 0 ([]:LB).length),(.bs 4 5 5 0 ([]:LN).length)]),(4, .row 9 (([]:LB).map sc).flatten),(5, .row 45 (([]:LN).map Node.cells).flatten)]) (xs:= [(.ptr 0 0 0),(.ptr 3 3 0)]) (zj _ _ _ _ _ _ hx) [0,3,4,5] [0,3,4,5] rfl rfl rfl rfl rfl rfl) (qg (qq _) (qg (qq _) jb)) (qf (qf (qf (je (qd (qk _) (qd (qk _) (qd (ze rfl) (qd (ze rfl) jw)))) (zq _))))))))
    refine qb (ACalls.ghost (e:=9) (ACalls.ghost (e:=45) (ACalls.wkg (AC.go (objs:= [(0, .var 130 (Reader.cells a0)),(1, .var 45 [(.int .i64 0),(.str ⟨#[]⟩),(.sl 0 true []),(.sl 0 true [])]),(2, .var 118 (Token.cells x25)),(3, .var 45 [(.int .i64 (11:Int)),(.str ⟨#[]⟩),(.bs 1 4 4 0 ([]:LB).length),(.bs 4 5 5 0 ([]:LN).length)]),(4, .row 9 (([]:LB).map sc).flatten),(5, .row 45 (([]:LN).map Node.cells).flatten)]) (xs:= [(.ptr 0 0 0),(.ptr 3 3 0)]) (zj _ _ _ _ _ _ hx) [0,3,4,5] [0,3,4,5] rfl rfl rfl rfl rfl rfl rfl rfl rfl) (qg (qq _) (qg (qq _) jb)) (qf (qf (qf (je (qd (qk _) (qd (qk _) (qd (ze rfl) (qd (ze rfl) jw)))) (zq _)))))))) ?_
    refine kr [41,87] ?_
    obtain ⟨x29,hx,h⟩:=bind_some h
    rcases x29 with ee | x29
    ·replace h:some (.error ee)=some r:=h
     cases h
     exact zi (FC.go (qc _ _ _ _ _ _ _ hx) [0,3,4,5] [0,3,6,5] rfl rfl rfl rfl rfl rfl)
    refine qb (AC.g9 (qc _ _ _ _ _ _ _ hx) [0,3,4,5] [0,3,6,5]) ?_
    refine kr [41,87] ?_
    obtain ⟨x30,hx,h⟩:=bind_some h
    rcases x30 with ee | x30
    ·replace h:some (.error ee)=some r:=h
     cases h
     exact zi (FC.go (q7 _ _ _ hx) [0] [0] rfl rfl rfl rfl rfl rfl)
    refine qb (AC.g9 (q7 _ _ _ hx) [0] [0]) ?_
    refine kr [41,87] ?_
    obtain ⟨x31,hx,h⟩:=bind_some h
    refine qb (AC.g9 (zv _ _ _ _ _ _ hx) [3,4,5] [3,7,5]) ?_
    refine kr [41,87] ?_
    obtain ⟨x32,hx,h⟩:=bind_some h
    rcases x32 with ee | x32
    ·replace h:some (.error ee)=some r:=h
     cases h
     exact zi (FC.go (qc _ _ _ _ _ _ _ hx) [0,3,4,5] [0,3,7,8] rfl rfl rfl rfl rfl rfl)
    refine qb (AC.g9 (qc _ _ _ _ _ _ _ hx) [0,3,4,5] [0,3,7,8]) ?_
    refine kr [41,87] ?_
    cases h
    exact yp env rfl rfl (tS [some 0] (sV (lS (lS lN)) q8) (yf (kw (qi (qh (zo rfl) rfl) (qi (qh (z6 rfl) rfl) (qi (qh (jm zp rfl) rfl) (qi (qh (jm qo rfl) rfl) kv))))) (by simp)))
   replace h:=qm hb h
   refine kr [41,87] ?_
   exact qx (by kernel_rfl) rfl lQ (vr _ _ h)
  replace h:=qm hb h
  refine kr [41,87] ?_
  exact qx (by kernel_rfl) rfl lQ (vr _ _ h)
 replace h:=qm hb h
 refine kr [41,87] ?_
 exact qx (by kernel_rfl) rfl lQ (vr _ _ h)
theorem yh:PC1 Jn jg:=Zv.1
theorem ve:PC5 Zd j5:=Zv.2.1
theorem Q0:PC1 Qx ym:=Zv.2.2
mutual
def j4 (o0:Reader) (o2_0:Int) (o2_1:BA) (o2_2:LB) (o2_3:LN) (o5_0:Int) (o5_1:BA) (o5_2:LB) (o5_3:LN):Option (Except Int (Node × Reader)):=
 zd (qa o0) (⟨#[41]⟩:BA) >>=fun x4=>
 if (!x4)=true then
  if (decide ((0:Int) < (o5_3.length:Int)))=true then
   qp (qa o0) (qa o5_0) (qa o5_1) (qa o5_2) (qa o5_3) (⟨#[44]⟩:BA) >>=fun x5=>
   match x5 with
   | .error ee=>some (.error ee)
   | .ok x5=>
   yn x5.1 (qa o2_0) (qa o2_1) (qa o2_2) (qa o2_3) (qa o5_0) (qa o5_1) x5.2 (qa o5_3)
  else
   yn (qa o0) (qa o2_0) (qa o2_1) (qa o2_2) (qa o2_3) (qa o5_0) (qa o5_1) (qa o5_2) (qa o5_3)
 else
  qp (qa o0) (qa o5_0) (qa o5_1) (qa o5_2) (qa o5_3) (⟨#[41]⟩:BA) >>=fun x6=>
  match x6 with
  | .error ee=>some (.error ee)
  | .ok x6=>
  zu (qa o2_0) (qa o2_1) (qa o2_2) (qa o2_3) (Node.mk o5_0 o5_1 x6.2 o5_3) >>=fun x7=>
  uo x6.1 >>=fun x8=>
  match x8 with
  | .error ee=>some (.error ee)
  | .ok x8=>
  zu (qa o2_0) (qa o2_1) (qa o2_2) (qa x7) x8.1 >>=fun x9=>
  jg x8.2 >>=fun x10=>
  match x10 with
  | .error ee=>some (.error ee)
  | .ok x10=>
  zu (qa o2_0) (qa o2_1) (qa o2_2) (qa x9) x10.1 >>=fun x11=>
  some (.ok ((Node.mk o2_0 o2_1 o2_2 x11),x10.2))
 partial_fixpoint
def yn (o0:Reader) (o2_0:Int) (o2_1:BA) (o2_2:LB) (o2_3:LN) (o5_0:Int) (o5_1:BA) (o5_2:LB) (o5_3:LN):Option (Except Int (Node × Reader)):=
 jd (qa o0) (4:Int) (⟨#[]⟩) ([]:LB) ([]:LN) >>=fun x12=>
 match x12 with
 | .error ee=>some (.error ee)
 | .ok x12=>
 uo x12.1 >>=fun x13=>
 match x13 with
 | .error ee=>some (.error ee)
 | .ok x13=>
 zu (4:Int) x12.2.1 x12.2.2 ([]:LN) x13.1 >>=fun x14=>
 zu (qa o5_0) (qa o5_1) (qa o5_2) (qa o5_3) (Node.mk (4:Int) x12.2.1 x12.2.2 x14) >>=fun x15=>
 j4 x13.2 (qa o2_0) (qa o2_1) (qa o2_2) (qa o2_3) (qa o5_0) (qa o5_1) (qa o5_2) (qa x15)
 partial_fixpoint
end
@[reducible] def Qi (o0:Reader) (o2_0:Int) (o2_1:BA) (o2_2:LB) (o2_3:LN) (o5_0:Int) (o5_1:BA) (o5_2:LB) (o5_3:LN) (r:Except Int (Node × Reader)):Prop:=
  Ok Tryz.prog G tt 42 1 (exq (fun (r:Node × Reader)=>Ret Tryz.prog [.cell 2 45] (fun y H=>vj Tryz.prog G 1 H y (.agg (z7 r.1)) ⟨1, [(0, .var 130 (Reader.cells r.2))]⟩)) (fun e=>Yq (flt e)) r) (.again (ju [20,2000011,2000013] Tryz.f83 0).1 (ju [20,2000011,2000013] Tryz.f83 0).2 (.n (.ptr 0 0 0) (.n .undef (.n (.ptr 2 2 0) .z .z) .z) (.n (.ptr 1 1 0) (.n (.ptr 5 7 0) .z .z) .z)) 11 [(0, .var 130 (Reader.cells o0)),(1, .var 45 [(.int .i64 0),(.str ⟨#[]⟩),(.sl 0 true []),(.sl 0 true [])]),(2, .var 45 [(.int .i64 o2_0),(.str o2_1),(.bs 1 3 6 0 o2_2.length),(.bs 4 4 4 0 o2_3.length)]),(6, .row 9 (o2_2.map sc).flatten),(4, .row 45 (o2_3.map Node.cells).flatten),(7, .var 45 [(.int .i64 o5_0),(.str o5_1),(.bs 1 6 10 0 o5_2.length),(.bs 4 7 9 0 o5_3.length)]),(10, .row 9 (o5_2.map sc).flatten),(9, .row 45 (o5_3.map Node.cells).flatten)])
@[reducible] def Qa (o0:Reader) (o2_0:Int) (o2_1:BA) (o2_2:LB) (o2_3:LN) (o5_0:Int) (o5_1:BA) (o5_2:LB) (o5_3:LN) (r:Except Int (Node × Reader)):Prop:=
  Ok Tryz.prog G tt 42 1 (exq (fun (r:Node × Reader)=>Ret Tryz.prog [.cell 2 45] (fun y H=>vj Tryz.prog G 1 H y (.agg (z7 r.1)) ⟨1, [(0, .var 130 (Reader.cells r.2))]⟩)) (fun e=>Yq (flt e)) r) (.go [] (v8 [20,2000011,2000013] Tryz.f83 20) [] (.n (.ptr 0 0 0) (.n .undef (.n (.ptr 2 2 0) .z .z) .z) (.n (.ptr 1 1 0) (.n (.ptr 5 7 0) .z .z) .z)) 12 [(0, .var 130 (Reader.cells o0)),(1, .var 45 [(.int .i64 0),(.str ⟨#[]⟩),(.sl 0 true []),(.sl 0 true [])]),(2, .var 45 [(.int .i64 o2_0),(.str o2_1),(.bs 1 3 6 0 o2_2.length),(.bs 4 4 4 0 o2_3.length)]),(6, .row 9 (o2_2.map sc).flatten),(4, .row 45 (o2_3.map Node.cells).flatten),(7, .var 45 [(.int .i64 o5_0),(.str o5_1),(.bs 1 6 11 0 o5_2.length),(.bs 4 7 9 0 o5_3.length)]),(11, .row 9 (o5_2.map sc).flatten),(9, .row 45 (o5_3.map Node.cells).flatten)])
theorem Jj:PC9 Qi j4∧PC9 Qa yn:=by
 refine j4.mutual_partial_correctness Qi Qa (fun yn Qe o0 o2_0 o2_1 o2_2 o2_3 o5_0 o5_1 o5_2 o5_3 r h=> ?_) (fun j4 Qj o0 o2_0 o2_1 o2_2 o2_3 o5_0 o5_1 o5_2 o5_3 r h=> ?_)
 ·unfold qa at h
  refine yb ?_
  refine kr [20,2000011,2000013] ?_
  obtain ⟨x4,hx,h⟩:=bind_some h
  refine qb (AC.g9 (zh _ _ _ hx) [0] [0]) ?_
  refine kr [20,2000011,2000013] ?_
  refine qe (fun hb=> ?_) (fun hb=> ?_)
  ·replace h:=ql hb h
   refine kr [20,2000011,2000013] ?_
   refine qe (fun hb=> ?_) (fun hb=> ?_)
   ·replace h:=ql hb h
    refine kr [20,2000011,2000013] ?_
    obtain ⟨x5,hx,h⟩:=bind_some h
    rcases x5 with ee | x5
    ·replace h:some (.error ee)=some r:=h
     cases h
     exact zi (FC.go (qc _ _ _ _ _ _ _ hx) [0,5,6,7] [0,7,10,9] rfl rfl rfl rfl rfl rfl)
    refine qb (AC.g9 (qc _ _ _ _ _ _ _ hx) [0,5,6,7] [0,7,10,9]) ?_
    refine kr [20,2000011,2000013] ?_
    exact qx (by kernel_rfl) rfl lQ (Qe _ _ _ _ _ _ _ _ _ _ h)
   replace h:=qm hb h
   refine kr [20,2000011,2000013] ?_
   exact qx (by kernel_rfl) rfl lQ (Qe _ _ _ _ _ _ _ _ _ _ h)
  replace h:=qm hb h
  refine kr [20,2000011,2000013] ?_
  obtain ⟨x6,hx,h⟩:=bind_some h
  rcases x6 with ee | x6
  ·replace h:some (.error ee)=some r:=h
   cases h
   exact zi (FC.go (qc _ _ _ _ _ _ _ hx) [0,5,6,7] [0,7,10,9] rfl rfl rfl rfl rfl rfl)
  refine qb (AC.g9 (qc _ _ _ _ _ _ _ hx) [0,5,6,7] [0,7,10,9]) ?_
  refine kr [20,2000011,2000013] ?_
  refine K3 5 2 6 zp rfl rfl rfl rfl rfl rfl ?_
  refine K3 5 3 7 qo rfl rfl rfl rfl rfl rfl ?_
  refine qdh ?_
  refine kr [20,2000011,2000013] ?_
  obtain ⟨x7,hx,h⟩:=bind_some h
  refine qb (AC.g9 (zv _ _ _ _ _ _ hx) [2,3,4] [2,6,4]) ?_
  refine kr [20,2000011,2000013] ?_
  obtain ⟨x8,hx,h⟩:=bind_some h
  rcases x8 with ee | x8
  ·replace h:some (.error ee)=some r:=h
   cases h
   exact zi (FC.go (Qs _ _ hx) [0] [0] rfl rfl rfl rfl rfl rfl)
  refine qb (AC.g9 (Qs _ _ hx) [0] [0]) ?_
  refine kr [20,2000011,2000013] ?_
  obtain ⟨x9,hx,h⟩:=bind_some h
  refine qb (AC.g9 (zv _ _ _ _ _ _ hx) [2,3,4] [2,6,12]) ?_
  refine kr [20,2000011,2000013] ?_
  obtain ⟨x10,hx,h⟩:=bind_some h
  rcases x10 with ee | x10
  ·replace h:some (.error ee)=some r:=h
   cases h
   exact zi (FC.go (yh _ _ hx) [0] [0] rfl rfl rfl rfl rfl rfl)
  refine qb (AC.g9 (yh _ _ hx) [0] [0]) ?_
  refine kr [20,2000011,2000013] ?_
  obtain ⟨x11,hx,h⟩:=bind_some h
  refine qb (AC.g9 (zv _ _ _ _ _ _ hx) [2,3,4] [2,6,13]) ?_
  refine kr [20,2000011,2000013] ?_
  cases h
  exact yp env rfl rfl (tS [some 0] (sV (lS (lS lN)) q8) (yf (kw (qi (qh (zo rfl) rfl) (qi (qh (z6 rfl) rfl) (qi (qh (jm zp rfl) rfl) (qi (qh (jm qo rfl) rfl) kv))))) (by simp)))
 unfold qa at h
 refine kr [20,2000011,2000013] ?_
 obtain ⟨x12,hx,h⟩:=bind_some h
 rcases x12 with ee | x12
 ·replace h:some (.error ee)=some r:=h
  cases h
  exact zi (FCalls.ghost (e:=9) (FCalls.ghost (e:=45) (FCalls.wkg (FC.go (objs:= [(0, .var 130 (Reader.cells o0)),(1, .var 45 [(.int .i64 0),(.str ⟨#[]⟩),(.sl 0 true []),(.sl 0 true [])]),(2, .var 45 [(.int .i64 o2_0),(.str o2_1),(.bs 1 3 6 0 o2_2.length),(.bs 4 4 4 0 o2_3.length)]),(6, .row 9 (o2_2.map sc).flatten),(4, .row 45 (o2_3.map Node.cells).flatten),(7, .var 45 [(.int .i64 o5_0),(.str o5_1),(.bs 1 6 11 0 o5_2.length),(.bs 4 7 9 0 o5_3.length)]),(11, .row 9 (o5_2.map sc).flatten),(9, .row 45 (o5_3.map Node.cells).flatten),(12, .var 45 [(.int .i64 (4:Int)),(.str ⟨#[]⟩),(.bs 1 9 13 0 ([]:LB).length),(.bs 4 10 14 0 ([]:LN).length)]),(13, .row 9 (([]:LB).map sc).flatten),(14, .row 45 (([]:LN).map Node.cells).flatten)]) (xs:= [(.ptr 0 0 0),(.ptr 8 12 0)]) (zj _ _ _ _ _ _ hx) [0,8,9,10] [0,12,13,14] rfl rfl rfl rfl rfl rfl) (qg (qq _) (qg (qq _) jb)) (qf (qf (qf (qf (qf (qf (qf (qf (je (qd (qk _) (qd (qk _) (qd (ze rfl) (qd (ze rfl) jw)))) (zq _)))))))))))))
 refine qb (ACalls.ghost (e:=9) (ACalls.ghost (e:=45) (ACalls.wkg (AC.go (objs:= [(0, .var 130 (Reader.cells o0)),(1, .var 45 [(.int .i64 0),(.str ⟨#[]⟩),(.sl 0 true []),(.sl 0 true [])]),(2, .var 45 [(.int .i64 o2_0),(.str o2_1),(.bs 1 3 6 0 o2_2.length),(.bs 4 4 4 0 o2_3.length)]),(6, .row 9 (o2_2.map sc).flatten),(4, .row 45 (o2_3.map Node.cells).flatten),(7, .var 45 [(.int .i64 o5_0),(.str o5_1),(.bs 1 6 11 0 o5_2.length),(.bs 4 7 9 0 o5_3.length)]),(11, .row 9 (o5_2.map sc).flatten),(9, .row 45 (o5_3.map Node.cells).flatten),(12, .var 45 [(.int .i64 (4:Int)),(.str ⟨#[]⟩),(.bs 1 9 13 0 ([]:LB).length),(.bs 4 10 14 0 ([]:LN).length)]),(13, .row 9 (([]:LB).map sc).flatten),(14, .row 45 (([]:LN).map Node.cells).flatten)]) (xs:= [(.ptr 0 0 0),(.ptr 8 12 0)]) (zj _ _ _ _ _ _ hx) [0,8,9,10] [0,12,13,14] rfl rfl rfl rfl rfl rfl rfl rfl rfl) (qg (qq _) (qg (qq _) jb)) (qf (qf (qf (qf (qf (qf (qf (qf (je (qd (qk _) (qd (qk _) (qd (ze rfl) (qd (ze rfl) jw)))) (zq _))))))))))))) ?_
 refine kr [20,2000011,2000013] ?_
 obtain ⟨x13,hx,h⟩:=bind_some h
 rcases x13 with ee | x13
 ·replace h:some (.error ee)=some r:=h
  cases h
  exact zi (FC.go (Qs _ _ hx) [0] [0] rfl rfl rfl rfl rfl rfl)
 refine qb (AC.g9 (Qs _ _ hx) [0] [0]) ?_
 refine kr [20,2000011,2000013] ?_
 obtain ⟨x14,hx,h⟩:=bind_some h
 refine qb (AC.g9 (zv _ _ _ _ _ _ hx) [8,9,10] [12,15,14]) ?_
 refine kr [20,2000011,2000013] ?_
 refine K3 8 2 9 zp rfl rfl rfl rfl rfl rfl ?_
 refine K3 8 3 10 qo rfl rfl rfl rfl rfl rfl ?_
 refine qdh ?_
 refine kr [20,2000011,2000013] ?_
 obtain ⟨x15,hx,h⟩:=bind_some h
 refine qb (AC.g9 (zv _ _ _ _ _ _ hx) [5,6,7] [7,11,9]) ?_
 refine kr [20,2000011,2000013] ?_
 exact ja (by kernel_rfl) lQ (Qj _ _ _ _ _ _ _ _ _ _ h)
theorem Qj:PC9 Qi j4:=Jj.1
theorem Qe:PC9 Qa yn:=Jj.2
def y8 (a0:Reader):Option (Except Int (Node × Reader)):=
 qp a0 (2:Int) (⟨#[]⟩) ([]:LB) ([]:LN) (⟨#[102,110]⟩:BA) >>=fun x1=>
 match x1 with
 | .error ee=>some (.error ee)
 | .ok x1=>
 jd x1.1 (2:Int) (⟨#[]⟩) x1.2 ([]:LN) >>=fun x2=>
 match x2 with
 | .error ee=>some (.error ee)
 | .ok x2=>
 qp x2.1 (3:Int) (⟨#[]⟩) ([]:LB) ([]:LN) (⟨#[40]⟩:BA) >>=fun x3=>
 match x3 with
 | .error ee=>some (.error ee)
 | .ok x3=>
 j4 x3.1 (2:Int) x2.2.1 x2.2.2 ([]:LN) (3:Int) (⟨#[]⟩) x3.2 ([]:LN)
@[reducible] def qc7 (a0:Reader) (r:Except Int (Node × Reader)):Prop:=
  exq (fun (r:Node × Reader)=>AC Tryz.prog G 83 [(.ptr 0 0 0)] 1 [(0, .var 130 (Reader.cells a0))] (.agg (z7 r.1)) 1 [(0, .var 130 (Reader.cells r.2))]) (fun e=>FC Tryz.prog G 83 [(.ptr 0 0 0)] 1 [(0, .var 130 (Reader.cells a0))] (flt e)) r
theorem u9:PC1 qc7 y8:=fun a0 r h=>by
 rw [y8.eq_def] at h
 refine W6 (T:=tt) (N:=42) (rs:= [.cell 2 45]) (fun vs w=>by simp) Tryz.func83 rfl rfl rfl (by kernel_rfl) (by kernel_rfl) (zm rfl rfl j3) (qj zg) (fun r=>(zn rfl j6)) (fun r=>(qj zg)) (fun _=>rfl) (fun _=>rfl) rfl (fun _=>rfl) ?_
 refine kr [20,2000011,2000013] ?_
 obtain ⟨x1,hx,h⟩:=bind_some h
 rcases x1 with ee | x1
 ·replace h:some (.error ee)=some r:=h
  cases h
  exact zi (FCalls.ghost (e:=9) (FCalls.ghost (e:=45) (FCalls.wkg (FC.go (objs:= [(0, .var 130 (Reader.cells a0)),(1, .var 45 [(.int .i64 0),(.str ⟨#[]⟩),(.sl 0 true []),(.sl 0 true [])]),(2, .var 45 [(.int .i64 (2:Int)),(.str ⟨#[]⟩),(.bs 1 3 3 0 ([]:LB).length),(.bs 4 4 4 0 ([]:LN).length)]),(3, .row 9 (([]:LB).map sc).flatten),(4, .row 45 (([]:LN).map Node.cells).flatten)]) (xs:= [(.ptr 0 0 0),(.ptr 2 2 0),(.str (⟨#[102,110]⟩:BA))]) (qc _ _ _ _ _ _ _ hx) [0,2,3,4] [0,2,3,4] rfl rfl rfl rfl rfl rfl) (qg (qq _) (qg (qq _) (qg (qq _) jb))) (qf (qf (je (qd (qk _) (qd (qk _) (qd (ze rfl) (qd (ze rfl) jw)))) (zq _)))))))
 refine qb (ACalls.ghost (e:=9) (ACalls.ghost (e:=45) (ACalls.wkg (AC.go (objs:= [(0, .var 130 (Reader.cells a0)),(1, .var 45 [(.int .i64 0),(.str ⟨#[]⟩),(.sl 0 true []),(.sl 0 true [])]),(2, .var 45 [(.int .i64 (2:Int)),(.str ⟨#[]⟩),(.bs 1 3 3 0 ([]:LB).length),(.bs 4 4 4 0 ([]:LN).length)]),(3, .row 9 (([]:LB).map sc).flatten),(4, .row 45 (([]:LN).map Node.cells).flatten)]) (xs:= [(.ptr 0 0 0),(.ptr 2 2 0),(.str (⟨#[102,110]⟩:BA))]) (qc _ _ _ _ _ _ _ hx) [0,2,3,4] [0,2,3,4] rfl rfl rfl rfl rfl rfl rfl rfl rfl) (qg (qq _) (qg (qq _) (qg (qq _) jb))) (qf (qf (je (qd (qk _) (qd (qk _) (qd (ze rfl) (qd (ze rfl) jw)))) (zq _))))))) ?_
 refine kr [20,2000011,2000013] ?_
 obtain ⟨x2,hx,h⟩:=bind_some h
 rcases x2 with ee | x2
 ·replace h:some (.error ee)=some r:=h
  cases h
  exact zi (FC.go (zj _ _ _ _ _ _ hx) [0,2,3,4] [0,2,5,4] rfl rfl rfl rfl rfl rfl)
 refine qb (AC.g9 (zj _ _ _ _ _ _ hx) [0,2,3,4] [0,2,5,4]) ?_
 refine kr [20,2000011,2000013] ?_
 obtain ⟨x3,hx,h⟩:=bind_some h
 rcases x3 with ee | x3
 ·replace h:some (.error ee)=some r:=h
  cases h
  exact zi (FCalls.ghost (e:=9) (FCalls.ghost (e:=45) (FCalls.wkg (FC.go (objs:= [(0, .var 130 (Reader.cells x2.1)),(1, .var 45 [(.int .i64 0),(.str ⟨#[]⟩),(.sl 0 true []),(.sl 0 true [])]),(2, .var 45 [(.int .i64 (2:Int)),(.str x2.2.1),(.bs 1 3 6 0 x2.2.2.length),(.bs 4 4 4 0 ([]:LN).length)]),(6, .row 9 (x2.2.2.map sc).flatten),(4, .row 45 (([]:LN).map Node.cells).flatten),(7, .var 45 [(.int .i64 (3:Int)),(.str ⟨#[]⟩),(.bs 1 6 8 0 ([]:LB).length),(.bs 4 7 9 0 ([]:LN).length)]),(8, .row 9 (([]:LB).map sc).flatten),(9, .row 45 (([]:LN).map Node.cells).flatten)]) (xs:= [(.ptr 0 0 0),(.ptr 5 7 0),(.str (⟨#[40]⟩:BA))]) (qc _ _ _ _ _ _ _ hx) [0,5,6,7] [0,7,8,9] rfl rfl rfl rfl rfl rfl) (qg (qq _) (qg (qq _) (qg (qq _) jb))) (qf (qf (qf (qf (qf (je (qd (qk _) (qd (qk _) (qd (ze rfl) (qd (ze rfl) jw)))) (zq _))))))))))
 refine qb (ACalls.ghost (e:=9) (ACalls.ghost (e:=45) (ACalls.wkg (AC.go (objs:= [(0, .var 130 (Reader.cells x2.1)),(1, .var 45 [(.int .i64 0),(.str ⟨#[]⟩),(.sl 0 true []),(.sl 0 true [])]),(2, .var 45 [(.int .i64 (2:Int)),(.str x2.2.1),(.bs 1 3 6 0 x2.2.2.length),(.bs 4 4 4 0 ([]:LN).length)]),(6, .row 9 (x2.2.2.map sc).flatten),(4, .row 45 (([]:LN).map Node.cells).flatten),(7, .var 45 [(.int .i64 (3:Int)),(.str ⟨#[]⟩),(.bs 1 6 8 0 ([]:LB).length),(.bs 4 7 9 0 ([]:LN).length)]),(8, .row 9 (([]:LB).map sc).flatten),(9, .row 45 (([]:LN).map Node.cells).flatten)]) (xs:= [(.ptr 0 0 0),(.ptr 5 7 0),(.str (⟨#[40]⟩:BA))]) (qc _ _ _ _ _ _ _ hx) [0,5,6,7] [0,7,8,9] rfl rfl rfl rfl rfl rfl rfl rfl rfl) (qg (qq _) (qg (qq _) (qg (qq _) jb))) (qf (qf (qf (qf (qf (je (qd (qk _) (qd (qk _) (qd (ze rfl) (qd (ze rfl) jw)))) (zq _)))))))))) ?_
 refine kr [20,2000011,2000013] ?_
 exact jr (by kernel_rfl) lQ (Qj _ _ _ _ _ _ _ _ _ _ h)
def yt (o0:Reader) (o2_0:Int) (o2_1:BA) (o2_2:LB) (o2_3:LN):Option (Except Int (Node × Reader)):=
 zd (qa o0) (⟨#[102,110]⟩:BA) >>=fun x8=>
 if x8=true then
  y8 (qa o0) >>=fun x9=>
  match x9 with
  | .error ee=>some (.error ee)
  | .ok x9=>
  zu (qa o2_0) (qa o2_1) (qa o2_2) (qa o2_3) x9.1 >>=fun x10=>
  yt x9.2 (qa o2_0) (qa o2_1) (qa o2_2) (qa x10)
 else
  qp (qa o0) (qa o2_0) (qa o2_1) (qa o2_2) (qa o2_3) (⟨#[125]⟩:BA) >>=fun x11=>
  match x11 with
  | .error ee=>some (.error ee)
  | .ok x11=>
  some (.ok ((Node.mk o2_0 o2_1 x11.2 o2_3),x11.1))
 partial_fixpoint
@[reducible] def Y7 (o0:Reader) (o2_0:Int) (o2_1:BA) (o2_2:LB) (o2_3:LN) (r:Except Int (Node × Reader)):Prop:=
  Ok Tryz.prog G tt 29 1 (exq (fun (r:Node × Reader)=>Ret Tryz.prog [.cell 2 45] (fun y H=>vj Tryz.prog G 1 H y (.agg (z7 r.1)) ⟨1, [(0, .var 130 (Reader.cells r.2))]⟩)) (fun e=>Yq (flt e)) r) (.again (ju [12] Tryz.f84 0).1 (ju [12] Tryz.f84 0).2 (.n (.ptr 0 0 0) (.n .undef (.n (.ptr 2 2 0) .z .z) .z) (.n (.ptr 1 1 0) .z .z)) 14 [(0, .var 130 (Reader.cells o0)),(1, .var 45 [(.int .i64 0),(.str ⟨#[]⟩),(.sl 0 true []),(.sl 0 true [])]),(2, .var 45 [(.int .i64 o2_0),(.str o2_1),(.bs 1 3 13 0 o2_2.length),(.bs 4 4 12 0 o2_3.length)]),(13, .row 9 (o2_2.map sc).flatten),(12, .row 45 (o2_3.map Node.cells).flatten)])
theorem Zg:PC5 Y7 yt:=by
 refine yt.partial_correctness Y7 (fun yt Zg o0 o2_0 o2_1 o2_2 o2_3 r h=> ?_)
 unfold qa at h
 refine yb ?_
 refine kr [12] ?_
 obtain ⟨x8,hx,h⟩:=bind_some h
 refine qb (AC.g9 (zh _ _ _ hx) [0] [0]) ?_
 refine kr [12] ?_
 refine qe (fun hb=> ?_) (fun hb=> ?_)
 ·replace h:=ql hb h
  refine kr [12] ?_
  obtain ⟨x9,hx,h⟩:=bind_some h
  rcases x9 with ee | x9
  ·replace h:some (.error ee)=some r:=h
   cases h
   exact zi (FC.go (u9 _ _ hx) [0] [0] rfl rfl rfl rfl rfl rfl)
  refine qb (AC.g9 (u9 _ _ hx) [0] [0]) ?_
  refine kr [12] ?_
  obtain ⟨x10,hx,h⟩:=bind_some h
  refine qb (AC.g9 (zv _ _ _ _ _ _ hx) [2,3,4] [2,13,12]) ?_
  refine kr [12] ?_
  exact ja (by kernel_rfl) lQ (Zg _ _ _ _ _ _ h)
 replace h:=qm hb h
 refine kr [12] ?_
 obtain ⟨x11,hx,h⟩:=bind_some h
 rcases x11 with ee | x11
 ·replace h:some (.error ee)=some r:=h
  cases h
  exact zi (FC.go (qc _ _ _ _ _ _ _ hx) [0,2,3,4] [0,2,13,12] rfl rfl rfl rfl rfl rfl)
 refine qb (AC.g9 (qc _ _ _ _ _ _ _ hx) [0,2,3,4] [0,2,13,12]) ?_
 refine kr [12] ?_
 cases h
 exact yp env rfl rfl (tS [some 0] (sV (lS (lS lN)) q8) (yf (kw (qi (qh (zo rfl) rfl) (qi (qh (z6 rfl) rfl) (qi (qh (jm zp rfl) rfl) (qi (qh (jm qo rfl) rfl) kv))))) (by simp)))
def wc (o0:Reader) (o2_0:Int) (o2_1:BA) (o2_2:LB) (o2_3:LN) (o5:Node):Option (Except Int (Node × Reader)):=
 zu o2_0 o2_1 o2_2 o2_3 o5 >>=fun x6=>
 qp o0 o2_0 o2_1 o2_2 x6 (⟨#[123]⟩:BA) >>=fun x7=>
 match x7 with
 | .error ee=>some (.error ee)
 | .ok x7=>
 yt x7.1 o2_0 o2_1 x7.2 x6
@[reducible] def qcm (o0:Reader) (o2_0:Int) (o2_1:BA) (o2_2:LB) (o2_3:LN) (o5:Node) (r:Except Int (Node × Reader)):Prop:=
  Ok Tryz.prog G tt 29 1 (exq (fun (r:Node × Reader)=>Ret Tryz.prog [.cell 2 45] (fun y H=>vj Tryz.prog G 1 H y (.agg (z7 r.1)) ⟨1, [(0, .var 130 (Reader.cells r.2))]⟩)) (fun e=>Yq (flt e)) r) (.go [] (v8 [12] Tryz.f84 12) [] (.n (.ptr 0 0 0) (.n .undef (.n (.ptr 2 2 0) .z .z) .z) (.n (.ptr 1 1 0) (.n (.ptr 5 7 0) .z .z) .z)) 12 [(0, .var 130 (Reader.cells o0)),(1, .var 45 [(.int .i64 0),(.str ⟨#[]⟩),(.sl 0 true []),(.sl 0 true [])]),(2, .var 45 [(.int .i64 o2_0),(.str o2_1),(.bs 1 3 6 0 o2_2.length),(.bs 4 4 4 0 o2_3.length)]),(6, .row 9 (o2_2.map sc).flatten),(4, .row 45 (o2_3.map Node.cells).flatten),(7, .var 45 (z7 o5))])
theorem Yo:PC6 qcm wc:=fun o0 o2_0 o2_1 o2_2 o2_3 o5 r h=>by
 rw [wc.eq_def] at h
 refine kr [12] ?_
 obtain ⟨x6,hx,h⟩:=bind_some h
 refine qb (AC.g9 (zv _ _ _ _ _ _ hx) [2,3,4] [2,6,4]) ?_
 refine kr [12] ?_
 obtain ⟨x7,hx,h⟩:=bind_some h
 rcases x7 with ee | x7
 ·replace h:some (.error ee)=some r:=h
  cases h
  exact zi (FC.go (qc _ _ _ _ _ _ _ hx) [0,2,3,4] [0,2,6,12] rfl rfl rfl rfl rfl rfl)
 refine qb (AC.g9 (qc _ _ _ _ _ _ _ hx) [0,2,3,4] [0,2,6,12]) ?_
 refine kr [12] ?_
 exact jr (by kernel_rfl) lQ (Zg _ _ _ _ _ _ h)
def uh (a0:Reader):Option (Except Int (Node × Reader)):=
 qp a0 (7:Int) (⟨#[]⟩) ([]:LB) ([]:LN) (⟨#[99,108,97,115,115]⟩:BA) >>=fun x1=>
 match x1 with
 | .error ee=>some (.error ee)
 | .ok x1=>
 jd x1.1 (7:Int) (⟨#[]⟩) x1.2 ([]:LN) >>=fun x2=>
 match x2 with
 | .error ee=>some (.error ee)
 | .ok x2=>
 zd x2.1 (⟨#[58]⟩:BA) >>=fun x3=>
 if x3=true then
  qp x2.1 (8:Int) (⟨#[]⟩) ([]:LB) ([]:LN) (⟨#[58]⟩:BA) >>=fun x4=>
  match x4 with
  | .error ee=>some (.error ee)
  | .ok x4=>
  jd x4.1 (8:Int) (⟨#[]⟩) x4.2 ([]:LN) >>=fun x5=>
  match x5 with
  | .error ee=>some (.error ee)
  | .ok x5=>
  wc x5.1 (7:Int) x2.2.1 x2.2.2 ([]:LN) (Node.mk (8:Int) x5.2.1 x5.2.2 ([]:LN))
 else
  wc x2.1 (7:Int) x2.2.1 x2.2.2 ([]:LN) (Node.mk (8:Int) (⟨#[]⟩) ([]:LB) ([]:LN))
@[reducible] def qeu (a0:Reader) (r:Except Int (Node × Reader)):Prop:=
  exq (fun (r:Node × Reader)=>AC Tryz.prog G 84 [(.ptr 0 0 0)] 1 [(0, .var 130 (Reader.cells a0))] (.agg (z7 r.1)) 1 [(0, .var 130 (Reader.cells r.2))]) (fun e=>FC Tryz.prog G 84 [(.ptr 0 0 0)] 1 [(0, .var 130 (Reader.cells a0))] (flt e)) r
theorem Wo:PC1 qeu uh:=fun a0 r h=>by
 rw [uh.eq_def] at h
 refine W6 (T:=tt) (N:=29) (rs:= [.cell 2 45]) (fun vs w=>by simp) Tryz.func84 rfl rfl rfl (by kernel_rfl) (by kernel_rfl) (zm rfl rfl j3) (qj zg) (fun r=>(zn rfl j6)) (fun r=>(qj zg)) (fun _=>rfl) (fun _=>rfl) rfl (fun _=>rfl) ?_
 refine kr [12] ?_
 obtain ⟨x1,hx,h⟩:=bind_some h
 rcases x1 with ee | x1
 ·replace h:some (.error ee)=some r:=h
  cases h
  exact zi (FCalls.ghost (e:=9) (FCalls.ghost (e:=45) (FCalls.wkg (FC.go (objs:= [(0, .var 130 (Reader.cells a0)),(1, .var 45 [(.int .i64 0),(.str ⟨#[]⟩),(.sl 0 true []),(.sl 0 true [])]),(2, .var 45 [(.int .i64 (7:Int)),(.str ⟨#[]⟩),(.bs 1 3 3 0 ([]:LB).length),(.bs 4 4 4 0 ([]:LN).length)]),(3, .row 9 (([]:LB).map sc).flatten),(4, .row 45 (([]:LN).map Node.cells).flatten)]) (xs:= [(.ptr 0 0 0),(.ptr 2 2 0),(.str (⟨#[99,108,97,115,115]⟩:BA))]) (qc _ _ _ _ _ _ _ hx) [0,2,3,4] [0,2,3,4] rfl rfl rfl rfl rfl rfl) (qg (qq _) (qg (qq _) (qg (qq _) jb))) (qf (qf (je (qd (qk _) (qd (qk _) (qd (ze rfl) (qd (ze rfl) jw)))) (zq _)))))))
 refine qb (ACalls.ghost (e:=9) (ACalls.ghost (e:=45) (ACalls.wkg (AC.go (objs:= [(0, .var 130 (Reader.cells a0)),(1, .var 45 [(.int .i64 0),(.str ⟨#[]⟩),(.sl 0 true []),(.sl 0 true [])]),(2, .var 45 [(.int .i64 (7:Int)),(.str ⟨#[]⟩),(.bs 1 3 3 0 ([]:LB).length),(.bs 4 4 4 0 ([]:LN).length)]),(3, .row 9 (([]:LB).map sc).flatten),(4, .row 45 (([]:LN).map Node.cells).flatten)]) (xs:= [(.ptr 0 0 0),(.ptr 2 2 0),(.str (⟨#[99,108,97,115,115]⟩:BA))]) (qc _ _ _ _ _ _ _ hx) [0,2,3,4] [0,2,3,4] rfl rfl rfl rfl rfl rfl rfl rfl rfl) (qg (qq _) (qg (qq _) (qg (qq _) jb))) (qf (qf (je (qd (qk _) (qd (qk _) (qd (ze rfl) (qd (ze rfl) jw)))) (zq _))))))) ?_
 refine kr [12] ?_
 obtain ⟨x2,hx,h⟩:=bind_some h
 rcases x2 with ee | x2
 ·replace h:some (.error ee)=some r:=h
  cases h
  exact zi (FC.go (zj _ _ _ _ _ _ hx) [0,2,3,4] [0,2,5,4] rfl rfl rfl rfl rfl rfl)
 refine qb (AC.g9 (zj _ _ _ _ _ _ hx) [0,2,3,4] [0,2,5,4]) ?_
 refine kr [12] ?_
 obtain ⟨x3,hx,h⟩:=bind_some h
 refine qb (AC.g9 (zh _ _ _ hx) [0] [0]) ?_
 refine kr [12] ?_
 refine qe (fun hb=> ?_) (fun hb=> ?_)
 ·replace h:=ql hb h
  refine kr [12] ?_
  obtain ⟨x4,hx,h⟩:=bind_some h
  rcases x4 with ee | x4
  ·replace h:some (.error ee)=some r:=h
   cases h
   exact zi (FCalls.ghost (e:=9) (FCalls.ghost (e:=45) (FCalls.wkg (FC.go (objs:= [(0, .var 130 (Reader.cells x2.1)),(1, .var 45 [(.int .i64 0),(.str ⟨#[]⟩),(.sl 0 true []),(.sl 0 true [])]),(2, .var 45 [(.int .i64 (7:Int)),(.str x2.2.1),(.bs 1 3 6 0 x2.2.2.length),(.bs 4 4 4 0 ([]:LN).length)]),(6, .row 9 (x2.2.2.map sc).flatten),(4, .row 45 (([]:LN).map Node.cells).flatten),(7, .var 45 [(.int .i64 (8:Int)),(.str ⟨#[]⟩),(.bs 1 6 8 0 ([]:LB).length),(.bs 4 7 9 0 ([]:LN).length)]),(8, .row 9 (([]:LB).map sc).flatten),(9, .row 45 (([]:LN).map Node.cells).flatten)]) (xs:= [(.ptr 0 0 0),(.ptr 5 7 0),(.str (⟨#[58]⟩:BA))]) (qc _ _ _ _ _ _ _ hx) [0,5,6,7] [0,7,8,9] rfl rfl rfl rfl rfl rfl) (qg (qq _) (qg (qq _) (qg (qq _) jb))) (qf (qf (qf (qf (qf (je (qd (qk _) (qd (qk _) (qd (ze rfl) (qd (ze rfl) jw)))) (zq _))))))))))
  refine qb (ACalls.ghost (e:=9) (ACalls.ghost (e:=45) (ACalls.wkg (AC.go (objs:= [(0, .var 130 (Reader.cells x2.1)),(1, .var 45 [(.int .i64 0),(.str ⟨#[]⟩),(.sl 0 true []),(.sl 0 true [])]),(2, .var 45 [(.int .i64 (7:Int)),(.str x2.2.1),(.bs 1 3 6 0 x2.2.2.length),(.bs 4 4 4 0 ([]:LN).length)]),(6, .row 9 (x2.2.2.map sc).flatten),(4, .row 45 (([]:LN).map Node.cells).flatten),(7, .var 45 [(.int .i64 (8:Int)),(.str ⟨#[]⟩),(.bs 1 6 8 0 ([]:LB).length),(.bs 4 7 9 0 ([]:LN).length)]),(8, .row 9 (([]:LB).map sc).flatten),(9, .row 45 (([]:LN).map Node.cells).flatten)]) (xs:= [(.ptr 0 0 0),(.ptr 5 7 0),(.str (⟨#[58]⟩:BA))]) (qc _ _ _ _ _ _ _ hx) [0,5,6,7] [0,7,8,9] rfl rfl rfl rfl rfl rfl rfl rfl rfl) (qg (qq _) (qg (qq _) (qg (qq _) jb))) (qf (qf (qf (qf (qf (je (qd (qk _) (qd (qk _) (qd (ze rfl) (qd (ze rfl) jw)))) (zq _)))))))))) ?_
  refine kr [12] ?_
  obtain ⟨x5,hx,h⟩:=bind_some h
  rcases x5 with ee | x5
  ·replace h:some (.error ee)=some r:=h
   cases h
   exact zi (FC.go (zj _ _ _ _ _ _ hx) [0,5,6,7] [0,7,10,9] rfl rfl rfl rfl rfl rfl)
  refine qb (AC.g9 (zj _ _ _ _ _ _ hx) [0,5,6,7] [0,7,10,9]) ?_
  refine kr [12] ?_
  refine K3 5 2 6 zp rfl rfl rfl rfl rfl rfl ?_
  refine K3 5 3 7 qo rfl rfl rfl rfl rfl rfl ?_
  exact qx (by kernel_rfl) rfl lQ (Yo _ _ _ _ _ _ _ h)
 replace h:=qm hb h
 refine kr [12] ?_
 exact qx (by kernel_rfl) rfl lQ (Yo _ _ _ _ _ _ _ h)
mutual
def zw (o0:Reader) (o2_0:Int) (o2_1:BA) (o2_2:LB) (o2_3:LN):Option (Except Int (Node × Reader)):=
 zy (qa o0) >>=fun x1=>
 if (!decide (x1.Kind=(4:Int)))=true then
  zd (qa o0) (⟨#[102,110]⟩:BA) >>=fun x2=>
  if x2=true then
   y8 (qa o0) >>=fun x3=>
   match x3 with
   | .error ee=>some (.error ee)
   | .ok x3=>
   zu (qa o2_0) (qa o2_1) (qa o2_2) (qa o2_3) x3.1 >>=fun x4=>
   yr x3.2 (qa o2_0) (qa o2_1) (qa o2_2) (qa x4)
  else
   zd (qa o0) (⟨#[99,108,97,115,115]⟩:BA) >>=fun x5=>
   if x5=true then
    uh (qa o0) >>=fun x6=>
    match x6 with
    | .error ee=>some (.error ee)
    | .ok x6=>
    zu (qa o2_0) (qa o2_1) (qa o2_2) (qa o2_3) x6.1 >>=fun x7=>
    yq x6.2 (qa o2_0) (qa o2_1) (qa o2_2) (qa x7)
   else
    zd (qa o0) (⟨#[99,111,110,115,116]⟩:BA) >>=fun x8=>
    if x8=true then
     ug (qa o0) (9:Int) (⟨#[99,111,110,115,116]⟩:BA) >>=fun x9=>
     match x9 with
     | .error ee=>some (.error ee)
     | .ok x9=>
     zu (qa o2_0) (qa o2_1) (qa o2_2) (qa o2_3) x9.1 >>=fun x10=>
     y9 x9.2 (qa o2_0) (qa o2_1) (qa o2_2) (qa x10)
    else
     k7 (qa o0) >>=fun x11=>
     match x11 with
     | .error ee=>some (.error ee)
     | .ok x11=>
     y9 (qa o0) (qa o2_0) (qa o2_1) (qa o2_2) (qa o2_3)
 else
  zy (qa o0) >>=fun x12=>
  app 16 o2_2 ([x12.Lead]) >>=fun x13=>
  some (.ok ((Node.mk o2_0 o2_1 x13 o2_3),o0))
 partial_fixpoint
def yr (o0:Reader) (o2_0:Int) (o2_1:BA) (o2_2:LB) (o2_3:LN):Option (Except Int (Node × Reader)):=
 zw (qa o0) (qa o2_0) (qa o2_1) (qa o2_2) (qa o2_3)
 partial_fixpoint
def yq (o0:Reader) (o2_0:Int) (o2_1:BA) (o2_2:LB) (o2_3:LN):Option (Except Int (Node × Reader)):=
 yr (qa o0) (qa o2_0) (qa o2_1) (qa o2_2) (qa o2_3)
 partial_fixpoint
def y9 (o0:Reader) (o2_0:Int) (o2_1:BA) (o2_2:LB) (o2_3:LN):Option (Except Int (Node × Reader)):=
 yq (qa o0) (qa o2_0) (qa o2_1) (qa o2_2) (qa o2_3)
 partial_fixpoint
end
@[reducible] def Zp (o0:Reader) (o2_0:Int) (o2_1:BA) (o2_2:LB) (o2_3:LN) (r:Except Int (Node × Reader)):Prop:=
  Ok Tryz.prog G tt 38 1 (exq (fun (r:Node × Reader)=>Ret Tryz.prog [.cell 2 45] (fun y H=>vj Tryz.prog G 1 H y (.agg (z7 r.1)) ⟨1, [(0, .var 130 (Reader.cells r.2))]⟩)) (fun e=>Yq (flt e)) r) (.again (ju [11,17,23] Tryz.f55 0).1 (ju [11,17,23] Tryz.f55 0).2 (.n (.ptr 0 0 0) (.n .undef (.n (.ptr 2 2 0) .z .z) .z) (.n (.ptr 1 1 0) .z .z)) 5 [(0, .var 130 (Reader.cells o0)),(1, .var 45 [(.int .i64 0),(.str ⟨#[]⟩),(.sl 0 true []),(.sl 0 true [])]),(2, .var 45 [(.int .i64 o2_0),(.str o2_1),(.bs 1 3 3 0 o2_2.length),(.bs 4 4 4 0 o2_3.length)]),(3, .row 9 (o2_2.map sc).flatten),(4, .row 45 (o2_3.map Node.cells).flatten)])
@[reducible] def Zc (o0:Reader) (o2_0:Int) (o2_1:BA) (o2_2:LB) (o2_3:LN) (r:Except Int (Node × Reader)):Prop:=
  Ok Tryz.prog G tt 38 1 (exq (fun (r:Node × Reader)=>Ret Tryz.prog [.cell 2 45] (fun y H=>vj Tryz.prog G 1 H y (.agg (z7 r.1)) ⟨1, [(0, .var 130 (Reader.cells r.2))]⟩)) (fun e=>Yq (flt e)) r) (.go [] (v8 [11,17,23] Tryz.f55 11) [] (.n (.ptr 0 0 0) (.n .undef (.n (.ptr 2 2 0) .z .z) .z) (.n (.ptr 1 1 0) .z .z)) 6 [(0, .var 130 (Reader.cells o0)),(1, .var 45 [(.int .i64 0),(.str ⟨#[]⟩),(.sl 0 true []),(.sl 0 true [])]),(2, .var 45 [(.int .i64 o2_0),(.str o2_1),(.bs 1 3 3 0 o2_2.length),(.bs 4 4 5 0 o2_3.length)]),(3, .row 9 (o2_2.map sc).flatten),(5, .row 45 (o2_3.map Node.cells).flatten)])
@[reducible] def Zb (o0:Reader) (o2_0:Int) (o2_1:BA) (o2_2:LB) (o2_3:LN) (r:Except Int (Node × Reader)):Prop:=
  Ok Tryz.prog G tt 38 1 (exq (fun (r:Node × Reader)=>Ret Tryz.prog [.cell 2 45] (fun y H=>vj Tryz.prog G 1 H y (.agg (z7 r.1)) ⟨1, [(0, .var 130 (Reader.cells r.2))]⟩)) (fun e=>Yq (flt e)) r) (.go [] (v8 [11,17,23] Tryz.f55 17) [] (.n (.ptr 0 0 0) (.n .undef (.n (.ptr 2 2 0) .z .z) .z) (.n (.ptr 1 1 0) .z .z)) 6 [(0, .var 130 (Reader.cells o0)),(1, .var 45 [(.int .i64 0),(.str ⟨#[]⟩),(.sl 0 true []),(.sl 0 true [])]),(2, .var 45 [(.int .i64 o2_0),(.str o2_1),(.bs 1 3 3 0 o2_2.length),(.bs 4 4 5 0 o2_3.length)]),(3, .row 9 (o2_2.map sc).flatten),(5, .row 45 (o2_3.map Node.cells).flatten)])
@[reducible] def Za (o0:Reader) (o2_0:Int) (o2_1:BA) (o2_2:LB) (o2_3:LN) (r:Except Int (Node × Reader)):Prop:=
  Ok Tryz.prog G tt 38 1 (exq (fun (r:Node × Reader)=>Ret Tryz.prog [.cell 2 45] (fun y H=>vj Tryz.prog G 1 H y (.agg (z7 r.1)) ⟨1, [(0, .var 130 (Reader.cells r.2))]⟩)) (fun e=>Yq (flt e)) r) (.go [] (v8 [11,17,23] Tryz.f55 23) [] (.n (.ptr 0 0 0) (.n .undef (.n (.ptr 2 2 0) .z .z) .z) (.n (.ptr 1 1 0) .z .z)) 6 [(0, .var 130 (Reader.cells o0)),(1, .var 45 [(.int .i64 0),(.str ⟨#[]⟩),(.sl 0 true []),(.sl 0 true [])]),(2, .var 45 [(.int .i64 o2_0),(.str o2_1),(.bs 1 3 3 0 o2_2.length),(.bs 4 4 5 0 o2_3.length)]),(3, .row 9 (o2_2.map sc).flatten),(5, .row 45 (o2_3.map Node.cells).flatten)])
theorem u1:PC5 Zp zw∧PC5 Za y9∧PC5 Zb yq∧PC5 Zc yr:=by
 refine zw.mutual_partial_correctness Zp Za Zb Zc (fun y9 yq yr Zf vc vd o0 o2_0 o2_1 o2_2 o2_3 r h=> ?_) (fun yq vc o0 o2_0 o2_1 o2_2 o2_3 r h=> ?_) (fun yr vd o0 o2_0 o2_1 o2_2 o2_3 r h=> ?_) (fun zw Zs o0 o2_0 o2_1 o2_2 o2_3 r h=> ?_)
 ·unfold qa at h
  refine yb ?_
  refine kr [11,17,23] ?_
  obtain ⟨x1,hx,h⟩:=bind_some h
  refine qb (AC.g9 (jv _ _ hx) [0] [0]) ?_
  refine kr [11,17,23] ?_
  refine qe (fun hb=> ?_) (fun hb=> ?_)
  ·replace h:=ql hb h
   refine kr [11,17,23] ?_
   obtain ⟨x2,hx,h⟩:=bind_some h
   refine qb (AC.g9 (zh _ _ _ hx) [0] [0]) ?_
   refine kr [11,17,23] ?_
   refine qe (fun hb=> ?_) (fun hb=> ?_)
   ·replace h:=ql hb h
    refine kr [11,17,23] ?_
    obtain ⟨x3,hx,h⟩:=bind_some h
    rcases x3 with ee | x3
    ·replace h:some (.error ee)=some r:=h
     cases h
     exact zi (FC.go (u9 _ _ hx) [0] [0] rfl rfl rfl rfl rfl rfl)
    refine qb (AC.g9 (u9 _ _ hx) [0] [0]) ?_
    refine kr [11,17,23] ?_
    obtain ⟨x4,hx,h⟩:=bind_some h
    refine qb (AC.g9 (zv _ _ _ _ _ _ hx) [2,3,4] [2,3,4]) ?_
    refine kr [11,17,23] ?_
    exact qx (by kernel_rfl) rfl lQ (vd _ _ _ _ _ _ h)
   replace h:=qm hb h
   refine kr [11,17,23] ?_
   obtain ⟨x5,hx,h⟩:=bind_some h
   refine qb (AC.g9 (zh _ _ _ hx) [0] [0]) ?_
   refine kr [11,17,23] ?_
   refine qe (fun hb=> ?_) (fun hb=> ?_)
   ·replace h:=ql hb h
    refine kr [11,17,23] ?_
    obtain ⟨x6,hx,h⟩:=bind_some h
    rcases x6 with ee | x6
    ·replace h:some (.error ee)=some r:=h
     cases h
     exact zi (FC.go (Wo _ _ hx) [0] [0] rfl rfl rfl rfl rfl rfl)
    refine qb (AC.g9 (Wo _ _ hx) [0] [0]) ?_
    refine kr [11,17,23] ?_
    obtain ⟨x7,hx,h⟩:=bind_some h
    refine qb (AC.g9 (zv _ _ _ _ _ _ hx) [2,3,4] [2,3,4]) ?_
    refine kr [11,17,23] ?_
    exact qx (by kernel_rfl) rfl lQ (vc _ _ _ _ _ _ h)
   replace h:=qm hb h
   refine kr [11,17,23] ?_
   obtain ⟨x8,hx,h⟩:=bind_some h
   refine qb (AC.g9 (zh _ _ _ hx) [0] [0]) ?_
   refine kr [11,17,23] ?_
   refine qe (fun hb=> ?_) (fun hb=> ?_)
   ·replace h:=ql hb h
    refine kr [11,17,23] ?_
    obtain ⟨x9,hx,h⟩:=bind_some h
    rcases x9 with ee | x9
    ·replace h:some (.error ee)=some r:=h
     cases h
     exact zi (FC.go (Ql _ _ _ _ hx) [0] [0] rfl rfl rfl rfl rfl rfl)
    refine qb (AC.g9 (Ql _ _ _ _ hx) [0] [0]) ?_
    refine kr [11,17,23] ?_
    obtain ⟨x10,hx,h⟩:=bind_some h
    refine qb (AC.g9 (zv _ _ _ _ _ _ hx) [2,3,4] [2,3,4]) ?_
    refine kr [11,17,23] ?_
    exact qx (by kernel_rfl) rfl lQ (Zf _ _ _ _ _ _ h)
   replace h:=qm hb h
   refine kr [11,17,23] ?_
   obtain ⟨x11,hx,h⟩:=bind_some h
   rcases x11 with ee | x11
   ·replace h:some (.error ee)=some r:=h
    cases h
    exact zi (FC.go (y0 _ _ hx) [0] [0] rfl rfl rfl rfl rfl rfl)
   refine qb (AC.g9 (y0 _ _ hx) [0] [0]) ?_
   refine kr [11,17,23] ?_
   exact qx (by kernel_rfl) rfl lQ (Zf _ _ _ _ _ _ h)
  replace h:=qm hb h
  refine kr [11,17,23] ?_
  obtain ⟨x12,hx,h⟩:=bind_some h
  refine qb (AC.g9 (jv _ _ hx) [0] [0]) ?_
  refine kr [11,17,23] ?_
  obtain ⟨x13,hx,h⟩:=bind_some h
  have hp_x13:=qav hx (by simp)
  refine qbv (C:=sc) env hx rfl rfl (by simp) (fun _=>rfl) rfl rfl rfl rfl rfl (by decide) rfl rfl rfl ?_
  refine kr [11,17,23] ?_
  cases h
  exact yp env rfl rfl (tS [some 0] (sV (lS (lS lN)) q8) (yf (kw (qi (qh (zo rfl) rfl) (qi (qh (z6 rfl) rfl) (qi (qh (jm zp rfl) rfl) (qi (qh (jm qo rfl) rfl) kv))))) (by simp)))
 ·unfold qa at h
  refine kr [11,17,23] ?_
  exact qx (by kernel_rfl) rfl lQ (vc _ _ _ _ _ _ h)
 ·unfold qa at h
  refine kr [11,17,23] ?_
  exact qx (by kernel_rfl) rfl lQ (vd _ _ _ _ _ _ h)
 unfold qa at h
 refine kr [11,17,23] ?_
 exact ja (by kernel_rfl) lQ (Zs _ _ _ _ _ _ h)
theorem Zs:PC5 Zp zw:=u1.1
theorem Zf:PC5 Za y9:=u1.2.1
theorem vc:PC5 Zb yq:=u1.2.2.1
theorem vd:PC5 Zc yr:=u1.2.2.2
def Zz (a0:Reader):Option (Except Int (Node × Reader)):=
 zw a0 (1:Int) (⟨#[]⟩) ([]:LB) ([]:LN)
@[reducible] def qfr (a0:Reader) (r:Except Int (Node × Reader)):Prop:=
  exq (fun (r:Node × Reader)=>AC Tryz.prog G 55 [(.ptr 0 0 0)] 1 [(0, .var 130 (Reader.cells a0))] (.agg (z7 r.1)) 1 [(0, .var 130 (Reader.cells r.2))]) (fun e=>FC Tryz.prog G 55 [(.ptr 0 0 0)] 1 [(0, .var 130 (Reader.cells a0))] (flt e)) r
theorem qab:PC1 qfr Zz:=fun a0 r h=>by
 rw [Zz.eq_def] at h
 refine W6 (T:=tt) (N:=38) (rs:= [.cell 2 45]) (fun vs w=>by simp) Tryz.func55 rfl rfl rfl (by kernel_rfl) (by kernel_rfl) (zm rfl rfl j3) (qj zg) (fun r=>(zn rfl j6)) (fun r=>(qj zg)) (fun _=>rfl) (fun _=>rfl) rfl (fun _=>rfl) ?_
 refine kr [11,17,23] ?_
 refine q08 2 2 1 9 rfl rfl rfl ?_
 refine q08 2 3 4 45 rfl rfl rfl ?_
 exact jr (by kernel_rfl) lQ (Zs _ _ _ _ _ _ h)
end Go.Proofs.YtpnkemogepoioaaGreatDoorW.Ex.Gr
