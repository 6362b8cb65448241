/- The functions of the program's layer 9 and of its references, printed as functions on numbers, strings, lists and trees, with the proofs that they are what the code computes. Conditions: those in each theorem. -/
import Derived.Test.YtpnkemogepoioaaGreatDoorGh
import Derived.Test.YtpnkemogepoioaaGreatDoorYa
import Derived.Test.YtpnkemogepoioaaGreatDoorExZ
import Derived.Test.YtpnkemogepoioaaGreatDoorExF
import Derived.Test.YtpnkemogepoioaaGreatDoorT8
import Derived.Test.YtpnkemogepoioaaGreatDoorT0
import Derived.Test.YtpnkemogepoioaaGreatDoorM1
import Derived.Test.YtpnkemogepoioaaGreatDoorM2
namespace Go.Proofs.YtpnkemogepoioaaGreatDoorW.Ex.Gr
open Go Go.Proofs.YtpnkemogepoioaaGreatDoorW.Ex
set_option linter.all false
set_option maxRecDepth 100000
set_option synthInstance.maxSize 4000
set_option maxHeartbeats 4000000
open Go.Proofs.YtpnkemogepoioaaGreatDoorW.Plain
structure Token where
 Kind:Int
 Lead:ByteArray
 Text:ByteArray
 At:Int
def Token.cells (x:Token):List AV:= [(.int .i64 x.Kind),(.str x.Lead),(.str x.Text),(.int .i64 x.At)]
theorem Kg:CellsOk Token.cells 4:=⟨fun _=>rfl,by decide,fun a z hz=>by
 simp only [Token.cells,List.mem_cons,List.not_mem_nil,or_false] at hz
 rcases hz with rfl | rfl | rfl | rfl <;> exact ⟨rfl,rfl⟩⟩
structure Reader where
 l_:(List Token)
 at_:Int
def Reader.cells (x:Reader):List AV:= [(.sl 4 false (x.l_.map Token.cells)),(.int .i64 x.at_)]
structure Row where
 Parent:Int
 Kind:Int
 Text:ByteArray
 Gaps:(List ByteArray)
 Kids:(List Int)
def Row.cells (x:Row):List AV:= [(.int .i64 x.Parent),(.int .i64 x.Kind),(.str x.Text),(.sl 1 false (x.Gaps.map sc)),(.sl 1 false (x.Kids.map ic))]
theorem vo:CellsOk Row.cells 5:=⟨fun _=>rfl,by decide,fun a z hz=>by
 simp only [Row.cells,List.mem_cons,List.not_mem_nil,or_false] at hz
 rcases hz with rfl | rfl | rfl | rfl | rfl <;> exact ⟨rfl,rfl⟩⟩
structure File where
 Path:ByteArray
 Text:ByteArray
def File.cells (x:File):List AV:= [(.str x.Path),(.str x.Text)]
theorem qbn:CellsOk File.cells 2:=⟨fun _=>rfl,by decide,fun a z hz=>by
 simp only [File.cells,List.mem_cons,List.not_mem_nil,or_false] at hz
 rcases hz with rfl | rfl <;> exact ⟨rfl,rfl⟩⟩
structure Unit where
 Path:ByteArray
 Text:ByteArray
 Tree:Node
 Broken:Bool
def Unit.cells (x:Unit):List AV:= [(.str x.Path),(.str x.Text),(.int .i64 x.Tree.kind),(.str x.Tree.text),(.sl 1 false (x.Tree.gaps.map sc)),(.sl 4 false (x.Tree.kids.map Node.cells)),(.bool x.Broken)]
theorem Kf:CellsOk Unit.cells 7:=⟨fun _=>rfl,by decide,fun a z hz=>by
 simp only [Unit.cells,List.mem_cons,List.not_mem_nil,or_false] at hz
 rcases hz with rfl | rfl | rfl | rfl | rfl | rfl | rfl <;> exact ⟨rfl,rfl⟩⟩
structure Ref where
 Unit:Int
 Node:Int
structure Decl where
 Kind:Int
 Owner:ByteArray
 Name:ByteArray
 At:Ref
def Decl.cells (x:Decl):List AV:= [(.int .i64 x.Kind),(.str x.Owner),(.str x.Name),(.int .i64 x.At.Unit),(.int .i64 x.At.Node)]
theorem J3:CellsOk Decl.cells 5:=⟨fun _=>rfl,by decide,fun a z hz=>by
 simp only [Decl.cells,List.mem_cons,List.not_mem_nil,or_false] at hz
 rcases hz with rfl | rfl | rfl | rfl | rfl <;> exact ⟨rfl,rfl⟩⟩
@[reducible] def PC0 {R:Type} (M:R→Prop) (F:Option R):Prop:=∀r,F=some r→M r
@[reducible] def PC1 {A0 R:Type} (M:A0→R→Prop) (F:A0→Option R):Prop:=∀a0 r,F a0=some r→M a0 r
@[reducible] def PC2 {A0 A1 R:Type} (M:A0→A1→R→Prop) (F:A0→A1→Option R):Prop:=∀a0 a1 r,F a0 a1=some r→M a0 a1 r
@[reducible] def PC3 {A0 A1 A2 R:Type} (M:A0→A1→A2→R→Prop) (F:A0→A1→A2→Option R):Prop:=∀a0 a1 a2 r,F a0 a1 a2=some r→M a0 a1 a2 r
@[reducible] def PC4 {A0 A1 A2 A3 R:Type} (M:A0→A1→A2→A3→R→Prop) (F:A0→A1→A2→A3→Option R):Prop:=∀a0 a1 a2 a3 r,F a0 a1 a2 a3=some r→M a0 a1 a2 a3 r
@[reducible] def PC5 {A0 A1 A2 A3 A4 R:Type} (M:A0→A1→A2→A3→A4→R→Prop) (F:A0→A1→A2→A3→A4→Option R):Prop:=∀a0 a1 a2 a3 a4 r,F a0 a1 a2 a3 a4=some r→M a0 a1 a2 a3 a4 r
@[reducible] def PC6 {A0 A1 A2 A3 A4 A5 R:Type} (M:A0→A1→A2→A3→A4→A5→R→Prop) (F:A0→A1→A2→A3→A4→A5→Option R):Prop:=∀a0 a1 a2 a3 a4 a5 r,F a0 a1 a2 a3 a4 a5=some r→M a0 a1 a2 a3 a4 a5 r
@[reducible] def PC8 {A0 A1 A2 A3 A4 A5 A6 A7 R:Type} (M:A0→A1→A2→A3→A4→A5→A6→A7→R→Prop) (F:A0→A1→A2→A3→A4→A5→A6→A7→Option R):Prop:=∀a0 a1 a2 a3 a4 a5 a6 a7 r,F a0 a1 a2 a3 a4 a5 a6 a7=some r→M a0 a1 a2 a3 a4 a5 a6 a7 r
@[reducible] def PC9 {A0 A1 A2 A3 A4 A5 A6 A7 A8 R:Type} (M:A0→A1→A2→A3→A4→A5→A6→A7→A8→R→Prop) (F:A0→A1→A2→A3→A4→A5→A6→A7→A8→Option R):Prop:=∀a0 a1 a2 a3 a4 a5 a6 a7 a8 r,F a0 a1 a2 a3 a4 a5 a6 a7 a8=some r→M a0 a1 a2 a3 a4 a5 a6 a7 a8 r
@[reducible] def PC11 {A0 A1 A2 A3 A4 A5 A6 A7 A8 A9 A10 R:Type} (M:A0→A1→A2→A3→A4→A5→A6→A7→A8→A9→A10→R→Prop) (F:A0→A1→A2→A3→A4→A5→A6→A7→A8→A9→A10→Option R):Prop:=∀a0 a1 a2 a3 a4 a5 a6 a7 a8 a9 a10 r,F a0 a1 a2 a3 a4 a5 a6 a7 a8 a9 a10=some r→M a0 a1 a2 a3 a4 a5 a6 a7 a8 a9 a10 r
theorem Node.cells_eq (n:Node):n.cells=zo n:=Go.Proofs.YtpnkemogepoioaaGreatDoorW.Ex.Gr.cells_eq n
theorem Node.cells_len (n:Node):n.cells.length=4:=by rw [Node.cells_eq];rfl
theorem ze:CellsOk Node.cells 4:=⟨Node.cells_len,by decide,fun n z hz=>by
 rw [Node.cells_eq] at hz
 simp only [List.mem_cons,List.not_mem_nil,or_false] at hz
 rcases hz with rfl | rfl | rfl | rfl <;> exact ⟨rfl,rfl⟩⟩
mutual
def wfB:Node→Bool
 | .mk _ t g l=>decide (l.length≤9223372036854775807) && decide (g.length≤9223372036854775807) && decide (t.size≤9223372036854775807) && g.all (fun s=>decide (s.size≤9223372036854775807)) && wfBL l
def wfBL:List Node→Bool
 | []=>true
 | n::l=>wfB n && wfBL l
end
mutual
theorem qwt:∀n:Node,wfB n=true→Wf n
 | .mk k t g l,h=>by
   simp only [wfB,Bool.and_eq_true,decide_eq_true_eq,List.all_eq_true] at h
   exact .mk _ h.1.1.1.1 h.1.1.1.2 h.1.1.2 h.1.2 (qtj l h.2)
theorem qtj:∀l:List Node,wfBL l=true→∀m∈l,Wf m
 | [],_,m,hm=>by cases hm
 | n::l,h,m,hm=>by
   simp only [wfBL,Bool.and_eq_true] at h
   rcases List.mem_cons.1 hm with e | hm
   ·rw [e];exact qwt n h.1
   exact qtj l h.2 m hm
end
def Qr (n:Node):Option Int:=if wfB n=true then some (checkErr n) else none
theorem qhx (n:Node) (r:Int) (h:Qr n=some r):Fn Tryz.prog G 44 [.agg (zo n)] (.int .i64 r):=by
 unfold Qr at h
 split at h
 ·rename_i hc;cases h;exact qmh n (qwt n hc)
 cases h
def yf (s:ByteArray) (c:Int):Option Int:=some (Lib.indexByte s.data.toList c.toNat.toUInt8)
theorem yt (s:ByteArray) (c:Int) (r:Int) (h:yf s c=some r):Fn Tryz.prog G 147 [.str s, .int .u8 c] (.int .i64 r):=by
 cases h;exact qbb s c
def J1 (s:ByteArray) (a:Int):Option Int:=if s.size≤9223372036854775807 then some (qln s a) else none
theorem ql5 (s:ByteArray) (a:Int) (r:Int) (h:J1 s a=some r):Fn Tryz.prog G 119 [.str s, .int .i64 a] (.int .i64 r):=by
 unfold J1 at h
 split at h
 ·rename_i hc;cases h;exact qkf s a hc
 cases h
def Ym (s:ByteArray):Option Bool:=if s.size≤281474976710656 then some (Y4 s.data.toList) else none
theorem qhv (s:ByteArray) (r:Bool) (h:Ym s=some r):Fn Tryz.prog G 152 [.str s] (.bool r):=by
 unfold Ym at h
 split at h
 ·rename_i hc;cases h;exact qmc s hc
 cases h
def Kq (s:ByteArray):Option Bool:=some (qat s.data.toList)
theorem qem (s:ByteArray) (r:Bool) (h:Kq s=some r):Fn Tryz.prog G 143 [.str s] (.bool r):=by
 cases h;exact qkz s
theorem qhw (r:List (Int × Int)) (h:W2=some r):Fn Tryz.prog G 34 [] (.mp .i64 .i64 r):=by cases h;exact qmf
def qeq (s:ByteArray):Option Bool:=some (qfk s.data.toList)
theorem qmq (s:ByteArray) (r:Bool) (h:qeq s=some r):Fn Tryz.prog G 56 [.str s] (.bool r):=by
 cases h;exact qvw s
def uy (l:List ByteArray):Option (List ByteArray):=if l.length*16≤281474976710656 then some l else none
theorem qel (l:List ByteArray) (r:(List ByteArray)) (h:uy l=some r):Fn Tryz.prog G 91 [.sl 1 false (l.map sc)] (.sl 1 false (r.map sc)):=by
 unfold uy at h
 split at h
 ·rename_i hc;cases h;exact qsc l hc
 cases h
def flt (e:Int):List PanicEntry:= [{v:= .iface 127 (.int .i64 e),recovered:=false}]
abbrev LB:=List ByteArray
abbrev LN:=List Node
section
variable {ps:List (Nat × AV)} {k:List Item} {kn:List Nat} {fr fr':FT} {n n' N p m m' r n2:Nat} {objs objs' objs2 O O':Objs} {Q:Exit→Fr→Hp→Prop} {ρ:Nat→Nat}
theorem kr (bars:List Nat) {c:Cfg} (hc:Ok Tryz.prog G tt N p Q c) (h:runK tt G bars 2000 ps k kn fr n objs=some c:=by exact rfl):Ok Tryz.prog G tt N p Q (.go ps k kn fr n objs):=q0o env bars h hc
theorem kf {rs:List ResultVar} {y:AV} (hk:qfm k=true:=by exact rfl) (h:qgv tt fr objs rs qfl=some y:=by exact rfl):Ok Tryz.prog G tt N p (Ret Tryz.prog rs (fun z H=>Told Tryz.prog G H z y)) (.fin .ret k fr n objs):=jz env hk h (q9 rfl)
theorem lN:leC ρ m [] []:=qab
theorem lS {v u:AV} {vs us:List AV} (hs:leC ρ m vs us) (h:v=u.ren1 ρ:=by exact rfl) (hu:u.un1 m=true:=by exact rfl):leC ρ m (v::vs) (u::us):=qx3 h hu hs
theorem sV {i s':Nat} {e:TypeId} {cs cs':List AV} {l:List (Option Nat)} (hc:leC ρ m cs cs') (h:Ks ρ m objs l O') (ho:objs[i]? =some (ρ s', .var e cs):=by exact rfl) (hb:Nat.blt s' m=true:=by exact rfl):Ks ρ m objs (some i::l) ((s', .var e cs')::O'):=qvq ho hb hc h
theorem sR {α:Type} {C:α→List AV} {sz i s':Nat} {e:TypeId} {x:List α} {l:List (Option Nat)} (hC:CellsOk C sz) (h:Ks ρ m objs l O') (ho:objs[i]? =some (ρ s', .row e (x.map C).flatten):=by exact rfl) (hb:Nat.blt s' m=true:=by exact rfl):Ks ρ m objs (some i::l) ((s', .row e (x.map C).flatten)::O'):=qvr hC ho hb h
theorem tS {x y:AV} (sel:List (Option Nat)) (ho:Ks (rhoS objs sel O') m' objs sel O') (hx:resT objs' (rhoS objs sel O') m' y x) (hd:qg2 (sel.filterMap id) 0 objs some=some objs':=by exact rfl) (hn:qk8 sel=true:=by exact rfl) (hid:(List.range m).all (fun s=>Nat.beq (rhoS objs sel O' s) s)=true:=by exact rfl) (hle:Nat.ble m m'=true:=by exact rfl):Q5 Tryz.prog G m ⟨n,objs⟩ y x ⟨m',O'⟩:=qsd sel hd hn hid hle ho hx
theorem lA (hf:leFT (rho objs' objs) n' fr fr':=by first | (simp [Reader.cells] <;> (repeat' apply And.intro) <;> first | rfl | exact .inl ⟨rfl,rfl⟩ | exact qab | exact fun x a _ h=>(ze.all a x h).2 | exact fun x a _ h=>(qja.all a x h).2 | exact fun x a _ h=>(kv.all a x h).2 | exact fun x a _ h=>(W3.all a x h).2 | exact fun x a _ h=>(Kg.all a x h).2 | exact fun x a _ h=>(vo.all a x h).2 | exact fun x a _ h=>(J3.all a x h).2 | exact fun x a _ h=>(Kf.all a x h).2 | exact fun x a _ h=>(qbn.all a x h).2) | (simp [Reader.cells,Token.cells] <;> (repeat' apply And.intro) <;> first | rfl | exact .inl ⟨rfl,rfl⟩ | exact qab | exact fun x a _ h=>(ze.all a x h).2 | exact fun x a _ h=>(qja.all a x h).2 | exact fun x a _ h=>(kv.all a x h).2 | exact fun x a _ h=>(W3.all a x h).2 | exact fun x a _ h=>(Kg.all a x h).2 | exact fun x a _ h=>(vo.all a x h).2 | exact fun x a _ h=>(J3.all a x h).2 | exact fun x a _ h=>(Kf.all a x h).2 | exact fun x a _ h=>(qbn.all a x h).2)) (ho:leOs (rho objs' objs) n' objs objs':=by first | (simp [Reader.cells] <;> (repeat' apply And.intro) <;> first | rfl | exact .inl ⟨rfl,rfl⟩ | exact qab | exact fun x a _ h=>(ze.all a x h).2 | exact fun x a _ h=>(qja.all a x h).2 | exact fun x a _ h=>(kv.all a x h).2 | exact fun x a _ h=>(W3.all a x h).2 | exact fun x a _ h=>(Kg.all a x h).2 | exact fun x a _ h=>(vo.all a x h).2 | exact fun x a _ h=>(J3.all a x h).2 | exact fun x a _ h=>(Kf.all a x h).2 | exact fun x a _ h=>(qbn.all a x h).2) | (simp [Reader.cells,Token.cells] <;> (repeat' apply And.intro) <;> first | rfl | exact .inl ⟨rfl,rfl⟩ | exact qab | exact fun x a _ h=>(ze.all a x h).2 | exact fun x a _ h=>(qja.all a x h).2 | exact fun x a _ h=>(kv.all a x h).2 | exact fun x a _ h=>(W3.all a x h).2 | exact fun x a _ h=>(Kg.all a x h).2 | exact fun x a _ h=>(vo.all a x h).2 | exact fun x a _ h=>(J3.all a x h).2 | exact fun x a _ h=>(Kf.all a x h).2 | exact fun x a _ h=>(qbn.all a x h).2)):Less G N 0 (frT fr) ⟨n,objs⟩ (frT fr') ⟨n',objs'⟩:=qbg hf ho
theorem lQ (hf:leFT (rho objs' objs) n' fr fr':=by first | (simp [Reader.cells] <;> (repeat' apply And.intro) <;> first | rfl | exact .inl ⟨rfl,rfl⟩ | exact qab | exact fun x a _ h=>(ze.all a x h).2 | exact fun x a _ h=>(qja.all a x h).2 | exact fun x a _ h=>(kv.all a x h).2 | exact fun x a _ h=>(W3.all a x h).2 | exact fun x a _ h=>(Kg.all a x h).2 | exact fun x a _ h=>(vo.all a x h).2 | exact fun x a _ h=>(J3.all a x h).2 | exact fun x a _ h=>(Kf.all a x h).2 | exact fun x a _ h=>(qbn.all a x h).2) | (simp [Reader.cells,Token.cells] <;> (repeat' apply And.intro) <;> first | rfl | exact .inl ⟨rfl,rfl⟩ | exact qab | exact fun x a _ h=>(ze.all a x h).2 | exact fun x a _ h=>(qja.all a x h).2 | exact fun x a _ h=>(kv.all a x h).2 | exact fun x a _ h=>(W3.all a x h).2 | exact fun x a _ h=>(Kg.all a x h).2 | exact fun x a _ h=>(vo.all a x h).2 | exact fun x a _ h=>(J3.all a x h).2 | exact fun x a _ h=>(Kf.all a x h).2 | exact fun x a _ h=>(qbn.all a x h).2)) (ho:leOs (rho objs' objs) n' objs objs':=by first | (simp [Reader.cells] <;> (repeat' apply And.intro) <;> first | rfl | exact .inl ⟨rfl,rfl⟩ | exact qab | exact fun x a _ h=>(ze.all a x h).2 | exact fun x a _ h=>(qja.all a x h).2 | exact fun x a _ h=>(kv.all a x h).2 | exact fun x a _ h=>(W3.all a x h).2 | exact fun x a _ h=>(Kg.all a x h).2 | exact fun x a _ h=>(vo.all a x h).2 | exact fun x a _ h=>(J3.all a x h).2 | exact fun x a _ h=>(Kf.all a x h).2 | exact fun x a _ h=>(qbn.all a x h).2) | (simp [Reader.cells,Token.cells] <;> (repeat' apply And.intro) <;> first | rfl | exact .inl ⟨rfl,rfl⟩ | exact qab | exact fun x a _ h=>(ze.all a x h).2 | exact fun x a _ h=>(qja.all a x h).2 | exact fun x a _ h=>(kv.all a x h).2 | exact fun x a _ h=>(W3.all a x h).2 | exact fun x a _ h=>(Kg.all a x h).2 | exact fun x a _ h=>(vo.all a x h).2 | exact fun x a _ h=>(J3.all a x h).2 | exact fun x a _ h=>(Kf.all a x h).2 | exact fun x a _ h=>(qbn.all a x h).2)) (hid:∀s,s < p→rho objs' objs s=s:=by exact qsw rfl) (hp:p≤n':=by exact Nat.le_of_ble_eq_true rfl):Less G N p (frT fr) ⟨n,objs⟩ (frT fr') ⟨n',objs'⟩:=qx0 hid hp hf ho
theorem AC.g9 {f:FuncId} {xs xs0:List AV} {x y:AV} (h:AC Tryz.prog G f xs0 r O x m' O') (ids st:List Nat) (hnd:decide ids.Nodup=true:=by exact rfl) (hids:ids.length=O.length:=by exact rfl) (hst:st.length=r:=by exact rfl) (hstn:st.all (fun s=>Nat.blt s n)=true:=by exact rfl)
 (hxs:xs0.map (AV.mv (fun j=>ids.getD j 0) (fun s=>st.getD s 0))=xs:=by exact rfl) (hg:qc7 ids objs=some (O.map fun q=>(st.getD q.1 0,q.2.mvR (fun j=>ids.getD j 0) (fun s=>st.getD s 0))):=by exact rfl)
 (hy:qf8 (x.mv (fun j=>ids.getD j 0) (qbe (fun s=>st.getD s 0) r n)) some=some y:=by exact rfl) (hs:qgt ids (O'.map fun q=>(qbe (fun s=>st.getD s 0) r n q.1,q.2.mvR (fun j=>ids.getD j 0) (qbe (fun s=>st.getD s 0) r n))) objs some=some objs2:=by exact rfl) (hn:J6 (n+(m' - r)) some=some n2:=by exact rfl):ACalls Tryz.prog G f xs ⟨n,objs⟩ y ⟨n2,objs2⟩:=AC.go h ids st hnd hids hst hstn hxs hg hy hs hn
end
mutual
def ws (t0:BA) (t3:Int) (t4:Int):Option Bool:=
 if (decide (t4≤(t0.size:Int)))=true then
  if (decide (t4 < (t0.size:Int)))=true then
   sx t0 t4 >>=fun x1=>
   if (!decide (x1=(47:Int)))=true then
    ui (qa t0) (qa t3) (qa t4)
   else
    vl (qa t0) (qa t3) (qa t4)
  else
   vl (qa t0) (qa t3) (qa t4)
 else
  some true
 partial_fixpoint
def ui (t0:BA) (t3:Int) (t4:Int):Option Bool:=
 ws (qa t0) (qa t3) (IntKind.i64.wrap (t4+(1:Int)))
 partial_fixpoint
def vl (t0:BA) (t3:Int) (t4:Int):Option Bool:=
 ssub t0 t3 t4 >>=fun x2=>
 qeq (qa x2) >>=fun x3=>
 if (!x3)=true then
  some false
 else
  ui (qa t0) (IntKind.i64.wrap (t4+(1:Int))) (qa t4)
 partial_fixpoint
end
@[reducible] def K4 (t0:BA) (t3:Int) (t4:Int) (r:Bool):Prop:=
  Ok Tryz.prog G tt 36 0 (Ret Tryz.prog [.tmp 2] (fun y H=>Told Tryz.prog G H y (.bool r))) (.again (jy [1000001,27] Tryz.f31 0).1 (jy [1000001,27] Tryz.f31 0).2 (.n (.str t0) (.n .undef (.n (.int .i64 t3) .z .z) .z) (.n .undef (.n (.int .i64 t4) .z .z) .z)) 0 [])
@[reducible] def K5 (t0:BA) (t3:Int) (t4:Int) (r:Bool):Prop:=
  Ok Tryz.prog G tt 36 0 (Ret Tryz.prog [.tmp 2] (fun y H=>Told Tryz.prog G H y (.bool r))) (.go [] (qhm [1000001,27] Tryz.f31 1) [] (.n (.str t0) (.n .undef (.n (.int .i64 t3) .z .z) .z) (.n .undef (.n (.int .i64 t4) .z .z) .z)) 0 [])
@[reducible] def Kj (t0:BA) (t3:Int) (t4:Int) (r:Bool):Prop:=
  Ok Tryz.prog G tt 36 0 (Ret Tryz.prog [.tmp 2] (fun y H=>Told Tryz.prog G H y (.bool r))) (.go [] (Zg [1000001,27] Tryz.f31 27) [] (.n (.str t0) (.n .undef (.n (.int .i64 t3) .z .z) .z) (.n .undef (.n (.int .i64 t4) .z .z) .z)) 0 [])
theorem Ys:PC3 K4 ws∧PC3 Kj vl∧PC3 K5 ui:=by
 refine ws.mutual_partial_correctness K4 Kj K5 (fun vl ui Kl J0 t0 t3 t4 r h=> ?_) (fun ui J0 t0 t3 t4 r h=> ?_) (fun ws K7 t0 t3 t4 r h=> ?_)
 ·unfold qa at h
  refine yc ?_
  refine kr [1000001,27] ?_
  refine qf (fun hb=> ?_) (fun hb=> ?_)
  ·replace h:=qu hb h
   refine kr [1000001,27] ?_
   refine qk (fun hb=> ?_) (fun hb=> ?_)
   ·replace h:=qu hb h
    refine kr [1000001,27] ?_
    obtain ⟨x1,hx,h⟩:=bind_some h
    refine qs9 env hx rfl rfl rfl rfl ?_
    refine kr [1000001,27] ?_
    refine qf (fun hb=> ?_) (fun hb=> ?_)
    ·replace h:=qu hb h
     refine kr [1000001,27] ?_
     exact zb (by kernel_rfl) rfl lA (J0 _ _ _ _ h)
    replace h:=qv hb h
    refine kr [1000001,27] ?_
    exact zb (by kernel_rfl) rfl lA (Kl _ _ _ _ h)
   replace h:=qv hb h
   refine kr [1000001,27] ?_
   exact zb (by kernel_rfl) rfl lA (Kl _ _ _ _ h)
  replace h:=qv hb h
  refine kr [1000001,27] ?_
  cases h
  exact kf
 ·unfold qa at h
  refine kr [1000001,27] ?_
  obtain ⟨x2,hx,h⟩:=bind_some h
  refine qa1 env hx rfl rfl rfl rfl rfl ?_
  refine kr [1000001,27] ?_
  obtain ⟨x3,hx,h⟩:=bind_some h
  refine qp (qmq _ _ hx) ?_
  refine kr [1000001,27] ?_
  refine qf (fun hb=> ?_) (fun hb=> ?_)
  ·replace h:=qu hb h
   refine kr [1000001,27] ?_
   cases h
   exact kf
  replace h:=qv hb h
  refine kr [1000001,27] ?_
  exact zb (by kernel_rfl) rfl lA (J0 _ _ _ _ h)
 unfold qa at h
 refine kr [1000001,27] ?_
 exact zp (by kernel_rfl) lA (K7 _ _ _ _ h)
theorem K7:PC3 K4 ws:=Ys.1
theorem Kl:PC3 Kj vl:=Ys.2.1
theorem J0:PC3 K5 ui:=Ys.2.2
def Wp (a0:BA):Option Bool:=
 if (decide (a0=(⟨#[]⟩:BA)))=true then
  some false
 else
  if (decide ((64:Int) < (a0.size:Int)))=true then
   some false
  else
   ws a0 (0:Int) (0:Int)
@[reducible] def qmm (a0:BA) (r:Bool):Prop:=
  Fn Tryz.prog G 31 [(.str a0)] (.bool r)
theorem qmr:PC1 qmm Wp:=fun a0 r h=>by
 rw [Wp.eq_def] at h
 refine zu (T:=tt) (N:=36) (rs:= [.tmp 2]) (fun vs w=>by simp) Tryz.func31 rfl rfl rfl rfl (by kernel_rfl) (ya rfl) (zn _ rfl) ?_
 refine kr [1000001,27] ?_
 refine qq (fun hb=> ?_) (fun hb=> ?_)
 ·replace h:=qv hb h
  refine kr [1000001,27] ?_
  refine qf (fun hb=> ?_) (fun hb=> ?_)
  ·replace h:=qu hb h
   refine kr [1000001,27] ?_
   cases h
   exact kf
  replace h:=qv hb h
  refine kr [1000001,27] ?_
  exact jv (by kernel_rfl) lA (K7 _ _ _ _ h)
 replace h:=qu hb h
 refine kr [1000001,27] ?_
 cases h
 exact kf
def yp (a0:(List File)):Option Int:=
 match a0 with
 | []=>
   some (0:Int)
 | x_0::a0=>
   if (decide ((65536:Int) < (x_0.Text.size:Int)))=true then
    some (3:Int)
   else
    yp (qa a0)
 partial_fixpoint
@[reducible] def Wk (a0:(List File)) (r:Int):Prop:=
  ∀(l0:List File) (j0:Nat),l0.drop j0=a0→j0≤l0.length→l0.length≤9223372036854775807→Ok Tryz.prog G tt 55 0 (Ret Tryz.prog [.tmp 2] (fun y H=>Told Tryz.prog G H y (.int .i64 r))) (.again (jy [42] Tryz.f12 2).1 (jy [42] Tryz.f12 2).2 (.n .undef (.n .undef .z (.n .undef .z (.n .undef .z (.n .undef (.n (.int .i64 ((l0.map File.cells).length:Int)) .z .z) .z)))) (.n .undef (.n .undef .z (.n .undef .z (.n .undef (.n (.sl 2 false (l0.map File.cells)) .z .z) .z))) (.n .undef .z (.n .undef .z (.n .undef (.n (.int .i64 ((j0:Nat):Int)) .z .z) .z))))) 0 [])
theorem Jk:PC1 Wk yp:=by
 refine yp.partial_correctness Wk (fun yp Jk a0 r h=> ?_)
 unfold qa at h
 intro l0 j0 hl0 hj0 hm0
 refine yc ?_
 cases a0 with
 | nil=>
   have hb:=Ju (C:=File.cells) hl0 hj0
   refine kr [42] ?_
   refine qx hb ?_
   refine kr [42] ?_
   cases h
   exact kf
 | cons x_0 a0=>
   obtain ⟨hb,hx0,hd0,hk0,hw0⟩:=Zh (C:=File.cells) hl0 hm0
   refine kr [42] ?_
   refine qw hb ?_
   refine kr [42] ?_
   refine Ku env rfl rfl rfl rfl (m:=j0) rfl (Wg hx0 rfl) ?_
   refine kr [42] ?_
   refine qf (fun hb=> ?_) (fun hb=> ?_)
   ·replace h:=qu hb h
    refine kr [42] ?_
    cases h
    exact kf
   replace h:=qv hb h
   refine kr [42] ?_
   exact zp (by kernel_rfl) (qbg (by simp only [hw0];simp <;> (repeat' apply And.intro) <;> first | rfl) (by simp <;> (repeat' apply And.intro) <;> first | rfl)) (Jk _ _ h l0 (j0+1) hd0 hk0 hm0)
mutual
def jo (a0:(List File)) (j0:Nat) (t0:(List File)):Option Int:=
 match a0 with
 | []=>
   yp (qa t0)
 | x_0::a0=>
   if (decide ((0:Int) < ((j0:Nat):Int)))=true then
    ix t0 ((j0:Nat):Int) >>=fun x2=>
    ix t0 (IntKind.i64.wrap (((j0:Nat):Int) - (1:Int))) >>=fun x3=>
    if (Op.bytesLess x2.Path.toList x3.Path.toList || decide (x2.Path=x3.Path))=true then
     some (14:Int)
    else
     wj (qa a0) (qa j0) (qa t0)
   else
    wj (qa a0) (qa j0) (qa t0)
 partial_fixpoint
def wj (a0:(List File)) (j0:Nat) (t0:(List File)):Option Int:=
 jo (qa a0) (j0+1) (qa t0)
 partial_fixpoint
end
@[reducible] def Ji (a0:(List File)) (j0:Nat) (t0:(List File)) (r:Int):Prop:=
  ∀(l0:List File),l0.drop j0=a0→j0≤l0.length→l0.length≤9223372036854775807→Ok Tryz.prog G tt 55 0 (Ret Tryz.prog [.tmp 2] (fun y H=>Told Tryz.prog G H y (.int .i64 r))) (.again (jy [42] Tryz.f12 1).1 (jy [42] Tryz.f12 1).2 (.n (.sl 2 false (t0.map File.cells)) (.n .undef (.n .undef (.n .undef .z (.n (.int .i64 ((l0.map File.cells).length:Int)) .z .z)) .z) .z) (.n .undef (.n .undef (.n .undef .z (.n (.int .i64 ((j0:Nat):Int)) .z .z)) .z) (.n .undef .z (.n .undef (.n (.sl 2 false (l0.map File.cells)) .z .z) .z)))) 0 [])
@[reducible] def Z1 (a0:(List File)) (j0:Nat) (t0:(List File)) (r:Int):Prop:=
  ∀(l0:List File),l0.drop (j0+1)=a0→j0+1≤l0.length→l0.length≤9223372036854775807→Ok Tryz.prog G tt 55 0 (Ret Tryz.prog [.tmp 2] (fun y H=>Told Tryz.prog G H y (.int .i64 r))) (.go [] (Zg [42] Tryz.f12 42) [] (.n (.sl 2 false (t0.map File.cells)) (.n .undef (.n .undef (.n .undef .z (.n (.int .i64 ((l0.map File.cells).length:Int)) .z .z)) .z) .z) (.n .undef (.n .undef (.n .undef .z (.n (.int .i64 ((j0:Nat):Int)) .z .z)) .z) (.n .undef .z (.n .undef (.n (.sl 2 false (l0.map File.cells)) .z .z) .z)))) 0 [])
theorem Kr:PC3 Ji jo∧PC3 Z1 wj:=by
 refine jo.mutual_partial_correctness Ji Z1 (fun wj Z2 a0 j0 t0 r h=> ?_) (fun jo Jl a0 j0 t0 r h=> ?_)
 ·unfold qa at h
  intro l0 hl0 hj0 hm0
  refine yc ?_
  cases a0 with
  | nil=>
    have hb:=Ju (C:=File.cells) hl0 hj0
    refine kr [42] ?_
    refine qx hb ?_
    refine kr [42] ?_
    refine qae 44 rfl (fun hm=> ?_)
    exact jv (by kernel_rfl) lA (Jk _ _ h t0 0 rfl (Nat.zero_le _) (Zj hm))
  | cons x_0 a0=>
    obtain ⟨hb,hx0,hd0,hk0,hw0⟩:=Zh (C:=File.cells) hl0 hm0
    refine kr [42] ?_
    refine qw hb ?_
    refine kr [42] ?_
    refine qk (fun hb=> ?_) (fun hb=> ?_)
    ·replace h:=qu hb h
     refine kr [42] ?_
     obtain ⟨x2,hx,h⟩:=bind_some h
     refine je env hx rfl rfl rfl rfl rfl ?_
     refine kr [42] ?_
     obtain ⟨x3,hx,h⟩:=bind_some h
     refine je env hx rfl rfl rfl rfl rfl ?_
     refine kr [42] ?_
     refine qf (fun hb=> ?_) (fun hb=> ?_)
     ·replace h:=qu hb h
      refine kr [42] ?_
      cases h
      exact kf
     replace h:=qv hb h
     refine kr [42] ?_
     exact zb (by kernel_rfl) rfl lA (Z2 _ _ _ _ h l0 hd0 hk0 hm0)
    replace h:=qv hb h
    refine kr [42] ?_
    exact zb (by kernel_rfl) rfl lA (Z2 _ _ _ _ h l0 hd0 hk0 hm0)
 unfold qa at h
 intro l0 hd0 hk0 hm0
 have hw0:=Wa hk0 hm0
 refine kr [42] ?_
 exact zp (by kernel_rfl) (qbg (by simp only [hw0];simp <;> (repeat' apply And.intro) <;> first | rfl) (by simp <;> (repeat' apply And.intro) <;> first | rfl)) (Jl _ _ _ _ h l0 hd0 hk0 hm0)
theorem Jl:PC3 Ji jo:=Kr.1
theorem Z2:PC3 Z1 wj:=Kr.2
def wa (a0:(List File)) (t0:(List File)):Option Int:=
 match a0 with
 | []=>
   jo (qa t0) 0 (qa t0)
 | x_0::a0=>
   Wp x_0.Path >>=fun x1=>
   if (!x1)=true then
    some (4:Int)
   else
    wa (qa a0) (qa t0)
 partial_fixpoint
@[reducible] def Wl (a0:(List File)) (t0:(List File)) (r:Int):Prop:=
  ∀(l0:List File) (j0:Nat),l0.drop j0=a0→j0≤l0.length→l0.length≤9223372036854775807→Ok Tryz.prog G tt 55 0 (Ret Tryz.prog [.tmp 2] (fun y H=>Told Tryz.prog G H y (.int .i64 r))) (.again (jy [42] Tryz.f12 0).1 (jy [42] Tryz.f12 0).2 (.n (.sl 2 false (t0.map File.cells)) (.n .undef (.n .undef .z (.n (.sl 2 false (l0.map File.cells)) .z .z)) (.n .undef .z (.n (.int .i64 ((j0:Nat):Int)) .z .z))) (.n .undef (.n .undef .z (.n (.int .i64 ((l0.map File.cells).length:Int)) .z .z)) .z)) 0 [])
theorem Jm:PC2 Wl wa:=by
 refine wa.partial_correctness Wl (fun wa Jm a0 t0 r h=> ?_)
 unfold qa at h
 intro l0 j0 hl0 hj0 hm0
 refine yc ?_
 cases a0 with
 | nil=>
   have hb:=Ju (C:=File.cells) hl0 hj0
   refine kr [42] ?_
   refine qx hb ?_
   refine kr [42] ?_
   refine qae 22 rfl (fun hm=> ?_)
   exact jv (by kernel_rfl) lA (Jl _ _ _ _ h t0 rfl (Nat.zero_le _) (Zj hm))
 | cons x_0 a0=>
   obtain ⟨hb,hx0,hd0,hk0,hw0⟩:=Zh (C:=File.cells) hl0 hm0
   refine kr [42] ?_
   refine qw hb ?_
   refine kr [42] ?_
   refine Ku env rfl rfl rfl rfl (m:=j0) rfl (Wg hx0 rfl) ?_
   refine kr [42] ?_
   obtain ⟨x1,hx,h⟩:=bind_some h
   refine qp (qmr _ _ hx) ?_
   refine kr [42] ?_
   refine qf (fun hb=> ?_) (fun hb=> ?_)
   ·replace h:=qu hb h
    refine kr [42] ?_
    cases h
    exact kf
   replace h:=qv hb h
   refine kr [42] ?_
   exact zp (by kernel_rfl) (qbg (by simp only [hw0];simp <;> (repeat' apply And.intro) <;> first | rfl) (by simp <;> (repeat' apply And.intro) <;> first | rfl)) (Jm _ _ _ h l0 (j0+1) hd0 hk0 hm0)
def Qq (a0:(List File)):Option Int:=
 if (decide ((32:Int) < ((a0.map File.cells).length:Int)))=true then
  some (3:Int)
 else
  wa a0 a0
@[reducible] def qhu (a0:(List File)) (r:Int):Prop:=
  Fn Tryz.prog G 12 [(.sl 2 false (a0.map File.cells))] (.int .i64 r)
theorem qbl:PC1 qhu Qq:=fun a0 r h=>by
 rw [Qq.eq_def] at h
 refine zu (T:=tt) (N:=55) (rs:= [.tmp 2]) (fun vs w=>by simp) Tryz.func12 rfl rfl rfl rfl (by kernel_rfl) (ya rfl) (zn _ rfl) ?_
 refine kr [42] ?_
 refine qf (fun hb=> ?_) (fun hb=> ?_)
 ·replace h:=qu hb h
  refine kr [42] ?_
  cases h
  exact kf
 replace h:=qv hb h
 refine kr [42] ?_
 refine qae 11 rfl (fun hm=> ?_)
 exact jv (by kernel_rfl) lA (Jm _ _ _ h a0 0 rfl (Nat.zero_le _) (Zj hm))
def km (a0:BA) (a1:BA):Option Bool:=
 if (decide ((a1.size:Int)≤(a0.size:Int)))=true then
  ssub a0 (0:Int) (a1.size:Int) >>=fun x1=>
  some (decide (x1=a1))
 else
  some false
@[reducible] def Yp (a0:BA) (a1:BA) (r:Bool):Prop:=
  Fn Tryz.prog G 72 [(.str a0),(.str a1)] (.bool r)
theorem Yr:PC2 Yp km:=fun a0 a1 r h=>by
 rw [km.eq_def] at h
 refine zu (T:=tt) (N:=18) (rs:= [.tmp 4]) (fun vs w=>by simp) Tryz.func72 rfl rfl rfl rfl (by kernel_rfl) (ya rfl) (zn _ rfl) ?_
 refine kr [] ?_
 refine qk (fun hb=> ?_) (fun hb=> ?_)
 ·replace h:=qu hb h
  refine kr [] ?_
  obtain ⟨x1,hx,h⟩:=bind_some h
  refine qa1 env hx rfl rfl rfl rfl rfl ?_
  refine kr [] ?_
  cases h
  exact kf
 replace h:=qv hb h
 refine kr [] ?_
 cases h
 exact kf
def uj (a0:BA) (a1:BA):Option Bool:=
 km a0 a1 >>=fun x1=>
 some x1
@[reducible] def qdr (a0:BA) (a1:BA) (r:Bool):Prop:=
  Fn Tryz.prog G 47 [(.str a0),(.str a1)] (.bool r)
theorem Kv:PC2 qdr uj:=fun a0 a1 r h=>by
 rw [uj.eq_def] at h
 refine zu (T:=tt) (N:=8) (rs:= [.tmp 4]) (fun vs w=>by simp) Tryz.func47 rfl rfl rfl rfl (by kernel_rfl) (ya rfl) (zn _ rfl) ?_
 refine kr [] ?_
 obtain ⟨x1,hx,h⟩:=bind_some h
 refine qp (Yr _ _ _ hx) ?_
 refine kr [] ?_
 cases h
 exact kf
def yn  :Option Int:=
 some (0:Int)
@[reducible] def qgk  (r:Int):Prop:=
  Ok Tryz.prog G tt 29 0 (Ret Tryz.prog [.tmp 2] (fun y H=>Told Tryz.prog G H y (.int .i64 r))) (.go [] (Zg [3] Tryz.f112 3) [] .z 0 [])
theorem ky:PC0 qgk yn:=fun  r h=>by
 rw [yn.eq_def] at h
 refine kr [3] ?_
 cases h
 exact kf
def Q3 (a0:Int):Option Int:=
 if (decide ((48:Int)≤a0))=true then
  if (decide (a0≤(57:Int)))=true then
   some (1:Int)
  else
   if (decide ((97:Int)≤a0))=true then
    if (decide (a0≤(122:Int)))=true then
     some (2:Int)
    else
     if (decide ((65:Int)≤a0))=true then
      if (decide (a0≤(90:Int)))=true then
       some (2:Int)
      else
       if (decide (a0=(95:Int)))=true then
        some (2:Int)
       else
        yf (⟨#[40,41,123,125,44,59,58,46,61,60,43,45,42,47,33,38,124]⟩:BA) a0 >>=fun x1=>
        if (decide ((0:Int)≤x1))=true then
         some (3:Int)
        else
         yn 
     else
      if (decide (a0=(95:Int)))=true then
       some (2:Int)
      else
       yf (⟨#[40,41,123,125,44,59,58,46,61,60,43,45,42,47,33,38,124]⟩:BA) a0 >>=fun x2=>
       if (decide ((0:Int)≤x2))=true then
        some (3:Int)
       else
        yn 
   else
    if (decide ((65:Int)≤a0))=true then
     if (decide (a0≤(90:Int)))=true then
      some (2:Int)
     else
      if (decide (a0=(95:Int)))=true then
       some (2:Int)
      else
       yf (⟨#[40,41,123,125,44,59,58,46,61,60,43,45,42,47,33,38,124]⟩:BA) a0 >>=fun x3=>
       if (decide ((0:Int)≤x3))=true then
        some (3:Int)
       else
        yn 
    else
     if (decide (a0=(95:Int)))=true then
      some (2:Int)
     else
      yf (⟨#[40,41,123,125,44,59,58,46,61,60,43,45,42,47,33,38,124]⟩:BA) a0 >>=fun x4=>
      if (decide ((0:Int)≤x4))=true then
       some (3:Int)
      else
       yn 
 else
  if (decide ((97:Int)≤a0))=true then
   if (decide (a0≤(122:Int)))=true then
    some (2:Int)
   else
    if (decide ((65:Int)≤a0))=true then
     if (decide (a0≤(90:Int)))=true then
      some (2:Int)
     else
      if (decide (a0=(95:Int)))=true then
       some (2:Int)
      else
       yf (⟨#[40,41,123,125,44,59,58,46,61,60,43,45,42,47,33,38,124]⟩:BA) a0 >>=fun x5=>
       if (decide ((0:Int)≤x5))=true then
        some (3:Int)
       else
        yn 
    else
     if (decide (a0=(95:Int)))=true then
      some (2:Int)
     else
      yf (⟨#[40,41,123,125,44,59,58,46,61,60,43,45,42,47,33,38,124]⟩:BA) a0 >>=fun x6=>
      if (decide ((0:Int)≤x6))=true then
       some (3:Int)
      else
       yn 
  else
   if (decide ((65:Int)≤a0))=true then
    if (decide (a0≤(90:Int)))=true then
     some (2:Int)
    else
     if (decide (a0=(95:Int)))=true then
      some (2:Int)
     else
      yf (⟨#[40,41,123,125,44,59,58,46,61,60,43,45,42,47,33,38,124]⟩:BA) a0 >>=fun x7=>
      if (decide ((0:Int)≤x7))=true then
       some (3:Int)
      else
       yn 
   else
    if (decide (a0=(95:Int)))=true then
     some (2:Int)
    else
     yf (⟨#[40,41,123,125,44,59,58,46,61,60,43,45,42,47,33,38,124]⟩:BA) a0 >>=fun x8=>
     if (decide ((0:Int)≤x8))=true then
      some (3:Int)
     else
      yn 
@[reducible] def qjj (a0:Int) (r:Int):Prop:=
  Fn Tryz.prog G 112 [(.int .u8 a0)] (.int .i64 r)
theorem W1:PC1 qjj Q3:=fun a0 r h=>by
 rw [Q3.eq_def] at h
 refine zu (T:=tt) (N:=29) (rs:= [.tmp 2]) (fun vs w=>by simp) Tryz.func112 rfl rfl rfl rfl (by kernel_rfl) (ya rfl) (zn _ rfl) ?_
 refine kr [3] ?_
 refine qk (fun hb=> ?_) (fun hb=> ?_)
 ·replace h:=qu hb h
  refine kr [3] ?_
  refine qf (fun hb=> ?_) (fun hb=> ?_)
  ·replace h:=qu hb h
   refine kr [3] ?_
   cases h
   exact kf
  replace h:=qv hb h
  refine kr [3] ?_
  refine qk (fun hb=> ?_) (fun hb=> ?_)
  ·replace h:=qu hb h
   refine kr [3] ?_
   refine qf (fun hb=> ?_) (fun hb=> ?_)
   ·replace h:=qu hb h
    refine kr [3] ?_
    cases h
    exact kf
   replace h:=qv hb h
   refine kr [3] ?_
   refine qk (fun hb=> ?_) (fun hb=> ?_)
   ·replace h:=qu hb h
    refine kr [3] ?_
    refine qf (fun hb=> ?_) (fun hb=> ?_)
    ·replace h:=qu hb h
     refine kr [3] ?_
     cases h
     exact kf
    replace h:=qv hb h
    refine kr [3] ?_
    refine qf (fun hb=> ?_) (fun hb=> ?_)
    ·replace h:=qu hb h
     refine kr [3] ?_
     cases h
     exact kf
    replace h:=qv hb h
    refine kr [3] ?_
    obtain ⟨x1,hx,h⟩:=bind_some h
    refine qp (yt _ _ _ hx) ?_
    refine kr [3] ?_
    refine qf (fun hb=> ?_) (fun hb=> ?_)
    ·replace h:=qu hb h
     refine kr [3] ?_
     cases h
     exact kf
    replace h:=qv hb h
    refine kr [3] ?_
    exact zb (by kernel_rfl) rfl lA (ky _ h)
   replace h:=qv hb h
   refine kr [3] ?_
   refine qf (fun hb=> ?_) (fun hb=> ?_)
   ·replace h:=qu hb h
    refine kr [3] ?_
    cases h
    exact kf
   replace h:=qv hb h
   refine kr [3] ?_
   obtain ⟨x2,hx,h⟩:=bind_some h
   refine qp (yt _ _ _ hx) ?_
   refine kr [3] ?_
   refine qf (fun hb=> ?_) (fun hb=> ?_)
   ·replace h:=qu hb h
    refine kr [3] ?_
    cases h
    exact kf
   replace h:=qv hb h
   refine kr [3] ?_
   exact zb (by kernel_rfl) rfl lA (ky _ h)
  replace h:=qv hb h
  refine kr [3] ?_
  refine qk (fun hb=> ?_) (fun hb=> ?_)
  ·replace h:=qu hb h
   refine kr [3] ?_
   refine qf (fun hb=> ?_) (fun hb=> ?_)
   ·replace h:=qu hb h
    refine kr [3] ?_
    cases h
    exact kf
   replace h:=qv hb h
   refine kr [3] ?_
   refine qf (fun hb=> ?_) (fun hb=> ?_)
   ·replace h:=qu hb h
    refine kr [3] ?_
    cases h
    exact kf
   replace h:=qv hb h
   refine kr [3] ?_
   obtain ⟨x3,hx,h⟩:=bind_some h
   refine qp (yt _ _ _ hx) ?_
   refine kr [3] ?_
   refine qf (fun hb=> ?_) (fun hb=> ?_)
   ·replace h:=qu hb h
    refine kr [3] ?_
    cases h
    exact kf
   replace h:=qv hb h
   refine kr [3] ?_
   exact zb (by kernel_rfl) rfl lA (ky _ h)
  replace h:=qv hb h
  refine kr [3] ?_
  refine qf (fun hb=> ?_) (fun hb=> ?_)
  ·replace h:=qu hb h
   refine kr [3] ?_
   cases h
   exact kf
  replace h:=qv hb h
  refine kr [3] ?_
  obtain ⟨x4,hx,h⟩:=bind_some h
  refine qp (yt _ _ _ hx) ?_
  refine kr [3] ?_
  refine qf (fun hb=> ?_) (fun hb=> ?_)
  ·replace h:=qu hb h
   refine kr [3] ?_
   cases h
   exact kf
  replace h:=qv hb h
  refine kr [3] ?_
  exact zb (by kernel_rfl) rfl lA (ky _ h)
 replace h:=qv hb h
 refine kr [3] ?_
 refine qk (fun hb=> ?_) (fun hb=> ?_)
 ·replace h:=qu hb h
  refine kr [3] ?_
  refine qf (fun hb=> ?_) (fun hb=> ?_)
  ·replace h:=qu hb h
   refine kr [3] ?_
   cases h
   exact kf
  replace h:=qv hb h
  refine kr [3] ?_
  refine qk (fun hb=> ?_) (fun hb=> ?_)
  ·replace h:=qu hb h
   refine kr [3] ?_
   refine qf (fun hb=> ?_) (fun hb=> ?_)
   ·replace h:=qu hb h
    refine kr [3] ?_
    cases h
    exact kf
   replace h:=qv hb h
   refine kr [3] ?_
   refine qf (fun hb=> ?_) (fun hb=> ?_)
   ·replace h:=qu hb h
    refine kr [3] ?_
    cases h
    exact kf
   replace h:=qv hb h
   refine kr [3] ?_
   obtain ⟨x5,hx,h⟩:=bind_some h
   refine qp (yt _ _ _ hx) ?_
   refine kr [3] ?_
   refine qf (fun hb=> ?_) (fun hb=> ?_)
   ·replace h:=qu hb h
    refine kr [3] ?_
    cases h
    exact kf
   replace h:=qv hb h
   refine kr [3] ?_
   exact zb (by kernel_rfl) rfl lA (ky _ h)
  replace h:=qv hb h
  refine kr [3] ?_
  refine qf (fun hb=> ?_) (fun hb=> ?_)
  ·replace h:=qu hb h
   refine kr [3] ?_
   cases h
   exact kf
  replace h:=qv hb h
  refine kr [3] ?_
  obtain ⟨x6,hx,h⟩:=bind_some h
  refine qp (yt _ _ _ hx) ?_
  refine kr [3] ?_
  refine qf (fun hb=> ?_) (fun hb=> ?_)
  ·replace h:=qu hb h
   refine kr [3] ?_
   cases h
   exact kf
  replace h:=qv hb h
  refine kr [3] ?_
  exact zb (by kernel_rfl) rfl lA (ky _ h)
 replace h:=qv hb h
 refine kr [3] ?_
 refine qk (fun hb=> ?_) (fun hb=> ?_)
 ·replace h:=qu hb h
  refine kr [3] ?_
  refine qf (fun hb=> ?_) (fun hb=> ?_)
  ·replace h:=qu hb h
   refine kr [3] ?_
   cases h
   exact kf
  replace h:=qv hb h
  refine kr [3] ?_
  refine qf (fun hb=> ?_) (fun hb=> ?_)
  ·replace h:=qu hb h
   refine kr [3] ?_
   cases h
   exact kf
  replace h:=qv hb h
  refine kr [3] ?_
  obtain ⟨x7,hx,h⟩:=bind_some h
  refine qp (yt _ _ _ hx) ?_
  refine kr [3] ?_
  refine qf (fun hb=> ?_) (fun hb=> ?_)
  ·replace h:=qu hb h
   refine kr [3] ?_
   cases h
   exact kf
  replace h:=qv hb h
  refine kr [3] ?_
  exact zb (by kernel_rfl) rfl lA (ky _ h)
 replace h:=qv hb h
 refine kr [3] ?_
 refine qf (fun hb=> ?_) (fun hb=> ?_)
 ·replace h:=qu hb h
  refine kr [3] ?_
  cases h
  exact kf
 replace h:=qv hb h
 refine kr [3] ?_
 obtain ⟨x8,hx,h⟩:=bind_some h
 refine qp (yt _ _ _ hx) ?_
 refine kr [3] ?_
 refine qf (fun hb=> ?_) (fun hb=> ?_)
 ·replace h:=qu hb h
  refine kr [3] ?_
  cases h
  exact kf
 replace h:=qv hb h
 refine kr [3] ?_
 exact zb (by kernel_rfl) rfl lA (ky _ h)
def Zv (a0:Int):Option Bool:=
 Q3 a0 >>=fun x1=>
 if (decide (x1=(2:Int)))=true then
  some true
 else
  Q3 a0 >>=fun x2=>
  some (decide (x2=(1:Int)))
@[reducible] def qjh (a0:Int) (r:Bool):Prop:=
  Fn Tryz.prog G 71 [(.int .u8 a0)] (.bool r)
theorem qjo:PC1 qjh Zv:=fun a0 r h=>by
 rw [Zv.eq_def] at h
 refine zu (T:=tt) (N:=11) (rs:= [.tmp 2]) (fun vs w=>by simp) Tryz.func71 rfl rfl rfl rfl (by kernel_rfl) (ya rfl) (zn _ rfl) ?_
 refine kr [] ?_
 obtain ⟨x1,hx,h⟩:=bind_some h
 refine qp (W1 _ _ hx) ?_
 refine kr [] ?_
 refine qq (fun hb=> ?_) (fun hb=> ?_)
 ·replace h:=qv hb h
  refine kr [] ?_
  obtain ⟨x2,hx,h⟩:=bind_some h
  refine qp (W1 _ _ hx) ?_
  refine kr [] ?_
  cases h
  exact kf
 replace h:=qu hb h
 refine kr [] ?_
 cases h
 exact kf
def u4 (t3:Int):Option Int:=
 some t3
@[reducible] def qio (t3:Int) (r:Int):Prop:=
  Ok Tryz.prog G tt 17 0 (Ret Tryz.prog [.tmp 2] (fun y H=>Told Tryz.prog G H y (.int .i64 r))) (.go [] (qhm [1000000] Tryz.f151 0) [] (.n .undef (.n .undef (.n (.int .i64 t3) .z .z) .z) .z) 0 [])
theorem qcs:PC1 qio u4:=fun t3 r h=>by
 rw [u4.eq_def] at h
 refine kr [1000000] ?_
 cases h
 exact kf
def uf (t0:BA) (t3:Int):Option Int:=
 if (decide (t3 < (t0.size:Int)))=true then
  sx t0 t3 >>=fun x1=>
  Zv (qa x1) >>=fun x2=>
  if x2=true then
   uf (qa t0) (IntKind.i64.wrap (t3+(1:Int)))
  else
   u4 (qa t3)
 else
  u4 (qa t3)
 partial_fixpoint
@[reducible] def qcj (t0:BA) (t3:Int) (r:Int):Prop:=
  Ok Tryz.prog G tt 17 0 (Ret Tryz.prog [.tmp 2] (fun y H=>Told Tryz.prog G H y (.int .i64 r))) (.again (jy [1000000] Tryz.f151 0).1 (jy [1000000] Tryz.f151 0).2 (.n (.str t0) (.n .undef (.n (.int .i64 t3) .z .z) .z) .z) 0 [])
theorem K6:PC2 qcj uf:=by
 refine uf.partial_correctness qcj (fun uf K6 t0 t3 r h=> ?_)
 unfold qa at h
 refine yc ?_
 refine kr [1000000] ?_
 refine qk (fun hb=> ?_) (fun hb=> ?_)
 ·replace h:=qu hb h
  refine kr [1000000] ?_
  obtain ⟨x1,hx,h⟩:=bind_some h
  refine qs9 env hx rfl rfl rfl rfl ?_
  refine kr [1000000] ?_
  obtain ⟨x2,hx,h⟩:=bind_some h
  refine qp (qjo _ _ hx) ?_
  refine kr [1000000] ?_
  refine qf (fun hb=> ?_) (fun hb=> ?_)
  ·replace h:=qu hb h
   refine kr [1000000] ?_
   exact zp (by kernel_rfl) lA (K6 _ _ _ h)
  replace h:=qv hb h
  refine kr [1000000] ?_
  exact zb (by kernel_rfl) rfl lA (qcs _ _ h)
 replace h:=qv hb h
 refine kr [1000000] ?_
 exact zb (by kernel_rfl) rfl lA (qcs _ _ h)
def Y1 (a0:BA):Option Int:=
 uf a0 (0:Int)
@[reducible] def qml (a0:BA) (r:Int):Prop:=
  Fn Tryz.prog G 151 [(.str a0)] (.int .i64 r)
theorem qfr:PC1 qml Y1:=fun a0 r h=>by
 rw [Y1.eq_def] at h
 refine zu (T:=tt) (N:=17) (rs:= [.tmp 2]) (fun vs w=>by simp) Tryz.func151 rfl rfl rfl rfl (by kernel_rfl) (ya rfl) (zn _ rfl) ?_
 refine kr [1000000] ?_
 exact jv (by kernel_rfl) lA (K6 _ _ _ h)
def ug  :Option (Int × Int):=
 some ((0:Int),(0:Int))
@[reducible] def qfg  (r:Int × Int):Prop:=
  Ok Tryz.prog G tt 33 0 (Ret Tryz.prog [.tmp 2, .tmp 3] (fun y H=>Told Tryz.prog G H y (.tup [(.int .i64 r.1),(.int .i64 r.2)]))) (.go [] (Zg [11,20] Tryz.f120 11) [] .z 0 [])
theorem W9:PC0 qfg ug:=fun  r h=>by
 rw [ug.eq_def] at h
 refine kr [11,20] ?_
 cases h
 exact kf
def u9  :Option (Int × Int):=
 ug 
@[reducible] def qff  (r:Int × Int):Prop:=
  Ok Tryz.prog G tt 33 0 (Ret Tryz.prog [.tmp 2, .tmp 3] (fun y H=>Told Tryz.prog G H y (.tup [(.int .i64 r.1),(.int .i64 r.2)]))) (.go [] (Zg [11,20] Tryz.f120 20) [] .z 0 [])
theorem W8:PC0 qff u9:=fun  r h=>by
 rw [u9.eq_def] at h
 refine kr [11,20] ?_
 exact zb (by kernel_rfl) rfl lA (W9 _ h)
def Zw (a0:BA):Option (Int × Int):=
 if (decide (a0=(⟨#[]⟩:BA)))=true then
  some ((0:Int),(0:Int))
 else
  sx a0 (0:Int) >>=fun x1=>
  Q3 x1 >>=fun x2=>
  if (decide (x2=(1:Int)))=true then
   Y1 a0 >>=fun x3=>
   ssub a0 (0:Int) x3 >>=fun x4=>
   Ym x4 >>=fun x5=>
   if x5=true then
    some (x3,(2:Int))
   else
    ug 
  else
   if (decide (x2=(2:Int)))=true then
    Y1 a0 >>=fun x6=>
    if (decide (x6≤(32:Int)))=true then
     some (x6,(1:Int))
    else
     u9 
   else
    if (decide (x2=(3:Int)))=true then
     uj a0 (⟨#[47,47]⟩:BA) >>=fun x7=>
     if x7=true then
      some ((0:Int),(0:Int))
     else
      uj a0 (⟨#[61,61]⟩:BA) >>=fun x8=>
      if x8=true then
       some ((2:Int),(3:Int))
      else
       some ((1:Int),(3:Int))
    else
     u9 
@[reducible] def qji (a0:BA) (r:Int × Int):Prop:=
  Fn Tryz.prog G 120 [(.str a0)] (.tup [(.int .i64 r.1),(.int .i64 r.2)])
theorem qjp:PC1 qji Zw:=fun a0 r h=>by
 rw [Zw.eq_def] at h
 refine zu (T:=tt) (N:=33) (rs:= [.tmp 2, .tmp 3]) (fun vs w=>by simp) Tryz.func120 rfl rfl rfl rfl (by kernel_rfl) (ya rfl) (zn _ rfl) ?_
 refine kr [11,20] ?_
 refine qf (fun hb=> ?_) (fun hb=> ?_)
 ·replace h:=qu hb h
  refine kr [11,20] ?_
  cases h
  exact kf
 replace h:=qv hb h
 refine kr [11,20] ?_
 obtain ⟨x1,hx,h⟩:=bind_some h
 refine qs9 env hx rfl rfl rfl rfl ?_
 refine kr [11,20] ?_
 obtain ⟨x2,hx,h⟩:=bind_some h
 refine qp (W1 _ _ hx) ?_
 refine kr [11,20] ?_
 refine qf (fun hb=> ?_) (fun hb=> ?_)
 ·replace h:=qu hb h
  refine kr [11,20] ?_
  obtain ⟨x3,hx,h⟩:=bind_some h
  refine qp (qfr _ _ hx) ?_
  refine kr [11,20] ?_
  obtain ⟨x4,hx,h⟩:=bind_some h
  refine qa1 env hx rfl rfl rfl rfl rfl ?_
  refine kr [11,20] ?_
  obtain ⟨x5,hx,h⟩:=bind_some h
  refine qp (qhv _ _ hx) ?_
  refine kr [11,20] ?_
  refine qf (fun hb=> ?_) (fun hb=> ?_)
  ·replace h:=qu hb h
   refine kr [11,20] ?_
   cases h
   exact kf
  replace h:=qv hb h
  refine kr [11,20] ?_
  exact zb (by kernel_rfl) rfl lA (W9 _ h)
 replace h:=qv hb h
 refine kr [11,20] ?_
 refine qf (fun hb=> ?_) (fun hb=> ?_)
 ·replace h:=qu hb h
  refine kr [11,20] ?_
  obtain ⟨x6,hx,h⟩:=bind_some h
  refine qp (qfr _ _ hx) ?_
  refine kr [11,20] ?_
  refine qf (fun hb=> ?_) (fun hb=> ?_)
  ·replace h:=qu hb h
   refine kr [11,20] ?_
   cases h
   exact kf
  replace h:=qv hb h
  refine kr [11,20] ?_
  exact zb (by kernel_rfl) rfl lA (W8 _ h)
 replace h:=qv hb h
 refine kr [11,20] ?_
 refine qf (fun hb=> ?_) (fun hb=> ?_)
 ·replace h:=qu hb h
  refine kr [11,20] ?_
  obtain ⟨x7,hx,h⟩:=bind_some h
  refine qp (Kv _ _ _ hx) ?_
  refine kr [11,20] ?_
  refine qf (fun hb=> ?_) (fun hb=> ?_)
  ·replace h:=qu hb h
   refine kr [11,20] ?_
   cases h
   exact kf
  replace h:=qv hb h
  refine kr [11,20] ?_
  obtain ⟨x8,hx,h⟩:=bind_some h
  refine qp (Kv _ _ _ hx) ?_
  refine kr [11,20] ?_
  refine qf (fun hb=> ?_) (fun hb=> ?_)
  ·replace h:=qu hb h
   refine kr [11,20] ?_
   cases h
   exact kf
  replace h:=qv hb h
  refine kr [11,20] ?_
  cases h
  exact kf
 replace h:=qv hb h
 refine kr [11,20] ?_
 exact zb (by kernel_rfl) rfl lA (W8 _ h)
def kj (t0:BA) (t5:(List Token)) (t6:Int):Option ((List Token) × Int × Int):=
 J1 (qa t0) (qa t6) >>=fun x1=>
 if (decide (x1=(t0.size:Int)))=true then
  ssub t0 t6 (t0.size:Int) >>=fun x2=>
  app 48 t5 ([(Token.mk (4:Int) x2 (⟨#[]⟩) (t0.size:Int))]) >>=fun x3=>
  some (x3,(0:Int),(0:Int))
 else
  ssub t0 x1 (t0.size:Int) >>=fun x4=>
  Zw (qa x4) >>=fun x5=>
  if (decide (x5.2=(0:Int)))=true then
   some (([]:(List Token)),(1:Int),x1)
  else
   ssub t0 t6 x1 >>=fun x6=>
   ssub t0 x1 (IntKind.i64.wrap (x1+x5.1)) >>=fun x7=>
   app 48 t5 ([(Token.mk x5.2 x6 x7 x1)]) >>=fun x8=>
   kj (qa t0) (qa x8) (IntKind.i64.wrap (x1+x5.1))
 partial_fixpoint
@[reducible] def W6 (t0:BA) (t5:(List Token)) (t6:Int) (r:(List Token) × Int × Int):Prop:=
  Ok Tryz.prog G tt 58 0 (Ret Tryz.prog [.tmp 2, .tmp 3, .tmp 4] (fun y H=>Told Tryz.prog G H y (.tup [(.sl 4 false (r.1.map Token.cells)),(.int .i64 r.2.1),(.int .i64 r.2.2)]))) (.again (jy [] Tryz.f78 0).1 (jy [] Tryz.f78 0).2 (.n (.str t0) (.n .undef .z (.n (.bs 4 0 0 0 t5.length) .z .z)) (.n .undef .z (.n (.int .i64 t6) .z .z))) 1 [(0, .row 118 (t5.map Token.cells).flatten)])
theorem J8:PC3 W6 kj:=by
 refine kj.partial_correctness W6 (fun kj J8 t0 t5 t6 r h=> ?_)
 unfold qa at h
 refine yc ?_
 refine kr [] ?_
 obtain ⟨x1,hx,h⟩:=bind_some h
 refine qp (ql5 _ _ _ hx) ?_
 refine kr [] ?_
 refine qf (fun hb=> ?_) (fun hb=> ?_)
 ·replace h:=qu hb h
  refine kr [] ?_
  obtain ⟨x2,hx,h⟩:=bind_some h
  refine qa1 env hx rfl rfl rfl rfl rfl ?_
  refine kr [] ?_
  obtain ⟨x3,hx,h⟩:=bind_some h
  have hp_x3:=qad hx (by simp)
  refine qdh (C:=Token.cells) env hx rfl rfl (by simp) (fun _=>rfl) rfl rfl rfl rfl rfl (by decide) rfl rfl rfl ?_
  refine kr [] ?_
  cases h
  exact jz env rfl rfl (Js (Yu (j8 (w9 (jg Kg rfl) (by simp)) (j8 (w9 (zm rfl) (by simp)) (j8 (w9 (zm rfl) (by simp)) Z7)))))
 replace h:=qv hb h
 refine kr [] ?_
 obtain ⟨x4,hx,h⟩:=bind_some h
 refine qa1 env hx rfl rfl rfl rfl rfl ?_
 refine kr [] ?_
 obtain ⟨x5,hx,h⟩:=bind_some h
 refine qp (qjp _ _ hx) ?_
 refine kr [] ?_
 refine qf (fun hb=> ?_) (fun hb=> ?_)
 ·replace h:=qu hb h
  refine kr [] ?_
  cases h
  exact jz env rfl rfl (Js (Yu (j8 (w9 (y5 (.inr rfl)) (by simp)) (j8 (w9 (zm rfl) (by simp)) (j8 (w9 (zm rfl) (by simp)) Z7)))))
 replace h:=qv hb h
 refine kr [] ?_
 obtain ⟨x6,hx,h⟩:=bind_some h
 refine qa1 env hx rfl rfl rfl rfl rfl ?_
 refine kr [] ?_
 obtain ⟨x7,hx,h⟩:=bind_some h
 refine qa1 env hx rfl rfl rfl rfl rfl ?_
 refine kr [] ?_
 obtain ⟨x8,hx,h⟩:=bind_some h
 have hp_x8:=qad hx (by simp)
 refine qdh (C:=Token.cells) env hx rfl rfl (by simp) (fun _=>rfl) rfl rfl rfl rfl rfl (by decide) rfl rfl rfl ?_
 refine kr [] ?_
 exact zp (by kernel_rfl) lA (J8 _ _ _ _ h)
def Ze (a0:BA):Option ((List Token) × Int × Int):=
 if (decide ((65536:Int) < (a0.size:Int)))=true then
  some (([]:(List Token)),(3:Int),(0:Int))
 else
  kj a0 ([]:List Token) (0:Int)
@[reducible] def qip (a0:BA) (r:(List Token) × Int × Int):Prop:=
  Fn Tryz.prog G 78 [(.str a0)] (.tup [(.sl 4 false (r.1.map Token.cells)),(.int .i64 r.2.1),(.int .i64 r.2.2)])
theorem qiu:PC1 qip Ze:=fun a0 r h=>by
 rw [Ze.eq_def] at h
 refine zu (T:=tt) (N:=58) (rs:= [.tmp 2, .tmp 3, .tmp 4]) (fun vs w=>by simp) Tryz.func78 rfl rfl rfl rfl (by kernel_rfl) (ya rfl) (zn _ rfl) ?_
 refine kr [] ?_
 refine qf (fun hb=> ?_) (fun hb=> ?_)
 ·replace h:=qu hb h
  refine kr [] ?_
  cases h
  exact jz env rfl rfl (Js (Yu (j8 (w9 (y5 (.inr rfl)) (by simp)) (j8 (w9 (zm rfl) (by simp)) (j8 (w9 (zm rfl) (by simp)) Z7)))))
 replace h:=qv hb h
 refine kr [] ?_
 refine qta 5 _ 4 118 rfl rfl ?_
 exact jv (by kernel_rfl) lA (J8 _ _ _ _ h)
def Ye (a0 :Token):Option Int:=
 if (!decide (a0.Kind=(3:Int)))=true then
  some (0:Int)
 else
  if (decide (a0.Text=(⟨#[124]⟩:BA)))=true then
   some (1:Int)
  else
   if (decide (a0.Text=(⟨#[38]⟩:BA)))=true then
    some (2:Int)
   else
    if (decide (a0.Text=(⟨#[61,61]⟩:BA)))=true then
     some (3:Int)
    else
     if (decide (a0.Text=(⟨#[60]⟩:BA)))=true then
      some (3:Int)
     else
      if (decide (a0.Text=(⟨#[43]⟩:BA)))=true then
       some (4:Int)
      else
       if (decide (a0.Text=(⟨#[45]⟩:BA)))=true then
        some (4:Int)
       else
        if (decide (a0.Text=(⟨#[42]⟩:BA)))=true then
         some (5:Int)
        else
         if (decide (a0.Text=(⟨#[47]⟩:BA)))=true then
          some (5:Int)
         else
          some (0:Int)
@[reducible] def qjk (a0:Token) (r:Int):Prop:=
  Fn Tryz.prog G 155 [(.agg (Token.cells a0))] (.int .i64 r)
theorem qjq:PC1 qjk Ye:=fun a0 r h=>by
 rw [Ye.eq_def] at h
 refine zu (T:=tt) (N:=21) (rs:= [.tmp 2]) (fun vs w=>by simp) Tryz.func155 rfl rfl rfl rfl (by kernel_rfl) (ya rfl) (zn _ rfl) ?_
 refine kr [] ?_
 refine qf (fun hb=> ?_) (fun hb=> ?_)
 ·replace h:=qu hb h
  refine kr [] ?_
  cases h
  exact kf
 replace h:=qv hb h
 refine kr [] ?_
 refine qf (fun hb=> ?_) (fun hb=> ?_)
 ·replace h:=qu hb h
  refine kr [] ?_
  cases h
  exact kf
 replace h:=qv hb h
 refine kr [] ?_
 refine qf (fun hb=> ?_) (fun hb=> ?_)
 ·replace h:=qu hb h
  refine kr [] ?_
  cases h
  exact kf
 replace h:=qv hb h
 refine kr [] ?_
 refine qf (fun hb=> ?_) (fun hb=> ?_)
 ·replace h:=qu hb h
  refine kr [] ?_
  cases h
  exact kf
 replace h:=qv hb h
 refine kr [] ?_
 refine qf (fun hb=> ?_) (fun hb=> ?_)
 ·replace h:=qu hb h
  refine kr [] ?_
  cases h
  exact kf
 replace h:=qv hb h
 refine kr [] ?_
 refine qf (fun hb=> ?_) (fun hb=> ?_)
 ·replace h:=qu hb h
  refine kr [] ?_
  cases h
  exact kf
 replace h:=qv hb h
 refine kr [] ?_
 refine qf (fun hb=> ?_) (fun hb=> ?_)
 ·replace h:=qu hb h
  refine kr [] ?_
  cases h
  exact kf
 replace h:=qv hb h
 refine kr [] ?_
 refine qf (fun hb=> ?_) (fun hb=> ?_)
 ·replace h:=qu hb h
  refine kr [] ?_
  cases h
  exact kf
 replace h:=qv hb h
 refine kr [] ?_
 refine qf (fun hb=> ?_) (fun hb=> ?_)
 ·replace h:=qu hb h
  refine kr [] ?_
  cases h
  exact kf
 replace h:=qv hb h
 refine kr [] ?_
 cases h
 exact kf
def zk (a0:Reader):Option (Token):=
 ix a0.l_ a0.at_ >>=fun x1=>
 some x1
@[reducible] def qcm (a0:Reader) (r:Token):Prop:=
  AC Tryz.prog G 80 [(.ptr 0 0 0)] 1 [(0, .var 130 (Reader.cells a0))] (.agg (Token.cells r)) 1 [(0, .var 130 (Reader.cells a0))]
theorem jd:PC1 qcm zk:=fun a0 r h=>by
 rw [zk.eq_def] at h
 refine ⟨?_,(kw rfl rfl kx),(zr zt),(kq rfl ku),(zr zt),rfl,rfl,rfl,rfl⟩
 refine Jp (T:=tt) (N:=13) (rs:= [.cell 2 118]) (fun vs w=>by simp) Tryz.func80 rfl rfl rfl (by kernel_rfl) (by kernel_rfl) ?_
 refine kr [] ?_
 obtain ⟨x1,hx,h⟩:=bind_some h
 refine je env hx rfl rfl rfl rfl rfl ?_
 refine kr [] ?_
 cases h
 exact yh env rfl rfl (tS [some 0] (sV (lS (lS lN)) zw) (j6 (yy (qi (qh (zm rfl) rfl) (qi (qh (jn rfl) rfl) (qi (qh (jn rfl) rfl) (qi (qh (zm rfl) rfl) yx))))) (by simp)))
def q4 (a0:Reader) (a1:BA):Option Bool:=
 zk a0 >>=fun x1=>
 if (!decide (x1.Kind=(4:Int)))=true then
  zk a0 >>=fun x2=>
  some (decide (x2.Text=a1))
 else
  some false
@[reducible] def qds (a0:Reader) (a1:BA) (r:Bool):Prop:=
  AC Tryz.prog G 81 [(.ptr 0 0 0),(.str a1)] 1 [(0, .var 130 (Reader.cells a0))] (.bool r) 1 [(0, .var 130 (Reader.cells a0))]
theorem q6:PC2 qds q4:=fun a0 a1 r h=>by
 rw [q4.eq_def] at h
 refine ⟨?_,(kw rfl rfl kx),(zr zt),(kq rfl ku),(zr zt),rfl,rfl,rfl,rfl⟩
 refine Jp (T:=tt) (N:=16) (rs:= [.tmp 4]) (fun vs w=>by simp) Tryz.func81 rfl rfl rfl (by kernel_rfl) (by kernel_rfl) ?_
 refine kr [] ?_
 obtain ⟨x1,hx,h⟩:=bind_some h
 refine qc (AC.g9 (jd _ _ hx) [0] [0]) ?_
 refine kr [] ?_
 refine qk (fun hb=> ?_) (fun hb=> ?_)
 ·replace h:=qu hb h
  refine kr [] ?_
  obtain ⟨x2,hx,h⟩:=bind_some h
  refine qc (AC.g9 (jd _ _ hx) [0] [0]) ?_
  refine kr [] ?_
  cases h
  exact yh env rfl rfl (tS [some 0] (sV (lS (lS lN)) zw) (j6 (qb2 (qh (qcv rfl) rfl) (by simp)) (by simp)))
 replace h:=qv hb h
 refine kr [] ?_
 cases h
 exact yh env rfl rfl (tS [some 0] (sV (lS (lS lN)) zw) (j6 (qb2 (qh (qcv rfl) rfl) (by simp)) (by simp)))
def yv (a0:Reader):Option (Except Int (Unit)):=
 zk a0 >>=fun x1=>
 some (.error x1.At)
@[reducible] def qcq (a0:Reader) (r:Except Int (Unit)):Prop:=
  exq (fun (r:Unit)=>AC Tryz.prog G 86 [(.ptr 0 0 0)] 1 [(0, .var 130 (Reader.cells a0))] (.tup []) 1 [(0, .var 130 (Reader.cells a0))]) (fun e=>FC Tryz.prog G 86 [(.ptr 0 0 0)] 1 [(0, .var 130 (Reader.cells a0))] (flt e)) r
theorem yd:PC1 qcq yv:=fun a0 r h=>by
 rw [yv.eq_def] at h
 refine Yt (T:=tt) (N:=6) (rs:= []) (fun vs w=>by simp) Tryz.func86 rfl rfl rfl (by kernel_rfl) (by kernel_rfl) (kw rfl rfl kx) (zr zt) (fun r=>(kq rfl ku)) (fun r=>(zr zt)) (fun _=>rfl) (fun _=>rfl) rfl (fun _=>rfl) ?_
 refine kr [] ?_
 obtain ⟨x1,hx,h⟩:=bind_some h
 refine qc (AC.g9 (jd _ _ hx) [0] [0]) ?_
 refine kr [] ?_
 refine qtb (by kernel_rfl) rfl ?_
 refine kr [] ?_
 cases h
 exact qy8 rfl rfl
def wr (o0:Reader) (o1_0:Int) (o1_1:BA) (o1_2:LB) (o1_3:LN):Option (Except Int (Reader × LB)):=
 zk o0 >>=fun x3=>
 app 16 o1_2 ([x3.Lead]) >>=fun x4=>
 some (.ok ((Reader.mk o0.l_ (IntKind.i64.wrap (o0.at_+(1:Int)))),x4))
@[reducible] def qa3 (o0:Reader) (o1_0:Int) (o1_1:BA) (o1_2:LB) (o1_3:LN) (r:Except Int (Reader × LB)):Prop:=
  Ok Tryz.prog G tt 31 4 (exq (fun (r:Reader × LB)=>Ret Tryz.prog [] (fun y H=>Q5 Tryz.prog G 4 H y (.tup []) ⟨5, [(0, .var 130 (Reader.cells r.1)),(1, .var 45 [(.int .i64 o1_0),(.str o1_1),(.bs 1 2 4 0 r.2.length),(.bs 4 3 3 0 o1_3.length)]),(4, .row 9 (r.2.map sc).flatten),(3, .row 45 (o1_3.map Node.cells).flatten)]⟩)) (fun e=>Zs (flt e)) r) (.go [] (Zg [9] Tryz.f121 9) [] (.n (.ptr 0 0 0) (.n (.ptr 1 1 0) .z .z) .z) 5 [(0, .var 130 (Reader.cells o0)),(1, .var 45 [(.int .i64 o1_0),(.str o1_1),(.bs 1 2 4 0 o1_2.length),(.bs 4 3 3 0 o1_3.length)]),(4, .row 9 (o1_2.map sc).flatten),(3, .row 45 (o1_3.map Node.cells).flatten)])
theorem Jn:PC5 qa3 wr:=fun o0 o1_0 o1_1 o1_2 o1_3 r h=>by
 rw [wr.eq_def] at h
 refine kr [9] ?_
 obtain ⟨x3,hx,h⟩:=bind_some h
 refine qc (AC.g9 (jd _ _ hx) [0] [0]) ?_
 refine kr [9] ?_
 obtain ⟨x4,hx,h⟩:=bind_some h
 have hp_x4:=qad hx (by simp)
 refine qdh (C:=sc) env hx rfl rfl (by simp) (fun _=>rfl) rfl rfl rfl rfl rfl (by decide) rfl rfl rfl ?_
 refine kr [9] ?_
 cases h
 exact qam env rfl (tS [some 0,some 1,some 2,some 3] (sV (lS (lS lN)) (sV (lS (lS (lS (lS lN)))) (sR kv (sR ze zw)))) (qd3 qb1))
def qj (a0:Reader) (a1:Int) (a3:BA) (a4:LB) (a5:LN) (a2:BA):Option (Except Int (Reader × LB)):=
 q4 a0 a2 >>=fun x1=>
 if (!x1)=true then
  yv a0 >>=fun x2=>
  match x2 with
  | .error ee=>some (.error ee)
  | .ok x2=>
  wr a0 a1 a3 a4 a5
 else
  wr a0 a1 a3 a4 a5
@[reducible] def qcl (a0:Reader) (a1:Int) (a3:BA) (a4:LB) (a5:LN) (a2:BA) (r:Except Int (Reader × LB)):Prop:=
  exq (fun (r:Reader × LB)=>AC Tryz.prog G 121 [(.ptr 0 0 0),(.ptr 1 1 0),(.str a2)] 4 [(0, .var 130 (Reader.cells a0)),(1, .var 45 [(.int .i64 a1),(.str a3),(.bs 1 2 2 0 a4.length),(.bs 4 3 3 0 a5.length)]),(2, .row 9 (a4.map sc).flatten),(3, .row 45 (a5.map Node.cells).flatten)] (.tup []) 5 [(0, .var 130 (Reader.cells r.1)),(1, .var 45 [(.int .i64 a1),(.str a3),(.bs 1 2 4 0 r.2.length),(.bs 4 3 3 0 a5.length)]),(4, .row 9 (r.2.map sc).flatten),(3, .row 45 (a5.map Node.cells).flatten)]) (fun e=>FC Tryz.prog G 121 [(.ptr 0 0 0),(.ptr 1 1 0),(.str a2)] 4 [(0, .var 130 (Reader.cells a0)),(1, .var 45 [(.int .i64 a1),(.str a3),(.bs 1 2 2 0 a4.length),(.bs 4 3 3 0 a5.length)]),(2, .row 9 (a4.map sc).flatten),(3, .row 45 (a5.map Node.cells).flatten)] (flt e)) r
theorem qb:PC6 qcl qj:=fun a0 a1 a3 a4 a5 a2 r h=>by
 rw [qj.eq_def] at h
 refine Yt (T:=tt) (N:=31) (rs:= []) (fun vs w=>by simp) Tryz.func121 rfl rfl rfl (by kernel_rfl) (by kernel_rfl) (kw rfl rfl (kw rfl rfl (Jb kv rfl (Jb ze rfl kx)))) (zr (zr (wi kv (wi ze zt)))) (fun r=>(kq rfl (kq rfl (Z8 kv (Z8 ze ku))))) (fun r=>(zr (zr (wi kv (wi ze zt))))) (fun _=>rfl) (fun _=>rfl) rfl (fun _=>rfl) ?_
 refine kr [9] ?_
 obtain ⟨x1,hx,h⟩:=bind_some h
 refine qc (AC.g9 (q6 _ _ _ hx) [0] [0]) ?_
 refine kr [9] ?_
 refine qf (fun hb=> ?_) (fun hb=> ?_)
 ·replace h:=qu hb h
  refine kr [9] ?_
  obtain ⟨x2,hx,h⟩:=bind_some h
  rcases x2 with ee | x2
  ·replace h:some (.error ee)=some r:=h
   cases h
   exact q7 (FC.go (yd _ _ hx) [0] [0] rfl rfl rfl rfl rfl rfl)
  refine qc (AC.g9 (yd _ _ hx) [0] [0]) ?_
  refine kr [9] ?_
  exact zb (by kernel_rfl) rfl lQ (Jn _ _ _ _ _ _ h)
 replace h:=qv hb h
 refine kr [9] ?_
 exact zb (by kernel_rfl) rfl lQ (Jn _ _ _ _ _ _ h)
def y7 (o0:Reader) (o1_0:Int) (o1_1:BA) (o1_2:LB) (o1_3:LN) (o4:Token):Option (Except Int (Reader × BA × LB)):=
 app 16 o1_2 ([o4.Lead]) >>=fun x5=>
 some (.ok ((Reader.mk o0.l_ (IntKind.i64.wrap (o0.at_+(1:Int)))),o4.Text,x5))
@[reducible] def qaf (o0:Reader) (o1_0:Int) (o1_1:BA) (o1_2:LB) (o1_3:LN) (o4:Token) (r:Except Int (Reader × BA × LB)):Prop:=
  Ok Tryz.prog G tt 41 4 (exq (fun (r:Reader × BA × LB)=>Ret Tryz.prog [] (fun y H=>Q5 Tryz.prog G 4 H y (.tup []) ⟨5, [(0, .var 130 (Reader.cells r.1)),(1, .var 45 [(.int .i64 o1_0),(.str r.2.1),(.bs 1 2 4 0 r.2.2.length),(.bs 4 3 3 0 o1_3.length)]),(4, .row 9 (r.2.2.map sc).flatten),(3, .row 45 (o1_3.map Node.cells).flatten)]⟩)) (fun e=>Zs (flt e)) r) (.go [] (Zg [15] Tryz.f122 15) [] (.n (.ptr 0 0 0) (.n (.ptr 1 1 0) .z .z) (.n .undef (.n (.ptr 4 4 0) .z .z) .z)) 6 [(0, .var 130 (Reader.cells o0)),(1, .var 45 [(.int .i64 o1_0),(.str o1_1),(.bs 1 2 5 0 o1_2.length),(.bs 4 3 3 0 o1_3.length)]),(5, .row 9 (o1_2.map sc).flatten),(3, .row 45 (o1_3.map Node.cells).flatten),(4, .var 118 (Token.cells o4))])
theorem vv:PC6 qaf y7:=fun o0 o1_0 o1_1 o1_2 o1_3 o4 r h=>by
 rw [y7.eq_def] at h
 refine kr [15] ?_
 obtain ⟨x5,hx,h⟩:=bind_some h
 have hp_x5:=qad hx (by simp)
 refine qdh (C:=sc) env hx rfl rfl (by simp) (fun _=>rfl) rfl rfl rfl rfl rfl (by decide) rfl rfl rfl ?_
 refine kr [15] ?_
 cases h
 exact qam env rfl (tS [some 0,some 1,some 2,some 3] (sV (lS (lS lN)) (sV (lS (lS (lS (lS lN)))) (sR kv (sR ze zw)))) (qd3 qb1))
def zq (a0:Reader) (a1:Int) (a2:BA) (a3:LB) (a4:LN):Option (Except Int (Reader × BA × LB)):=
 zk a0 >>=fun x1=>
 if (!decide (x1.Kind=(1:Int)))=true then
  yv a0 >>=fun x4=>
  match x4 with
  | .error ee=>some (.error ee)
  | .ok x4=>
  y7 a0 a1 a2 a3 a4 x1
 else
  Kq x1.Text >>=fun x2=>
  if (!x2)=true then
   yv a0 >>=fun x3=>
   match x3 with
   | .error ee=>some (.error ee)
   | .ok x3=>
   y7 a0 a1 a2 a3 a4 x1
  else
   y7 a0 a1 a2 a3 a4 x1
@[reducible] def qcn (a0:Reader) (a1:Int) (a2:BA) (a3:LB) (a4:LN) (r:Except Int (Reader × BA × LB)):Prop:=
  exq (fun (r:Reader × BA × LB)=>AC Tryz.prog G 122 [(.ptr 0 0 0),(.ptr 1 1 0)] 4 [(0, .var 130 (Reader.cells a0)),(1, .var 45 [(.int .i64 a1),(.str a2),(.bs 1 2 2 0 a3.length),(.bs 4 3 3 0 a4.length)]),(2, .row 9 (a3.map sc).flatten),(3, .row 45 (a4.map Node.cells).flatten)] (.tup []) 5 [(0, .var 130 (Reader.cells r.1)),(1, .var 45 [(.int .i64 a1),(.str r.2.1),(.bs 1 2 4 0 r.2.2.length),(.bs 4 3 3 0 a4.length)]),(4, .row 9 (r.2.2.map sc).flatten),(3, .row 45 (a4.map Node.cells).flatten)]) (fun e=>FC Tryz.prog G 122 [(.ptr 0 0 0),(.ptr 1 1 0)] 4 [(0, .var 130 (Reader.cells a0)),(1, .var 45 [(.int .i64 a1),(.str a2),(.bs 1 2 2 0 a3.length),(.bs 4 3 3 0 a4.length)]),(2, .row 9 (a3.map sc).flatten),(3, .row 45 (a4.map Node.cells).flatten)] (flt e)) r
theorem q8:PC5 qcn zq:=fun a0 a1 a2 a3 a4 r h=>by
 rw [zq.eq_def] at h
 refine Yt (T:=tt) (N:=41) (rs:= []) (fun vs w=>by simp) Tryz.func122 rfl rfl rfl (by kernel_rfl) (by kernel_rfl) (kw rfl rfl (kw rfl rfl (Jb kv rfl (Jb ze rfl kx)))) (zr (zr (wi kv (wi ze zt)))) (fun r=>(kq rfl (kq rfl (Z8 kv (Z8 ze ku))))) (fun r=>(zr (zr (wi kv (wi ze zt))))) (fun _=>rfl) (fun _=>rfl) rfl (fun _=>rfl) ?_
 refine kr [15] ?_
 obtain ⟨x1,hx,h⟩:=bind_some h
 refine qc (AC.g9 (jd _ _ hx) [0] [0]) ?_
 refine kr [15] ?_
 refine qq (fun hb=> ?_) (fun hb=> ?_)
 ·replace h:=qv hb h
  refine kr [15] ?_
  obtain ⟨x2,hx,h⟩:=bind_some h
  refine qp (qem _ _ hx) ?_
  refine kr [15] ?_
  refine qf (fun hb=> ?_) (fun hb=> ?_)
  ·replace h:=qu hb h
   refine kr [15] ?_
   obtain ⟨x3,hx,h⟩:=bind_some h
   rcases x3 with ee | x3
   ·replace h:some (.error ee)=some r:=h
    cases h
    exact q7 (FC.go (yd _ _ hx) [0] [0] rfl rfl rfl rfl rfl rfl)
   refine qc (AC.g9 (yd _ _ hx) [0] [0]) ?_
   refine kr [15] ?_
   exact zb (by kernel_rfl) rfl lQ (vv _ _ _ _ _ _ _ h)
  replace h:=qv hb h
  refine kr [15] ?_
  exact zb (by kernel_rfl) rfl lQ (vv _ _ _ _ _ _ _ h)
 replace h:=qu hb h
 refine kr [15] ?_
 obtain ⟨x4,hx,h⟩:=bind_some h
 rcases x4 with ee | x4
 ·replace h:some (.error ee)=some r:=h
  cases h
  exact q7 (FC.go (yd _ _ hx) [0] [0] rfl rfl rfl rfl rfl rfl)
 refine qc (AC.g9 (yd _ _ hx) [0] [0]) ?_
 refine kr [15] ?_
 exact zb (by kernel_rfl) rfl lQ (vv _ _ _ _ _ _ _ h)
def zf (a0:Int) (a2:BA) (a3:LB) (a4:LN) (a1:Node):Option LN:=
 app 72 a4 [a1] >>=fun x1=>
 some x1
@[reducible] def qjm (a0:Int) (a2:BA) (a3:LB) (a4:LN) (a1:Node) (r:LN):Prop:=
  AC Tryz.prog G 82 [(.ptr 0 0 0),(.agg (zo a1))] 3 [(0, .var 45 [(.int .i64 a0),(.str a2),(.bs 1 1 1 0 a3.length),(.bs 4 2 2 0 a4.length)]),(1, .row 9 (a3.map sc).flatten),(2, .row 45 (a4.map Node.cells).flatten)] (.tup []) 4 [(0, .var 45 [(.int .i64 a0),(.str a2),(.bs 1 1 1 0 a3.length),(.bs 4 2 3 0 r.length)]),(1, .row 9 (a3.map sc).flatten),(3, .row 45 (r.map Node.cells).flatten)]
theorem zg:PC5 qjm zf:=fun a0 a2 a3 a4 a1 r h=>by
 rw [zf.eq_def] at h
 refine ⟨?_,(kw rfl rfl (Jb kv rfl (Jb ze rfl kx))),(zr (wi kv (wi ze zt))),(kq rfl (Z8 kv (Z8 ze ku))),(zr (wi kv (wi ze zt))),rfl,rfl,rfl,rfl⟩
 refine Jp (T:=tt) (N:=15) (rs:= []) (fun vs w=>by simp) Tryz.func82 rfl rfl rfl (by kernel_rfl) (by kernel_rfl) ?_
 refine kr [] ?_
 obtain ⟨x1,hx,h⟩:=bind_some h
 have hz_x1:=hx
 refine qru (C:=Node.cells) env hx rfl rfl Node.cells_len rfl rfl rfl rfl rfl (by decide) rfl rfl rfl ?_
 refine kr [] ?_
 refine qin env rfl rfl rfl rfl (Int.natCast_nonneg _) (qrn hz_x1) ?_
 refine kr [] ?_
 refine qnz hz_x1 ze rfl rfl (Node.cells_eq a1).symm rfl rfl rfl ?_
 refine kr [] ?_
 cases h
 exact qam env rfl (tS [some 0,some 1,some 2] (sV (lS (lS (lS (lS lN)))) (sR kv (sR ze zw))) (qd3 qb1))
def wo (a0:Reader):Option (Except Int (Node × Reader)):=
 zq a0 (5:Int) (⟨#[]⟩) ([]:LB) ([]:LN) >>=fun x1=>
 match x1 with
 | .error ee=>some (.error ee)
 | .ok x1=>
 some (.ok ((Node.mk (5:Int) x1.2.1 x1.2.2 ([]:LN)),x1.1))
@[reducible] def qco (a0:Reader) (r:Except Int (Node × Reader)):Prop:=
  exq (fun (r:Node × Reader)=>AC Tryz.prog G 123 [(.ptr 0 0 0)] 1 [(0, .var 130 (Reader.cells a0))] (.agg (zo r.1)) 1 [(0, .var 130 (Reader.cells r.2))]) (fun e=>FC Tryz.prog G 123 [(.ptr 0 0 0)] 1 [(0, .var 130 (Reader.cells a0))] (flt e)) r
theorem u7:PC1 qco wo:=fun a0 r h=>by
 rw [wo.eq_def] at h
 refine Yt (T:=tt) (N:=8) (rs:= [.cell 2 45]) (fun vs w=>by simp) Tryz.func123 rfl rfl rfl (by kernel_rfl) (by kernel_rfl) (kw rfl rfl kx) (zr zt) (fun r=>(kq rfl ku)) (fun r=>(zr zt)) (fun _=>rfl) (fun _=>rfl) rfl (fun _=>rfl) ?_
 refine kr [] ?_
 obtain ⟨x1,hx,h⟩:=bind_some h
 rcases x1 with ee | x1
 ·replace h:some (.error ee)=some r:=h
  cases h
  exact q7 (FCalls.ghost (e:=9) (FCalls.ghost (e:=45) (FCalls.wkg (FC.go (objs:= [(0, .var 130 (Reader.cells a0)),(1, .var 45 [(.int .i64 0),(.str ⟨#[]⟩),(.sl 0 true []),(.sl 0 true [])]),(2, .var 45 [(.int .i64 (5:Int)),(.str ⟨#[]⟩),(.bs 1 3 3 0 ([]:LB).length),(.bs 4 4 4 0 ([]:LN).length)]),(3, .row 9 (([]:LB).map sc).flatten),(4, .row 45 (([]:LN).map Node.cells).flatten)]) (xs:= [(.ptr 0 0 0),(.ptr 2 2 0)]) (q8 _ _ _ _ _ _ hx) [0,2,3,4] [0,2,3,4] rfl rfl rfl rfl rfl rfl) (qg (qr _) (qg (qr _) z7)) (qe (qe (jc (qd (qy _) (qd (qy _) (qd (za rfl) (qd (za rfl) ju)))) (zi _)))))))
 refine qc (ACalls.ghost (e:=9) (ACalls.ghost (e:=45) (ACalls.wkg (AC.go (objs:= [(0, .var 130 (Reader.cells a0)),(1, .var 45 [(.int .i64 0),(.str ⟨#[]⟩),(.sl 0 true []),(.sl 0 true [])]),(2, .var 45 [(.int .i64 (5:Int)),(.str ⟨#[]⟩),(.bs 1 3 3 0 ([]:LB).length),(.bs 4 4 4 0 ([]:LN).length)]),(3, .row 9 (([]:LB).map sc).flatten),(4, .row 45 (([]:LN).map Node.cells).flatten)]) (xs:= [(.ptr 0 0 0),(.ptr 2 2 0)]) (q8 _ _ _ _ _ _ hx) [0,2,3,4] [0,2,3,4] rfl rfl rfl rfl rfl rfl rfl rfl rfl) (qg (qr _) (qg (qr _) z7)) (qe (qe (jc (qd (qy _) (qd (qy _) (qd (za rfl) (qd (za rfl) ju)))) (zi _))))))) ?_
 refine kr [] ?_
 cases h
 exact yh env rfl rfl (tS [some 0] (sV (lS (lS lN)) zw) (j6 (yy (qi (qh (zm rfl) rfl) (qi (qh (jn rfl) rfl) (qi (qh (jg kv rfl) rfl) (qi (qh (jg ze rfl) rfl) yx))))) (by simp)))
def jk (a0:Reader) (a1:Int):Option (Node × Reader):=
 zk a0 >>=fun x1=>
 some ((Node.mk a1 x1.Text ([x1.Lead]) ([]:LN)),(Reader.mk a0.l_ (IntKind.i64.wrap (a0.at_+(1:Int)))))
@[reducible] def qck (a0:Reader) (a1:Int) (r:Node × Reader):Prop:=
  AC Tryz.prog G 156 [(.ptr 0 0 0),(.int .i64 a1)] 2 [(0, .var 130 (Reader.cells a0)),(1, .row 45 [])] (.agg [(.int .i64 r.1.kind),(.str r.1.text),(.sl 1 false (r.1.gaps.map sc)),(.bs 4 1 2 0 r.1.kids.length)]) 3 [(0, .var 130 (Reader.cells r.2)),(2, .row 45 (r.1.kids.map Node.cells).flatten)]
theorem yz:PC2 qck jk:=fun a0 a1 r h=>by
 rw [jk.eq_def] at h
 refine ⟨?_,(kw rfl rfl (quf rfl kx)),(zr (qj2 zt)),(kq rfl (Z8 ze ku)),(zr (wi ze zt)),rfl,rfl,rfl,rfl⟩
 refine Jp (T:=tt) (N:=22) (rs:= [.cell 4 45]) (fun vs w=>by simp) Tryz.func156 rfl rfl rfl (by kernel_rfl) (by kernel_rfl) ?_
 refine kr [] ?_
 obtain ⟨x1,hx,h⟩:=bind_some h
 refine qc (AC.g9 (jd _ _ hx) [0] [0]) ?_
 refine kr [] ?_
 cases h
 exact yh env rfl rfl (tS [some 0,none] (sV (lS (lS lN)) (qd1 rfl rfl zw)) (j6 (yy (qi (qh (zm rfl) rfl) (qi (qh (jn rfl) rfl) (qi (qh (y5 (.inl rfl)) rfl) (qi (qxa rfl rfl) yx))))) (by simp)))
def v6 (a0:Int) (a2:BA) (a3:LB) (a4:LN) (a1:Node):Option LN:=
 app 72 a4 [a1] >>=fun x1=>
 some x1
@[reducible] def qjl (a0:Int) (a2:BA) (a3:LB) (a4:LN) (a1:Node) (r:LN):Prop:=
  AC Tryz.prog G 82 [(.ptr 0 0 0),(.agg (zo a1))] 2 [(0, .var 45 [(.int .i64 a0),(.str a2),(.sl 1 false (a3.map sc)),(.bs 4 1 1 0 a4.length)]),(1, .row 45 (a4.map Node.cells).flatten)] (.tup []) 3 [(0, .var 45 [(.int .i64 a0),(.str a2),(.sl 1 false (a3.map sc)),(.bs 4 1 2 0 r.length)]),(2, .row 45 (r.map Node.cells).flatten)]
theorem Yj:PC5 qjl v6:=fun a0 a2 a3 a4 a1 r h=>by
 rw [v6.eq_def] at h
 refine ⟨?_,(kw rfl rfl (Jb ze rfl kx)),(zr (wi ze zt)),(kq rfl (Z8 ze ku)),(zr (wi ze zt)),rfl,rfl,rfl,rfl⟩
 refine Jp (T:=tt) (N:=15) (rs:= []) (fun vs w=>by simp) Tryz.func82 rfl rfl rfl (by kernel_rfl) (by kernel_rfl) ?_
 refine kr [] ?_
 obtain ⟨x1,hx,h⟩:=bind_some h
 have hz_x1:=hx
 refine qru (C:=Node.cells) env hx rfl rfl Node.cells_len rfl rfl rfl rfl rfl (by decide) rfl rfl rfl ?_
 refine kr [] ?_
 refine qin env rfl rfl rfl rfl (Int.natCast_nonneg _) (qrn hz_x1) ?_
 refine kr [] ?_
 refine qnz hz_x1 ze rfl rfl (Node.cells_eq a1).symm rfl rfl rfl ?_
 refine kr [] ?_
 cases h
 exact qam env rfl (tS [some 0,some 1] (sV (lS (lS (lS (lS lN)))) (sR ze zw)) (qd3 qb1))
def yo (o0:Reader) (o3_0:Int) (o3_1:BA) (o3_2:LB) (o3_3:LN):Option (Except Int (Node × Reader)):=
 some (.ok ((Node.mk o3_0 o3_1 o3_2 o3_3),o0))
@[reducible] def K3 (o0:Reader) (o3_0:Int) (o3_1:BA) (o3_2:LB) (o3_3:LN) (r:Except Int (Node × Reader)):Prop:=
  Ok Tryz.prog G tt 61 1 (exq (fun (r:Node × Reader)=>Ret Tryz.prog [.cell 2 45] (fun y H=>Q5 Tryz.prog G 1 H y (.agg (zo r.1)) ⟨1, [(0, .var 130 (Reader.cells r.2))]⟩)) (fun e=>Zs (flt e)) r) (.go [] (Zg [56] Tryz.f178 56) [] (.n .undef .z (.n (.ptr 1 1 0) .z (.n (.ptr 3 3 0) .z .z))) 9 [(0, .var 130 (Reader.cells o0)),(1, .var 45 [(.int .i64 0),(.str ⟨#[]⟩),(.sl 0 true []),(.sl 0 true [])]),(2, .dead),(3, .var 45 [(.int .i64 o3_0),(.str o3_1),(.bs 1 4 7 0 o3_2.length),(.bs 4 5 8 0 o3_3.length)]),(7, .row 9 (o3_2.map sc).flatten),(8, .row 45 (o3_3.map Node.cells).flatten)])
theorem Zd:PC5 K3 yo:=fun o0 o3_0 o3_1 o3_2 o3_3 r h=>by
 rw [yo.eq_def] at h
 refine kr [56] ?_
 cases h
 exact yh env rfl rfl (tS [some 0] (sV (lS (lS lN)) zw) (j6 (yy (qi (qh (zm rfl) rfl) (qi (qh (jn rfl) rfl) (qi (qh (jg kv rfl) rfl) (qi (qh (jg ze rfl) rfl) yx))))) (by simp)))
def y3 (o0:Reader) (o2:Node):Option (Except Int (Node × Reader)):=
 some (.ok (o2,o0))
@[reducible] def Wx (o0:Reader) (o2:Node) (r:Except Int (Node × Reader)):Prop:=
  Ok Tryz.prog G tt 33 1 (exq (fun (r:Node × Reader)=>Ret Tryz.prog [.cell 4 45] (fun y H=>Q5 Tryz.prog G 1 H y (.agg (zo r.1)) ⟨1, [(0, .var 130 (Reader.cells r.2))]⟩)) (fun e=>Zs (flt e)) r) (.go [] (qhm [1000000] Tryz.f125 0) [] (.n .undef (.n .undef .z (.n (.ptr 2 2 0) .z .z)) (.n .undef (.n (.ptr 1 1 0) .z .z) .z)) 8 [(0, .var 130 (Reader.cells o0)),(1, .var 45 [(.int .i64 0),(.str ⟨#[]⟩),(.sl 0 true []),(.sl 0 true [])]),(2, .var 45 (zo o2))])
theorem Zr:PC2 Wx y3:=fun o0 o2 r h=>by
 rw [y3.eq_def] at h
 refine kr [1000000] ?_
 cases h
 exact yh env rfl rfl (tS [some 0] (sV (lS (lS lN)) zw) (j6 (yy (qi (qh (zm rfl) rfl) (qi (qh (jn rfl) rfl) (qi (qh (y5 (.inl rfl)) rfl) (qi (qh (y5 (.inl rfl)) rfl) yx))))) (by simp)))
mutual
def qz (a0:Reader) (a1:Int):Option (Except Int (Node × Reader)):=
 if (decide ((5:Int) < a1))=true then
  js (qa a0) >>=fun x1=>
  match x1 with
  | .error ee=>some (.error ee)
  | .ok x1=>
  some (.ok (x1.1,x1.2))
 else
  qz (qa a0) (IntKind.i64.wrap (a1+(1:Int))) >>=fun x2=>
  match x2 with
  | .error ee=>some (.error ee)
  | .ok x2=>
  jh (qa a1) x2.2 x2.1
 partial_fixpoint
def js (a0:Reader):Option (Except Int (Node × Reader)):=
 q4 (qa a0) (⟨#[45]⟩:BA) >>=fun x3=>
 if x3=true then
  jk (qa a0) (25:Int) >>=fun x9=>
  js x9.2 >>=fun x10=>
  match x10 with
  | .error ee=>some (.error ee)
  | .ok x10=>
  v6 x9.1.kind x9.1.text x9.1.gaps x9.1.kids x10.1 >>=fun x11=>
  some (.ok ((Node.mk x9.1.kind x9.1.text x9.1.gaps x11),x10.2))
 else
  q4 (qa a0) (⟨#[33]⟩:BA) >>=fun x4=>
  if x4=true then
   jk (qa a0) (25:Int) >>=fun x5=>
   js x5.2 >>=fun x6=>
   match x6 with
   | .error ee=>some (.error ee)
   | .ok x6=>
   v6 x5.1.kind x5.1.text x5.1.gaps x5.1.kids x6.1 >>=fun x7=>
   some (.ok ((Node.mk x5.1.kind x5.1.text x5.1.gaps x7),x6.2))
  else
   yq (qa a0) >>=fun x8=>
   match x8 with
   | .error ee=>some (.error ee)
   | .ok x8=>
   jb x8.2 x8.1
 partial_fixpoint
def yq (a0:Reader):Option (Except Int (Node × Reader)):=
 zk (qa a0) >>=fun x12=>
 if (decide (x12.Kind=(2:Int)))=true then
  jk (qa a0) (17:Int) >>=fun x13=>
  some (.ok ((Node.mk x13.1.kind x13.1.text x13.1.gaps x13.1.kids),x13.2))
 else
  q4 (qa a0) (⟨#[116,114,117,101]⟩:BA) >>=fun x14=>
  if x14=true then
   jk (qa a0) (18:Int) >>=fun x15=>
   some (.ok ((Node.mk x15.1.kind x15.1.text x15.1.gaps x15.1.kids),x15.2))
  else
   q4 (qa a0) (⟨#[102,97,108,115,101]⟩:BA) >>=fun x16=>
   if x16=true then
    jk (qa a0) (18:Int) >>=fun x17=>
    some (.ok ((Node.mk x17.1.kind x17.1.text x17.1.gaps x17.1.kids),x17.2))
   else
    q4 (qa a0) (⟨#[115,101,108,102]⟩:BA) >>=fun x18=>
    if x18=true then
     jk (qa a0) (23:Int) >>=fun x19=>
     some (.ok ((Node.mk x19.1.kind x19.1.text x19.1.gaps x19.1.kids),x19.2))
    else
     q4 (qa a0) (⟨#[110,101,119]⟩:BA) >>=fun x20=>
     if x20=true then
      qj (qa a0) (22:Int) (⟨#[]⟩) ([]:LB) ([]:LN) (⟨#[110,101,119]⟩:BA) >>=fun x21=>
      match x21 with
      | .error ee=>some (.error ee)
      | .ok x21=>
      zq x21.1 (22:Int) (⟨#[]⟩) x21.2 ([]:LN) >>=fun x22=>
      match x22 with
      | .error ee=>some (.error ee)
      | .ok x22=>
      qj x22.1 (22:Int) x22.2.1 x22.2.2 ([]:LN) (⟨#[40]⟩:BA) >>=fun x23=>
      match x23 with
      | .error ee=>some (.error ee)
      | .ok x23=>
      qj x23.1 (22:Int) x22.2.1 x23.2 ([]:LN) (⟨#[41]⟩:BA) >>=fun x24=>
      match x24 with
      | .error ee=>some (.error ee)
      | .ok x24=>
      some (.ok ((Node.mk (22:Int) x22.2.1 x24.2 ([]:LN)),x24.1))
     else
      q4 (qa a0) (⟨#[40]⟩:BA) >>=fun x25=>
      if x25=true then
       qj (qa a0) (26:Int) (⟨#[]⟩) ([]:LB) ([]:LN) (⟨#[40]⟩:BA) >>=fun x26=>
       match x26 with
       | .error ee=>some (.error ee)
       | .ok x26=>
       qz x26.1 (1:Int) >>=fun x27=>
       match x27 with
       | .error ee=>some (.error ee)
       | .ok x27=>
       zf (26:Int) (⟨#[]⟩) x26.2 ([]:LN) x27.1 >>=fun x28=>
       qj x27.2 (26:Int) (⟨#[]⟩) x26.2 (qa x28) (⟨#[41]⟩:BA) >>=fun x29=>
       match x29 with
       | .error ee=>some (.error ee)
       | .ok x29=>
       some (.ok ((Node.mk (26:Int) (⟨#[]⟩) x29.2 x28),x29.1))
      else
       zq (qa a0) (19:Int) (⟨#[]⟩) ([]:LB) ([]:LN) >>=fun x30=>
       match x30 with
       | .error ee=>some (.error ee)
       | .ok x30=>
       q4 x30.1 (⟨#[40]⟩:BA) >>=fun x31=>
       if x31=true then
        z6 x30.1 (20:Int) x30.2.1 x30.2.2 ([]:LN) >>=fun x32=>
        match x32 with
        | .error ee=>some (.error ee)
        | .ok x32=>
        yo x32.1 (20:Int) x30.2.1 x32.2.1 x32.2.2
       else
        yo x30.1 (19:Int) x30.2.1 x30.2.2 ([]:LN)
 partial_fixpoint
def z6 (a0:Reader) (a1:Int) (a2:BA) (a3:LB) (a4:LN):Option (Except Int (Reader × LB × LN)):=
 qj (qa a0) (qa a1) (qa a2) (qa a3) (qa a4) (⟨#[40]⟩:BA) >>=fun x33=>
 match x33 with
 | .error ee=>some (.error ee)
 | .ok x33=>
 zx (qa true) x33.1 (qa a1) (qa a2) x33.2 (qa a4)
 partial_fixpoint
def jh (t1:Int) (o0:Reader) (o2:Node):Option (Except Int (Node × Reader)):=
 zk (qa o0) >>=fun x34=>
 Ye (qa x34) >>=fun x35=>
 if (decide (x35=t1))=true then
  jk (qa o0) (24:Int) >>=fun x36=>
  v6 x36.1.kind x36.1.text x36.1.gaps x36.1.kids (qa o2) >>=fun x37=>
  qz x36.2 (IntKind.i64.wrap (t1+(1:Int))) >>=fun x38=>
  match x38 with
  | .error ee=>some (.error ee)
  | .ok x38=>
  v6 x36.1.kind x36.1.text x36.1.gaps (qa x37) x38.1 >>=fun x39=>
  if (decide (t1=(3:Int)))=true then
   y3 x38.2 (Node.mk x36.1.kind x36.1.text x36.1.gaps x39)
  else
   jh (qa t1) x38.2 (Node.mk x36.1.kind x36.1.text x36.1.gaps x39)
 else
  y3 (qa o0) (qa o2)
 partial_fixpoint
def jb (o0:Reader) (o2:Node):Option (Except Int (Node × Reader)):=
 q4 (qa o0) (⟨#[46]⟩:BA) >>=fun x40=>
 if x40=true then
  qj (qa o0) (21:Int) (⟨#[]⟩) ([]:LB) ([o2]:LN) (⟨#[46]⟩:BA) >>=fun x41=>
  match x41 with
  | .error ee=>some (.error ee)
  | .ok x41=>
  zq x41.1 (21:Int) (⟨#[]⟩) x41.2 ([o2]:LN) >>=fun x42=>
  match x42 with
  | .error ee=>some (.error ee)
  | .ok x42=>
  z6 x42.1 (21:Int) x42.2.1 x42.2.2 ([o2]:LN) >>=fun x43=>
  match x43 with
  | .error ee=>some (.error ee)
  | .ok x43=>
  jb x43.1 (Node.mk (21:Int) x42.2.1 x43.2.1 x43.2.2)
 else
  some (.ok (o2,o0))
 partial_fixpoint
def zx (t4:Bool) (o0:Reader) (o1_0:Int) (o1_1:BA) (o1_2:LB) (o1_3:LN):Option (Except Int (Reader × LB × LN)):=
 q4 (qa o0) (⟨#[41]⟩:BA) >>=fun x44=>
 if (!x44)=true then
  if (!t4)=true then
   qj (qa o0) (qa o1_0) (qa o1_1) (qa o1_2) (qa o1_3) (⟨#[44]⟩:BA) >>=fun x45=>
   match x45 with
   | .error ee=>some (.error ee)
   | .ok x45=>
   jq x45.1 (qa o1_0) (qa o1_1) x45.2 (qa o1_3)
  else
   jq (qa o0) (qa o1_0) (qa o1_1) (qa o1_2) (qa o1_3)
 else
  qj (qa o0) (qa o1_0) (qa o1_1) (qa o1_2) (qa o1_3) (⟨#[41]⟩:BA) >>=fun x46=>
  match x46 with
  | .error ee=>some (.error ee)
  | .ok x46=>
  some (.ok (x46.1,x46.2,o1_3))
 partial_fixpoint
def jq (o0:Reader) (o1_0:Int) (o1_1:BA) (o1_2:LB) (o1_3:LN):Option (Except Int (Reader × LB × LN)):=
 qz (qa o0) (1:Int) >>=fun x47=>
 match x47 with
 | .error ee=>some (.error ee)
 | .ok x47=>
 zf (qa o1_0) (qa o1_1) (qa o1_2) (qa o1_3) x47.1 >>=fun x48=>
 zx (qa false) x47.2 (qa o1_0) (qa o1_1) (qa o1_2) (qa x48)
 partial_fixpoint
end
@[reducible] def Qm (a0:Reader) (a1:Int) (r:Except Int (Node × Reader)):Prop:=
  exq (fun (r:Node × Reader)=>AC Tryz.prog G 125 [(.ptr 0 0 0),(.int .i64 a1)] 1 [(0, .var 130 (Reader.cells a0))] (.agg (zo r.1)) 1 [(0, .var 130 (Reader.cells r.2))]) (fun e=>FC Tryz.prog G 125 [(.ptr 0 0 0),(.int .i64 a1)] 1 [(0, .var 130 (Reader.cells a0))] (flt e)) r
@[reducible] def Q1 (a0:Reader) (r:Except Int (Node × Reader)):Prop:=
  exq (fun (r:Node × Reader)=>AC Tryz.prog G 154 [(.ptr 0 0 0)] 1 [(0, .var 130 (Reader.cells a0))] (.agg (zo r.1)) 1 [(0, .var 130 (Reader.cells r.2))]) (fun e=>FC Tryz.prog G 154 [(.ptr 0 0 0)] 1 [(0, .var 130 (Reader.cells a0))] (flt e)) r
@[reducible] def Qb (a0:Reader) (r:Except Int (Node × Reader)):Prop:=
  exq (fun (r:Node × Reader)=>AC Tryz.prog G 178 [(.ptr 0 0 0)] 1 [(0, .var 130 (Reader.cells a0))] (.agg (zo r.1)) 1 [(0, .var 130 (Reader.cells r.2))]) (fun e=>FC Tryz.prog G 178 [(.ptr 0 0 0)] 1 [(0, .var 130 (Reader.cells a0))] (flt e)) r
@[reducible] def vg (a0:Reader) (a1:Int) (a2:BA) (a3:LB) (a4:LN) (r:Except Int (Reader × LB × LN)):Prop:=
  exq (fun (r:Reader × LB × LN)=>AC Tryz.prog G 179 [(.ptr 0 0 0),(.ptr 1 1 0)] 4 [(0, .var 130 (Reader.cells a0)),(1, .var 45 [(.int .i64 a1),(.str a2),(.bs 1 2 2 0 a3.length),(.bs 4 3 3 0 a4.length)]),(2, .row 9 (a3.map sc).flatten),(3, .row 45 (a4.map Node.cells).flatten)] (.tup []) 6 [(0, .var 130 (Reader.cells r.1)),(1, .var 45 [(.int .i64 a1),(.str a2),(.bs 1 2 4 0 r.2.1.length),(.bs 4 3 5 0 r.2.2.length)]),(4, .row 9 (r.2.1.map sc).flatten),(5, .row 45 (r.2.2.map Node.cells).flatten)]) (fun e=>FC Tryz.prog G 179 [(.ptr 0 0 0),(.ptr 1 1 0)] 4 [(0, .var 130 (Reader.cells a0)),(1, .var 45 [(.int .i64 a1),(.str a2),(.bs 1 2 2 0 a3.length),(.bs 4 3 3 0 a4.length)]),(2, .row 9 (a3.map sc).flatten),(3, .row 45 (a4.map Node.cells).flatten)] (flt e)) r
@[reducible] def vf (t1:Int) (o0:Reader) (o2:Node) (r:Except Int (Node × Reader)):Prop:=
  Ok Tryz.prog G tt 33 1 (exq (fun (r:Node × Reader)=>Ret Tryz.prog [.cell 4 45] (fun y H=>Q5 Tryz.prog G 1 H y (.agg (zo r.1)) ⟨1, [(0, .var 130 (Reader.cells r.2))]⟩)) (fun e=>Zs (flt e)) r) (.again (jy [1000000] Tryz.f125 0).1 (jy [1000000] Tryz.f125 0).2 (.n (.ptr 0 0 0) (.n (.int .i64 t1) .z (.n (.ptr 2 2 0) .z .z)) (.n .undef (.n (.ptr 1 1 0) .z .z) .z)) 3 [(0, .var 130 (Reader.cells o0)),(1, .var 45 [(.int .i64 0),(.str ⟨#[]⟩),(.sl 0 true []),(.sl 0 true [])]),(2, .var 45 (zo o2))])
@[reducible] def vp (o0:Reader) (o2:Node) (r:Except Int (Node × Reader)):Prop:=
  Ok Tryz.prog G tt 33 1 (exq (fun (r:Node × Reader)=>Ret Tryz.prog [.cell 2 45] (fun y H=>Q5 Tryz.prog G 1 H y (.agg (zo r.1)) ⟨1, [(0, .var 130 (Reader.cells r.2))]⟩)) (fun e=>Zs (flt e)) r) (.again (jy [3000023] Tryz.f154 0).1 (jy [3000023] Tryz.f154 0).2 (.n (.ptr 0 0 0) .z (.n (.ptr 1 1 0) (.n (.ptr 2 2 0) .z .z) .z)) 3 [(0, .var 130 (Reader.cells o0)),(1, .var 45 [(.int .i64 0),(.str ⟨#[]⟩),(.sl 0 true []),(.sl 0 true [])]),(2, .var 45 (zo o2))])
@[reducible] def um (t4:Bool) (o0:Reader) (o1_0:Int) (o1_1:BA) (o1_2:LB) (o1_3:LN) (r:Except Int (Reader × LB × LN)):Prop:=
  Ok Tryz.prog G tt 23 4 (exq (fun (r:Reader × LB × LN)=>Ret Tryz.prog [] (fun y H=>Q5 Tryz.prog G 4 H y (.tup []) ⟨6, [(0, .var 130 (Reader.cells r.1)),(1, .var 45 [(.int .i64 o1_0),(.str o1_1),(.bs 1 2 4 0 r.2.1.length),(.bs 4 3 5 0 r.2.2.length)]),(4, .row 9 (r.2.1.map sc).flatten),(5, .row 45 (r.2.2.map Node.cells).flatten)]⟩)) (fun e=>Zs (flt e)) r) (.again (jy [12] Tryz.f179 0).1 (jy [12] Tryz.f179 0).2 (.n (.ptr 0 0 0) (.n (.ptr 1 1 0) .z .z) (.n .undef (.n (.bool t4) .z .z) .z)) 7 [(0, .var 130 (Reader.cells o0)),(1, .var 45 [(.int .i64 o1_0),(.str o1_1),(.bs 1 2 5 0 o1_2.length),(.bs 4 3 6 0 o1_3.length)]),(5, .row 9 (o1_2.map sc).flatten),(6, .row 45 (o1_3.map Node.cells).flatten)])
@[reducible] def uc (o0:Reader) (o1_0:Int) (o1_1:BA) (o1_2:LB) (o1_3:LN) (r:Except Int (Reader × LB × LN)):Prop:=
  Ok Tryz.prog G tt 23 4 (exq (fun (r:Reader × LB × LN)=>Ret Tryz.prog [] (fun y H=>Q5 Tryz.prog G 4 H y (.tup []) ⟨6, [(0, .var 130 (Reader.cells r.1)),(1, .var 45 [(.int .i64 o1_0),(.str o1_1),(.bs 1 2 4 0 r.2.1.length),(.bs 4 3 5 0 r.2.2.length)]),(4, .row 9 (r.2.1.map sc).flatten),(5, .row 45 (r.2.2.map Node.cells).flatten)]⟩)) (fun e=>Zs (flt e)) r) (.go [] (Zg [12] Tryz.f179 12) [] (.n (.ptr 0 0 0) (.n (.ptr 1 1 0) .z .z) .z) 10 [(0, .var 130 (Reader.cells o0)),(1, .var 45 [(.int .i64 o1_0),(.str o1_1),(.bs 1 2 8 0 o1_2.length),(.bs 4 3 9 0 o1_3.length)]),(8, .row 9 (o1_2.map sc).flatten),(9, .row 45 (o1_3.map Node.cells).flatten)])
theorem jm:PC2 Qm qz∧PC3 vf jh∧PC1 Q1 js∧PC2 vp jb∧PC5 vg z6∧PC6 um zx∧PC5 uc jq∧PC1 Qb yq:=by
 refine qz.mutual_partial_correctness Qm vf Q1 vp vg um uc Qb (fun qz jh js qt wu j9 a0 a1 r h=> ?_) (fun qz jh qt wu t1 o0 o2 r h=> ?_) (fun js jb yq j9 wy Qd a0 r h=> ?_) (fun jb z6 wy ym o0 o2 r h=> ?_) (fun zx kp a0 a1 a2 a3 a4 r h=> ?_) (fun jq ue t4 o0 o1_0 o1_1 o1_2 o1_3 r h=> ?_) (fun qz zx qt kp o0 o1_0 o1_1 o1_2 o1_3 r h=> ?_) (fun qz z6 qt ym a0 r h=> ?_)
 ·unfold qa at h
  refine Yt (T:=tt) (N:=33) (rs:= [.cell 4 45]) (fun vs w=>by simp) Tryz.func125 rfl rfl rfl (by kernel_rfl) (by kernel_rfl) (kw rfl rfl kx) (zr zt) (fun r=>(kq rfl ku)) (fun r=>(zr zt)) (fun _=>rfl) (fun _=>rfl) rfl (fun _=>rfl) ?_
  refine kr [1000000] ?_
  refine qf (fun hb=> ?_) (fun hb=> ?_)
  ·replace h:=qu hb h
   refine kr [1000000] ?_
   obtain ⟨x1,hx,h⟩:=bind_some h
   rcases x1 with ee | x1
   ·replace h:some (.error ee)=some r:=h
    cases h
    exact q7 (FC.go (j9 _ _ hx) [0] [0] rfl rfl rfl rfl rfl rfl)
   refine qc (AC.g9 (j9 _ _ hx) [0] [0]) ?_
   refine kr [1000000] ?_
   cases h
   exact yh env rfl rfl (tS [some 0] (sV (lS (lS lN)) zw) (j6 (yy (qi (qh (zm rfl) rfl) (qi (qh (jn rfl) rfl) (qi (qh (y5 (.inl rfl)) rfl) (qi (qh (y5 (.inl rfl)) rfl) yx))))) (by simp)))
  replace h:=qv hb h
  refine kr [1000000] ?_
  obtain ⟨x2,hx,h⟩:=bind_some h
  rcases x2 with ee | x2
  ·replace h:some (.error ee)=some r:=h
   cases h
   exact q7 (FC.go (qt _ _ _ hx) [0] [0] rfl rfl rfl rfl rfl rfl)
  refine qc (AC.g9 (qt _ _ _ hx) [0] [0]) ?_
  refine kr [1000000] ?_
  exact jv (by kernel_rfl) lQ (wu _ _ _ _ h)
 ·unfold qa at h
  refine yc ?_
  refine kr [1000000] ?_
  obtain ⟨x34,hx,h⟩:=bind_some h
  refine qc (AC.g9 (jd _ _ hx) [0] [0]) ?_
  refine kr [1000000] ?_
  obtain ⟨x35,hx,h⟩:=bind_some h
  refine qp (qjq _ _ hx) ?_
  refine kr [1000000] ?_
  refine qf (fun hb=> ?_) (fun hb=> ?_)
  ·replace h:=qu hb h
   refine kr [1000000] ?_
   obtain ⟨x36,hx,h⟩:=bind_some h
   refine qc (ACalls.ghost (e:=45) (AC.g9 (yz _ _ _ hx) [0,3] [0,3])) ?_
   refine kr [1000000] ?_
   obtain ⟨x37,hx,h⟩:=bind_some h
   refine qc (AC.g9 (Yj _ _ _ _ _ _ hx) [4,3] [5,4]) ?_
   refine kr [1000000] ?_
   obtain ⟨x38,hx,h⟩:=bind_some h
   rcases x38 with ee | x38
   ·replace h:some (.error ee)=some r:=h
    cases h
    exact q7 (FC.go (qt _ _ _ hx) [0] [0] rfl rfl rfl rfl rfl rfl)
   refine qc (AC.g9 (qt _ _ _ hx) [0] [0]) ?_
   refine kr [1000000] ?_
   obtain ⟨x39,hx,h⟩:=bind_some h
   refine qc (AC.g9 (Yj _ _ _ _ _ _ hx) [4,3] [5,6]) ?_
   refine kr [1000000] ?_
   refine qf (fun hb=> ?_) (fun hb=> ?_)
   ·replace h:=qu hb h
    refine kr [1000000] ?_
    refine Jz 2 3 3 ze rfl rfl rfl rfl rfl rfl ?_
    exact zb (by kernel_rfl) rfl lQ (Zr _ _ _ h)
   replace h:=qv hb h
   refine kr [1000000] ?_
   refine qil 2 3 3 ze rfl rfl rfl rfl rfl ?_
   exact zp (by kernel_rfl) lQ (wu _ _ _ _ h)
  replace h:=qv hb h
  refine kr [1000000] ?_
  exact zb (by kernel_rfl) rfl lQ (Zr _ _ _ h)
 ·unfold qa at h
  refine Yt (T:=tt) (N:=33) (rs:= [.cell 2 45]) (fun vs w=>by simp) Tryz.func154 rfl rfl rfl (by kernel_rfl) (by kernel_rfl) (kw rfl rfl kx) (zr zt) (fun r=>(kq rfl ku)) (fun r=>(zr zt)) (fun _=>rfl) (fun _=>rfl) rfl (fun _=>rfl) ?_
  refine kr [3000023] ?_
  obtain ⟨x3,hx,h⟩:=bind_some h
  refine qc (AC.g9 (q6 _ _ _ hx) [0] [0]) ?_
  refine kr [3000023] ?_
  refine qq (fun hb=> ?_) (fun hb=> ?_)
  ·replace h:=qv hb h
   refine kr [3000023] ?_
   obtain ⟨x4,hx,h⟩:=bind_some h
   refine qc (AC.g9 (q6 _ _ _ hx) [0] [0]) ?_
   refine kr [3000023] ?_
   refine qf (fun hb=> ?_) (fun hb=> ?_)
   ·replace h:=qu hb h
    refine kr [3000023] ?_
    obtain ⟨x5,hx,h⟩:=bind_some h
    refine qc (ACalls.ghost (e:=45) (AC.g9 (yz _ _ _ hx) [0,2] [0,2])) ?_
    refine kr [3000023] ?_
    obtain ⟨x6,hx,h⟩:=bind_some h
    rcases x6 with ee | x6
    ·replace h:some (.error ee)=some r:=h
     cases h
     exact q7 (FC.go (j9 _ _ hx) [0] [0] rfl rfl rfl rfl rfl rfl)
    refine qc (AC.g9 (j9 _ _ hx) [0] [0]) ?_
    refine kr [3000023] ?_
    obtain ⟨x7,hx,h⟩:=bind_some h
    refine qc (AC.g9 (Yj _ _ _ _ _ _ hx) [3,2] [4,3]) ?_
    refine kr [3000023] ?_
    cases h
    exact yh env rfl rfl (tS [some 0] (sV (lS (lS lN)) zw) (j6 (yy (qi (qh (zm rfl) rfl) (qi (qh (jn rfl) rfl) (qi (qh (y5 (.inl rfl)) rfl) (qi (qh (jg ze rfl) rfl) yx))))) (by simp)))
   replace h:=qv hb h
   refine kr [3000023] ?_
   obtain ⟨x8,hx,h⟩:=bind_some h
   rcases x8 with ee | x8
   ·replace h:some (.error ee)=some r:=h
    cases h
    exact q7 (FC.go (Qd _ _ hx) [0] [0] rfl rfl rfl rfl rfl rfl)
   refine qc (AC.g9 (Qd _ _ hx) [0] [0]) ?_
   refine kr [3000023] ?_
   exact jv (by kernel_rfl) lQ (wy _ _ _ h)
  replace h:=qu hb h
  refine kr [3000023] ?_
  obtain ⟨x9,hx,h⟩:=bind_some h
  refine qc (ACalls.ghost (e:=45) (AC.g9 (yz _ _ _ hx) [0,2] [0,2])) ?_
  refine kr [3000023] ?_
  obtain ⟨x10,hx,h⟩:=bind_some h
  rcases x10 with ee | x10
  ·replace h:some (.error ee)=some r:=h
   cases h
   exact q7 (FC.go (j9 _ _ hx) [0] [0] rfl rfl rfl rfl rfl rfl)
  refine qc (AC.g9 (j9 _ _ hx) [0] [0]) ?_
  refine kr [3000023] ?_
  obtain ⟨x11,hx,h⟩:=bind_some h
  refine qc (AC.g9 (Yj _ _ _ _ _ _ hx) [3,2] [4,3]) ?_
  refine kr [3000023] ?_
  cases h
  exact yh env rfl rfl (tS [some 0] (sV (lS (lS lN)) zw) (j6 (yy (qi (qh (zm rfl) rfl) (qi (qh (jn rfl) rfl) (qi (qh (y5 (.inl rfl)) rfl) (qi (qh (jg ze rfl) rfl) yx))))) (by simp)))
 ·unfold qa at h
  refine yc ?_
  refine kr [3000023] ?_
  obtain ⟨x40,hx,h⟩:=bind_some h
  refine qc (AC.g9 (q6 _ _ _ hx) [0] [0]) ?_
  refine kr [3000023] ?_
  refine qf (fun hb=> ?_) (fun hb=> ?_)
  ·replace h:=qu hb h
   refine kr [3000023] ?_
   refine qwh (l:= [o2]) (C:=Node.cells) env rfl rfl rfl rfl rfl rfl (by simp only [List.map_cons,List.map_nil,Node.cells_eq];rfl) (by simp only [List.map_cons,List.map_nil,Node.cells_eq];rfl) rfl ?_
   refine kr [3000023] ?_
   obtain ⟨x41,hx,h⟩:=bind_some h
   rcases x41 with ee | x41
   ·replace h:some (.error ee)=some r:=h
    cases h
    exact q7 (FCalls.ghost (e:=9) (FCalls.wkg (FC.go (objs:= [(0, .var 130 (Reader.cells o0)),(1, .var 45 [(.int .i64 0),(.str ⟨#[]⟩),(.sl 0 true []),(.sl 0 true [])]),(2, .var 45 (zo o2)),(3, .row 45 (([o2]:LN).map Node.cells).flatten),(4, .var 45 [(.int .i64 (21:Int)),(.str ⟨#[]⟩),(.bs 1 5 5 0 ([]:LB).length),(.bs 4 3 3 0 ([o2]:LN).length)]),(5, .row 9 (([]:LB).map sc).flatten)]) (xs:= [(.ptr 0 0 0),(.ptr 4 4 0),(.str (⟨#[46]⟩:BA))]) (qb _ _ _ _ _ _ _ hx) [0,4,5,3] [0,4,5,3] rfl rfl rfl rfl rfl rfl) (qg (qr _) (qg (qr _) (qg (qr _) z7))) (qe (qe (qe (qe (jc (qd (qy _) (qd (qy _) (qd (za rfl) (qd (qy _) ju)))) (zi _))))))))
   refine qc (ACalls.ghost (e:=9) (ACalls.wkg (AC.go (objs:= [(0, .var 130 (Reader.cells o0)),(1, .var 45 [(.int .i64 0),(.str ⟨#[]⟩),(.sl 0 true []),(.sl 0 true [])]),(2, .var 45 (zo o2)),(3, .row 45 (([o2]:LN).map Node.cells).flatten),(4, .var 45 [(.int .i64 (21:Int)),(.str ⟨#[]⟩),(.bs 1 5 5 0 ([]:LB).length),(.bs 4 3 3 0 ([o2]:LN).length)]),(5, .row 9 (([]:LB).map sc).flatten)]) (xs:= [(.ptr 0 0 0),(.ptr 4 4 0),(.str (⟨#[46]⟩:BA))]) (qb _ _ _ _ _ _ _ hx) [0,4,5,3] [0,4,5,3] rfl rfl rfl rfl rfl rfl rfl rfl rfl) (qg (qr _) (qg (qr _) (qg (qr _) z7))) (qe (qe (qe (qe (jc (qd (qy _) (qd (qy _) (qd (za rfl) (qd (qy _) ju)))) (zi _)))))))) ?_
   refine kr [3000023] ?_
   obtain ⟨x42,hx,h⟩:=bind_some h
   rcases x42 with ee | x42
   ·replace h:some (.error ee)=some r:=h
    cases h
    exact q7 (FC.go (q8 _ _ _ _ _ _ hx) [0,4,5,3] [0,4,6,3] rfl rfl rfl rfl rfl rfl)
   refine qc (AC.g9 (q8 _ _ _ _ _ _ hx) [0,4,5,3] [0,4,6,3]) ?_
   refine kr [3000023] ?_
   obtain ⟨x43,hx,h⟩:=bind_some h
   rcases x43 with ee | x43
   ·replace h:some (.error ee)=some r:=h
    cases h
    exact q7 (FC.go (ym _ _ _ _ _ _ hx) [0,4,5,3] [0,4,7,3] rfl rfl rfl rfl rfl rfl)
   refine qc (AC.g9 (ym _ _ _ _ _ _ hx) [0,4,5,3] [0,4,7,3]) ?_
   refine kr [3000023] ?_
   refine qil 2 2 5 kv rfl rfl rfl rfl rfl ?_
   refine qil 2 3 3 ze rfl rfl rfl rfl rfl ?_
   exact zp (by kernel_rfl) lQ (wy _ _ _ h)
  replace h:=qv hb h
  refine kr [3000023] ?_
  cases h
  exact yh env rfl rfl (tS [some 0] (sV (lS (lS lN)) zw) (j6 (yy (qi (qh (zm rfl) rfl) (qi (qh (jn rfl) rfl) (qi (qh (y5 (.inl rfl)) rfl) (qi (qh (y5 (.inl rfl)) rfl) yx))))) (by simp)))
 ·unfold qa at h
  refine Yt (T:=tt) (N:=23) (rs:= []) (fun vs w=>by simp) Tryz.func179 rfl rfl rfl (by kernel_rfl) (by kernel_rfl) (kw rfl rfl (kw rfl rfl (Jb kv rfl (Jb ze rfl kx)))) (zr (zr (wi kv (wi ze zt)))) (fun r=>(kq rfl (kq rfl (Z8 kv (Z8 ze ku))))) (fun r=>(zr (zr (wi kv (wi ze zt))))) (fun _=>rfl) (fun _=>rfl) rfl (fun _=>rfl) ?_
  refine kr [12] ?_
  obtain ⟨x33,hx,h⟩:=bind_some h
  rcases x33 with ee | x33
  ·replace h:some (.error ee)=some r:=h
   cases h
   exact q7 (FC.go (qb _ _ _ _ _ _ _ hx) [0,1,2,3] [0,1,2,3] rfl rfl rfl rfl rfl rfl)
  refine qc (AC.g9 (qb _ _ _ _ _ _ _ hx) [0,1,2,3] [0,1,2,3]) ?_
  refine kr [12] ?_
  exact jv (by kernel_rfl) lQ (kp _ _ _ _ _ _ _ h)
 ·unfold qa at h
  refine yc ?_
  refine kr [12] ?_
  obtain ⟨x44,hx,h⟩:=bind_some h
  refine qc (AC.g9 (q6 _ _ _ hx) [0] [0]) ?_
  refine kr [12] ?_
  refine qf (fun hb=> ?_) (fun hb=> ?_)
  ·replace h:=qu hb h
   refine kr [12] ?_
   refine qf (fun hb=> ?_) (fun hb=> ?_)
   ·replace h:=qu hb h
    refine kr [12] ?_
    obtain ⟨x45,hx,h⟩:=bind_some h
    rcases x45 with ee | x45
    ·replace h:some (.error ee)=some r:=h
     cases h
     exact q7 (FC.go (qb _ _ _ _ _ _ _ hx) [0,1,2,3] [0,1,5,6] rfl rfl rfl rfl rfl rfl)
    refine qc (AC.g9 (qb _ _ _ _ _ _ _ hx) [0,1,2,3] [0,1,5,6]) ?_
    refine kr [12] ?_
    exact zb (by kernel_rfl) rfl lQ (ue _ _ _ _ _ _ h)
   replace h:=qv hb h
   refine kr [12] ?_
   exact zb (by kernel_rfl) rfl lQ (ue _ _ _ _ _ _ h)
  replace h:=qv hb h
  refine kr [12] ?_
  obtain ⟨x46,hx,h⟩:=bind_some h
  rcases x46 with ee | x46
  ·replace h:some (.error ee)=some r:=h
   cases h
   exact q7 (FC.go (qb _ _ _ _ _ _ _ hx) [0,1,2,3] [0,1,5,6] rfl rfl rfl rfl rfl rfl)
  refine qc (AC.g9 (qb _ _ _ _ _ _ _ hx) [0,1,2,3] [0,1,5,6]) ?_
  refine kr [12] ?_
  cases h
  exact qam env rfl (tS [some 0,some 1,some 2,some 3] (sV (lS (lS lN)) (sV (lS (lS (lS (lS lN)))) (sR kv (sR ze zw)))) (qd3 qb1))
 ·unfold qa at h
  refine kr [12] ?_
  obtain ⟨x47,hx,h⟩:=bind_some h
  rcases x47 with ee | x47
  ·replace h:some (.error ee)=some r:=h
   cases h
   exact q7 (FC.go (qt _ _ _ hx) [0] [0] rfl rfl rfl rfl rfl rfl)
  refine qc (AC.g9 (qt _ _ _ hx) [0] [0]) ?_
  refine kr [12] ?_
  obtain ⟨x48,hx,h⟩:=bind_some h
  refine qc (AC.g9 (zg _ _ _ _ _ _ hx) [1,2,3] [1,8,9]) ?_
  refine kr [12] ?_
  exact zp (by kernel_rfl) lQ (kp _ _ _ _ _ _ _ h)
 unfold qa at h
 refine Yt (T:=tt) (N:=61) (rs:= [.cell 2 45]) (fun vs w=>by simp) Tryz.func178 rfl rfl rfl (by kernel_rfl) (by kernel_rfl) (kw rfl rfl kx) (zr zt) (fun r=>(kq rfl ku)) (fun r=>(zr zt)) (fun _=>rfl) (fun _=>rfl) rfl (fun _=>rfl) ?_
 refine kr [56] ?_
 obtain ⟨x12,hx,h⟩:=bind_some h
 refine qc (AC.g9 (jd _ _ hx) [0] [0]) ?_
 refine kr [56] ?_
 refine qf (fun hb=> ?_) (fun hb=> ?_)
 ·replace h:=qu hb h
  refine kr [56] ?_
  obtain ⟨x13,hx,h⟩:=bind_some h
  refine qc (ACalls.ghost (e:=45) (AC.g9 (yz _ _ _ hx) [0,3] [0,3])) ?_
  refine kr [56] ?_
  cases h
  exact yh env rfl rfl (tS [some 0] (sV (lS (lS lN)) zw) (j6 (yy (qi (qh (zm rfl) rfl) (qi (qh (jn rfl) rfl) (qi (qh (y5 (.inl rfl)) rfl) (qi (qh (jg ze rfl) rfl) yx))))) (by simp)))
 replace h:=qv hb h
 refine kr [56] ?_
 obtain ⟨x14,hx,h⟩:=bind_some h
 refine qc (AC.g9 (q6 _ _ _ hx) [0] [0]) ?_
 refine kr [56] ?_
 refine qf (fun hb=> ?_) (fun hb=> ?_)
 ·replace h:=qu hb h
  refine kr [56] ?_
  obtain ⟨x15,hx,h⟩:=bind_some h
  refine qc (ACalls.ghost (e:=45) (AC.g9 (yz _ _ _ hx) [0,3] [0,3])) ?_
  refine kr [56] ?_
  cases h
  exact yh env rfl rfl (tS [some 0] (sV (lS (lS lN)) zw) (j6 (yy (qi (qh (zm rfl) rfl) (qi (qh (jn rfl) rfl) (qi (qh (y5 (.inl rfl)) rfl) (qi (qh (jg ze rfl) rfl) yx))))) (by simp)))
 replace h:=qv hb h
 refine kr [56] ?_
 obtain ⟨x16,hx,h⟩:=bind_some h
 refine qc (AC.g9 (q6 _ _ _ hx) [0] [0]) ?_
 refine kr [56] ?_
 refine qf (fun hb=> ?_) (fun hb=> ?_)
 ·replace h:=qu hb h
  refine kr [56] ?_
  obtain ⟨x17,hx,h⟩:=bind_some h
  refine qc (ACalls.ghost (e:=45) (AC.g9 (yz _ _ _ hx) [0,3] [0,3])) ?_
  refine kr [56] ?_
  cases h
  exact yh env rfl rfl (tS [some 0] (sV (lS (lS lN)) zw) (j6 (yy (qi (qh (zm rfl) rfl) (qi (qh (jn rfl) rfl) (qi (qh (y5 (.inl rfl)) rfl) (qi (qh (jg ze rfl) rfl) yx))))) (by simp)))
 replace h:=qv hb h
 refine kr [56] ?_
 obtain ⟨x18,hx,h⟩:=bind_some h
 refine qc (AC.g9 (q6 _ _ _ hx) [0] [0]) ?_
 refine kr [56] ?_
 refine qf (fun hb=> ?_) (fun hb=> ?_)
 ·replace h:=qu hb h
  refine kr [56] ?_
  obtain ⟨x19,hx,h⟩:=bind_some h
  refine qc (ACalls.ghost (e:=45) (AC.g9 (yz _ _ _ hx) [0,3] [0,3])) ?_
  refine kr [56] ?_
  cases h
  exact yh env rfl rfl (tS [some 0] (sV (lS (lS lN)) zw) (j6 (yy (qi (qh (zm rfl) rfl) (qi (qh (jn rfl) rfl) (qi (qh (y5 (.inl rfl)) rfl) (qi (qh (jg ze rfl) rfl) yx))))) (by simp)))
 replace h:=qv hb h
 refine kr [56] ?_
 obtain ⟨x20,hx,h⟩:=bind_some h
 refine qc (AC.g9 (q6 _ _ _ hx) [0] [0]) ?_
 refine kr [56] ?_
 refine qf (fun hb=> ?_) (fun hb=> ?_)
 ·replace h:=qu hb h
  refine kr [56] ?_
  obtain ⟨x21,hx,h⟩:=bind_some h
  rcases x21 with ee | x21
  ·replace h:some (.error ee)=some r:=h
   cases h
   exact q7 (FCalls.ghost (e:=9) (FCalls.ghost (e:=45) (FCalls.wkg (FC.go (objs:= [(0, .var 130 (Reader.cells a0)),(1, .var 45 [(.int .i64 0),(.str ⟨#[]⟩),(.sl 0 true []),(.sl 0 true [])]),(2, .var 118 (Token.cells x12)),(3, .var 45 [(.int .i64 (22:Int)),(.str ⟨#[]⟩),(.bs 1 4 4 0 ([]:LB).length),(.bs 4 5 5 0 ([]:LN).length)]),(4, .row 9 (([]:LB).map sc).flatten),(5, .row 45 (([]:LN).map Node.cells).flatten)]) (xs:= [(.ptr 0 0 0),(.ptr 3 3 0),(.str (⟨#[110,101,119]⟩:BA))]) (qb _ _ _ _ _ _ _ hx) [0,3,4,5] [0,3,4,5] rfl rfl rfl rfl rfl rfl) (qg (qr _) (qg (qr _) (qg (qr _) z7))) (qe (qe (qe (jc (qd (qy _) (qd (qy _) (qd (za rfl) (qd (za rfl) ju)))) (zi _))))))))
  refine qc (ACalls.ghost (e:=9) (ACalls.ghost (e:=45) (ACalls.wkg (AC.go (objs:= [(0, .var 130 (Reader.cells a0)),(1, .var 45 [(.int .i64 0),(.str ⟨#[]⟩),(.sl 0 true []),(.sl 0 true [])]),(2, .var 118 (Token.cells x12)),(3, .var 45 [(.int .i64 (22:Int)),(.str ⟨#[]⟩),(.bs 1 4 4 0 ([]:LB).length),(.bs 4 5 5 0 ([]:LN).length)]),(4, .row 9 (([]:LB).map sc).flatten),(5, .row 45 (([]:LN).map Node.cells).flatten)]) (xs:= [(.ptr 0 0 0),(.ptr 3 3 0),(.str (⟨#[110,101,119]⟩:BA))]) (qb _ _ _ _ _ _ _ hx) [0,3,4,5] [0,3,4,5] rfl rfl rfl rfl rfl rfl rfl rfl rfl) (qg (qr _) (qg (qr _) (qg (qr _) z7))) (qe (qe (qe (jc (qd (qy _) (qd (qy _) (qd (za rfl) (qd (za rfl) ju)))) (zi _)))))))) ?_
  refine kr [56] ?_
  obtain ⟨x22,hx,h⟩:=bind_some h
  rcases x22 with ee | x22
  ·replace h:some (.error ee)=some r:=h
   cases h
   exact q7 (FC.go (q8 _ _ _ _ _ _ hx) [0,3,4,5] [0,3,6,5] rfl rfl rfl rfl rfl rfl)
  refine qc (AC.g9 (q8 _ _ _ _ _ _ hx) [0,3,4,5] [0,3,6,5]) ?_
  refine kr [56] ?_
  obtain ⟨x23,hx,h⟩:=bind_some h
  rcases x23 with ee | x23
  ·replace h:some (.error ee)=some r:=h
   cases h
   exact q7 (FC.go (qb _ _ _ _ _ _ _ hx) [0,3,4,5] [0,3,7,5] rfl rfl rfl rfl rfl rfl)
  refine qc (AC.g9 (qb _ _ _ _ _ _ _ hx) [0,3,4,5] [0,3,7,5]) ?_
  refine kr [56] ?_
  obtain ⟨x24,hx,h⟩:=bind_some h
  rcases x24 with ee | x24
  ·replace h:some (.error ee)=some r:=h
   cases h
   exact q7 (FC.go (qb _ _ _ _ _ _ _ hx) [0,3,4,5] [0,3,8,5] rfl rfl rfl rfl rfl rfl)
  refine qc (AC.g9 (qb _ _ _ _ _ _ _ hx) [0,3,4,5] [0,3,8,5]) ?_
  refine kr [56] ?_
  cases h
  exact yh env rfl rfl (tS [some 0] (sV (lS (lS lN)) zw) (j6 (yy (qi (qh (zm rfl) rfl) (qi (qh (jn rfl) rfl) (qi (qh (jg kv rfl) rfl) (qi (qh (jg ze rfl) rfl) yx))))) (by simp)))
 replace h:=qv hb h
 refine kr [56] ?_
 obtain ⟨x25,hx,h⟩:=bind_some h
 refine qc (AC.g9 (q6 _ _ _ hx) [0] [0]) ?_
 refine kr [56] ?_
 refine qf (fun hb=> ?_) (fun hb=> ?_)
 ·replace h:=qu hb h
  refine kr [56] ?_
  obtain ⟨x26,hx,h⟩:=bind_some h
  rcases x26 with ee | x26
  ·replace h:some (.error ee)=some r:=h
   cases h
   exact q7 (FCalls.ghost (e:=9) (FCalls.ghost (e:=45) (FCalls.wkg (FC.go (objs:= [(0, .var 130 (Reader.cells a0)),(1, .var 45 [(.int .i64 0),(.str ⟨#[]⟩),(.sl 0 true []),(.sl 0 true [])]),(2, .var 118 (Token.cells x12)),(3, .var 45 [(.int .i64 (26:Int)),(.str ⟨#[]⟩),(.bs 1 4 4 0 ([]:LB).length),(.bs 4 5 5 0 ([]:LN).length)]),(4, .row 9 (([]:LB).map sc).flatten),(5, .row 45 (([]:LN).map Node.cells).flatten)]) (xs:= [(.ptr 0 0 0),(.ptr 3 3 0),(.str (⟨#[40]⟩:BA))]) (qb _ _ _ _ _ _ _ hx) [0,3,4,5] [0,3,4,5] rfl rfl rfl rfl rfl rfl) (qg (qr _) (qg (qr _) (qg (qr _) z7))) (qe (qe (qe (jc (qd (qy _) (qd (qy _) (qd (za rfl) (qd (za rfl) ju)))) (zi _))))))))
  refine qc (ACalls.ghost (e:=9) (ACalls.ghost (e:=45) (ACalls.wkg (AC.go (objs:= [(0, .var 130 (Reader.cells a0)),(1, .var 45 [(.int .i64 0),(.str ⟨#[]⟩),(.sl 0 true []),(.sl 0 true [])]),(2, .var 118 (Token.cells x12)),(3, .var 45 [(.int .i64 (26:Int)),(.str ⟨#[]⟩),(.bs 1 4 4 0 ([]:LB).length),(.bs 4 5 5 0 ([]:LN).length)]),(4, .row 9 (([]:LB).map sc).flatten),(5, .row 45 (([]:LN).map Node.cells).flatten)]) (xs:= [(.ptr 0 0 0),(.ptr 3 3 0),(.str (⟨#[40]⟩:BA))]) (qb _ _ _ _ _ _ _ hx) [0,3,4,5] [0,3,4,5] rfl rfl rfl rfl rfl rfl rfl rfl rfl) (qg (qr _) (qg (qr _) (qg (qr _) z7))) (qe (qe (qe (jc (qd (qy _) (qd (qy _) (qd (za rfl) (qd (za rfl) ju)))) (zi _)))))))) ?_
  refine kr [56] ?_
  obtain ⟨x27,hx,h⟩:=bind_some h
  rcases x27 with ee | x27
  ·replace h:some (.error ee)=some r:=h
   cases h
   exact q7 (FC.go (qt _ _ _ hx) [0] [0] rfl rfl rfl rfl rfl rfl)
  refine qc (AC.g9 (qt _ _ _ hx) [0] [0]) ?_
  refine kr [56] ?_
  obtain ⟨x28,hx,h⟩:=bind_some h
  refine qc (AC.g9 (zg _ _ _ _ _ _ hx) [3,4,5] [3,6,5]) ?_
  refine kr [56] ?_
  obtain ⟨x29,hx,h⟩:=bind_some h
  rcases x29 with ee | x29
  ·replace h:some (.error ee)=some r:=h
   cases h
   exact q7 (FC.go (qb _ _ _ _ _ _ _ hx) [0,3,4,5] [0,3,6,7] rfl rfl rfl rfl rfl rfl)
  refine qc (AC.g9 (qb _ _ _ _ _ _ _ hx) [0,3,4,5] [0,3,6,7]) ?_
  refine kr [56] ?_
  cases h
  exact yh env rfl rfl (tS [some 0] (sV (lS (lS lN)) zw) (j6 (yy (qi (qh (zm rfl) rfl) (qi (qh (jn rfl) rfl) (qi (qh (jg kv rfl) rfl) (qi (qh (jg ze rfl) rfl) yx))))) (by simp)))
 replace h:=qv hb h
 refine kr [56] ?_
 obtain ⟨x30,hx,h⟩:=bind_some h
 rcases x30 with ee | x30
 ·replace h:some (.error ee)=some r:=h
  cases h
  exact q7 (FCalls.ghost (e:=9) (FCalls.ghost (e:=45) (FCalls.wkg (FC.go (objs:= [(0, .var 130 (Reader.cells a0)),(1, .var 45 [(.int .i64 0),(.str ⟨#[]⟩),(.sl 0 true []),(.sl 0 true [])]),(2, .var 118 (Token.cells x12)),(3, .var 45 [(.int .i64 (19:Int)),(.str ⟨#[]⟩),(.bs 1 4 4 0 ([]:LB).length),(.bs 4 5 5 0 ([]:LN).length)]),(4, .row 9 (([]:LB).map sc).flatten),(5, .row 45 (([]:LN).map Node.cells).flatten)]) (xs:= [(.ptr 0 0 0),(.ptr 3 3 0)]) (q8 _ _ _ _ _ _ hx) [0,3,4,5] [0,3,4,5] rfl rfl rfl rfl rfl rfl) (qg (qr _) (qg (qr _) z7)) (qe (qe (qe (jc (qd (qy _) (qd (qy _) (qd (za rfl) (qd (za rfl) ju)))) (zi _))))))))
 refine qc (ACalls.ghost (e:=9) (ACalls.ghost (e:=45) (ACalls.wkg (AC.go (objs:= [(0, .var 130 (Reader.cells a0)),(1, .var 45 [(.int .i64 0),(.str ⟨#[]⟩),(.sl 0 true []),(.sl 0 true [])]),(2, .var 118 (Token.cells x12)),(3, .var 45 [(.int .i64 (19:Int)),(.str ⟨#[]⟩),(.bs 1 4 4 0 ([]:LB).length),(.bs 4 5 5 0 ([]:LN).length)]),(4, .row 9 (([]:LB).map sc).flatten),(5, .row 45 (([]:LN).map Node.cells).flatten)]) (xs:= [(.ptr 0 0 0),(.ptr 3 3 0)]) (q8 _ _ _ _ _ _ hx) [0,3,4,5] [0,3,4,5] rfl rfl rfl rfl rfl rfl rfl rfl rfl) (qg (qr _) (qg (qr _) z7)) (qe (qe (qe (jc (qd (qy _) (qd (qy _) (qd (za rfl) (qd (za rfl) ju)))) (zi _)))))))) ?_
 refine kr [56] ?_
 obtain ⟨x31,hx,h⟩:=bind_some h
 refine qc (AC.g9 (q6 _ _ _ hx) [0] [0]) ?_
 refine kr [56] ?_
 refine qf (fun hb=> ?_) (fun hb=> ?_)
 ·replace h:=qu hb h
  refine kr [56] ?_
  obtain ⟨x32,hx,h⟩:=bind_some h
  rcases x32 with ee | x32
  ·replace h:some (.error ee)=some r:=h
   cases h
   exact q7 (FC.go (ym _ _ _ _ _ _ hx) [0,3,4,5] [0,3,6,5] rfl rfl rfl rfl rfl rfl)
  refine qc (AC.g9 (ym _ _ _ _ _ _ hx) [0,3,4,5] [0,3,6,5]) ?_
  refine kr [56] ?_
  exact zb (by kernel_rfl) rfl lQ (Zd _ _ _ _ _ _ h)
 replace h:=qv hb h
 refine kr [56] ?_
 exact zb (by kernel_rfl) rfl lQ (Zd _ _ _ _ _ _ h)
theorem qt:PC2 Qm qz:=jm.1
theorem wu:PC3 vf jh:=jm.2.1
theorem j9:PC1 Q1 js:=jm.2.2.1
theorem wy:PC2 vp jb:=jm.2.2.2.1
theorem ym:PC5 vg z6:=jm.2.2.2.2.1
theorem kp:PC6 um zx:=jm.2.2.2.2.2.1
theorem ue:PC5 uc jq:=jm.2.2.2.2.2.2.1
theorem Qd:PC1 Qb yq:=jm.2.2.2.2.2.2.2
def we (a0:Reader) (a1:Int) (a2:BA):Option (Except Int (Node × Reader)):=
 qj a0 a1 (⟨#[]⟩) ([]:LB) ([]:LN) a2 >>=fun x1=>
 match x1 with
 | .error ee=>some (.error ee)
 | .ok x1=>
 zq x1.1 a1 (⟨#[]⟩) x1.2 ([]:LN) >>=fun x2=>
 match x2 with
 | .error ee=>some (.error ee)
 | .ok x2=>
 qj x2.1 a1 x2.2.1 x2.2.2 ([]:LN) (⟨#[61]⟩:BA) >>=fun x3=>
 match x3 with
 | .error ee=>some (.error ee)
 | .ok x3=>
 qz x3.1 (1:Int) >>=fun x4=>
 match x4 with
 | .error ee=>some (.error ee)
 | .ok x4=>
 zf a1 x2.2.1 x3.2 ([]:LN) x4.1 >>=fun x5=>
 qj x4.2 a1 x2.2.1 x3.2 x5 (⟨#[59]⟩:BA) >>=fun x6=>
 match x6 with
 | .error ee=>some (.error ee)
 | .ok x6=>
 some (.ok ((Node.mk a1 x2.2.1 x6.2 x5),x6.1))
@[reducible] def qbu (a0:Reader) (a1:Int) (a2:BA) (r:Except Int (Node × Reader)):Prop:=
  exq (fun (r:Node × Reader)=>AC Tryz.prog G 85 [(.ptr 0 0 0),(.int .i64 a1),(.str a2)] 1 [(0, .var 130 (Reader.cells a0))] (.agg (zo r.1)) 1 [(0, .var 130 (Reader.cells r.2))]) (fun e=>FC Tryz.prog G 85 [(.ptr 0 0 0),(.int .i64 a1),(.str a2)] 1 [(0, .var 130 (Reader.cells a0))] (flt e)) r
theorem ux:PC3 qbu we:=fun a0 a1 a2 r h=>by
 rw [we.eq_def] at h
 refine Yt (T:=tt) (N:=23) (rs:= [.cell 6 45]) (fun vs w=>by simp) Tryz.func85 rfl rfl rfl (by kernel_rfl) (by kernel_rfl) (kw rfl rfl kx) (zr zt) (fun r=>(kq rfl ku)) (fun r=>(zr zt)) (fun _=>rfl) (fun _=>rfl) rfl (fun _=>rfl) ?_
 refine kr [] ?_
 obtain ⟨x1,hx,h⟩:=bind_some h
 rcases x1 with ee | x1
 ·replace h:some (.error ee)=some r:=h
  cases h
  exact q7 (FCalls.ghost (e:=9) (FCalls.ghost (e:=45) (FCalls.wkg (FC.go (objs:= [(0, .var 130 (Reader.cells a0)),(1, .var 45 [(.int .i64 0),(.str ⟨#[]⟩),(.sl 0 true []),(.sl 0 true [])]),(2, .var 45 [(.int .i64 a1),(.str ⟨#[]⟩),(.bs 1 3 3 0 ([]:LB).length),(.bs 4 4 4 0 ([]:LN).length)]),(3, .row 9 (([]:LB).map sc).flatten),(4, .row 45 (([]:LN).map Node.cells).flatten)]) (xs:= [(.ptr 0 0 0),(.ptr 2 2 0),(.str a2)]) (qb _ _ _ _ _ _ _ hx) [0,2,3,4] [0,2,3,4] rfl rfl rfl rfl rfl rfl) (qg (qr _) (qg (qr _) (qg (qr _) z7))) (qe (qe (jc (qd (qy _) (qd (qy _) (qd (za rfl) (qd (za rfl) ju)))) (zi _)))))))
 refine qc (ACalls.ghost (e:=9) (ACalls.ghost (e:=45) (ACalls.wkg (AC.go (objs:= [(0, .var 130 (Reader.cells a0)),(1, .var 45 [(.int .i64 0),(.str ⟨#[]⟩),(.sl 0 true []),(.sl 0 true [])]),(2, .var 45 [(.int .i64 a1),(.str ⟨#[]⟩),(.bs 1 3 3 0 ([]:LB).length),(.bs 4 4 4 0 ([]:LN).length)]),(3, .row 9 (([]:LB).map sc).flatten),(4, .row 45 (([]:LN).map Node.cells).flatten)]) (xs:= [(.ptr 0 0 0),(.ptr 2 2 0),(.str a2)]) (qb _ _ _ _ _ _ _ hx) [0,2,3,4] [0,2,3,4] rfl rfl rfl rfl rfl rfl rfl rfl rfl) (qg (qr _) (qg (qr _) (qg (qr _) z7))) (qe (qe (jc (qd (qy _) (qd (qy _) (qd (za rfl) (qd (za rfl) ju)))) (zi _))))))) ?_
 refine kr [] ?_
 obtain ⟨x2,hx,h⟩:=bind_some h
 rcases x2 with ee | x2
 ·replace h:some (.error ee)=some r:=h
  cases h
  exact q7 (FC.go (q8 _ _ _ _ _ _ hx) [0,2,3,4] [0,2,5,4] rfl rfl rfl rfl rfl rfl)
 refine qc (AC.g9 (q8 _ _ _ _ _ _ hx) [0,2,3,4] [0,2,5,4]) ?_
 refine kr [] ?_
 obtain ⟨x3,hx,h⟩:=bind_some h
 rcases x3 with ee | x3
 ·replace h:some (.error ee)=some r:=h
  cases h
  exact q7 (FC.go (qb _ _ _ _ _ _ _ hx) [0,2,3,4] [0,2,6,4] rfl rfl rfl rfl rfl rfl)
 refine qc (AC.g9 (qb _ _ _ _ _ _ _ hx) [0,2,3,4] [0,2,6,4]) ?_
 refine kr [] ?_
 obtain ⟨x4,hx,h⟩:=bind_some h
 rcases x4 with ee | x4
 ·replace h:some (.error ee)=some r:=h
  cases h
  exact q7 (FC.go (qt _ _ _ hx) [0] [0] rfl rfl rfl rfl rfl rfl)
 refine qc (AC.g9 (qt _ _ _ hx) [0] [0]) ?_
 refine kr [] ?_
 obtain ⟨x5,hx,h⟩:=bind_some h
 refine qc (AC.g9 (zg _ _ _ _ _ _ hx) [2,3,4] [2,7,4]) ?_
 refine kr [] ?_
 obtain ⟨x6,hx,h⟩:=bind_some h
 rcases x6 with ee | x6
 ·replace h:some (.error ee)=some r:=h
  cases h
  exact q7 (FC.go (qb _ _ _ _ _ _ _ hx) [0,2,3,4] [0,2,7,8] rfl rfl rfl rfl rfl rfl)
 refine qc (AC.g9 (qb _ _ _ _ _ _ _ hx) [0,2,3,4] [0,2,7,8]) ?_
 refine kr [] ?_
 cases h
 exact yh env rfl rfl (tS [some 0] (sV (lS (lS lN)) zw) (j6 (yy (qi (qh (zm rfl) rfl) (qi (qh (jn rfl) rfl) (qi (qh (jg kv rfl) rfl) (qi (qh (jg ze rfl) rfl) yx))))) (by simp)))
def yb (o0:Reader) (o2_0:Int) (o2_1:BA) (o2_2:LB) (o2_3:LN) (o5:Node):Option (Except Int (Node × Reader)):=
 zf o2_0 o2_1 o2_2 o2_3 o5 >>=fun x37=>
 some (.ok ((Node.mk o2_0 o2_1 o2_2 x37),o0))
@[reducible] def Ki (o0:Reader) (o2_0:Int) (o2_1:BA) (o2_2:LB) (o2_3:LN) (o5:Node) (r:Except Int (Node × Reader)):Prop:=
  Ok Tryz.prog G tt 106 1 (exq (fun (r:Node × Reader)=>Ret Tryz.prog [.cell 2 45] (fun y H=>Q5 Tryz.prog G 1 H y (.agg (zo r.1)) ⟨1, [(0, .var 130 (Reader.cells r.2))]⟩)) (fun e=>Zs (flt e)) r) (.go [] (Zg [41,87] Tryz.f153 41) [] (.n .undef (.n .undef .z (.n (.ptr 5 8 0) .z .z)) (.n (.ptr 1 1 0) (.n (.ptr 2 2 0) .z .z) .z)) 13 [(0, .var 130 (Reader.cells o0)),(1, .var 45 [(.int .i64 0),(.str ⟨#[]⟩),(.sl 0 true []),(.sl 0 true [])]),(2, .var 45 [(.int .i64 o2_0),(.str o2_1),(.bs 1 3 5 0 o2_2.length),(.bs 4 4 7 0 o2_3.length)]),(5, .row 9 (o2_2.map sc).flatten),(7, .row 45 (o2_3.map Node.cells).flatten),(8, .var 45 (zo o5))])
theorem Qy:PC6 Ki yb:=fun o0 o2_0 o2_1 o2_2 o2_3 o5 r h=>by
 rw [yb.eq_def] at h
 refine kr [41,87] ?_
 obtain ⟨x37,hx,h⟩:=bind_some h
 refine qc (AC.g9 (zg _ _ _ _ _ _ hx) [2,3,4] [2,5,7]) ?_
 refine kr [41,87] ?_
 cases h
 exact yh env rfl rfl (tS [some 0] (sV (lS (lS lN)) zw) (j6 (yy (qi (qh (zm rfl) rfl) (qi (qh (jn rfl) rfl) (qi (qh (jg kv rfl) rfl) (qi (qh (jg ze rfl) rfl) yx))))) (by simp)))
def jp (o0:Reader):Option (Except Int (Node × Reader)):=
 qz o0 (1:Int) >>=fun x38=>
 match x38 with
 | .error ee=>some (.error ee)
 | .ok x38=>
 zf (16:Int) (⟨#[]⟩) ([]:LB) ([]:LN) x38.1 >>=fun x39=>
 qj x38.2 (16:Int) (⟨#[]⟩) ([]:LB) x39 (⟨#[59]⟩:BA) >>=fun x40=>
 match x40 with
 | .error ee=>some (.error ee)
 | .ok x40=>
 some (.ok ((Node.mk (16:Int) (⟨#[]⟩) x40.2 x39),x40.1))
@[reducible] def Kh (o0:Reader) (r:Except Int (Node × Reader)):Prop:=
  Ok Tryz.prog G tt 106 1 (exq (fun (r:Node × Reader)=>Ret Tryz.prog [.cell 2 45] (fun y H=>Q5 Tryz.prog G 1 H y (.agg (zo r.1)) ⟨1, [(0, .var 130 (Reader.cells r.2))]⟩)) (fun e=>Zs (flt e)) r) (.go [] (Zg [41,87] Tryz.f153 87) [] (.n (.ptr 0 0 0) .z (.n (.ptr 1 1 0) .z .z)) 3 [(0, .var 130 (Reader.cells o0)),(1, .var 45 [(.int .i64 0),(.str ⟨#[]⟩),(.sl 0 true []),(.sl 0 true [])])])
theorem ud:PC1 Kh jp:=fun o0 r h=>by
 rw [jp.eq_def] at h
 refine kr [41,87] ?_
 obtain ⟨x38,hx,h⟩:=bind_some h
 rcases x38 with ee | x38
 ·replace h:some (.error ee)=some r:=h
  cases h
  exact q7 (FC.go (qt _ _ _ hx) [0] [0] rfl rfl rfl rfl rfl rfl)
 refine qc (AC.g9 (qt _ _ _ hx) [0] [0]) ?_
 refine kr [41,87] ?_
 obtain ⟨x39,hx,h⟩:=bind_some h
 refine qc (ACalls.ghost (e:=9) (ACalls.ghost (e:=45) (ACalls.wkg (AC.go (objs:= [(0, .var 130 (Reader.cells x38.2)),(1, .var 45 [(.int .i64 0),(.str ⟨#[]⟩),(.sl 0 true []),(.sl 0 true [])]),(3, .var 45 [(.int .i64 (16:Int)),(.str ⟨#[]⟩),(.bs 1 3 4 0 ([]:LB).length),(.bs 4 4 5 0 ([]:LN).length)]),(4, .row 9 (([]:LB).map sc).flatten),(5, .row 45 (([]:LN).map Node.cells).flatten)]) (xs:= [(.ptr 2 3 0),(.agg (zo x38.1))]) (zg _ _ _ _ _ _ hx) [2,3,4] [3,4,5] rfl rfl rfl rfl rfl rfl rfl rfl rfl) (qg (qr _) (qg (qr _) z7)) (qe (qe (jc (qd (qy _) (qd (qy _) (qd (za rfl) (qd (za rfl) ju)))) (zi _))))))) ?_
 refine kr [41,87] ?_
 obtain ⟨x40,hx,h⟩:=bind_some h
 rcases x40 with ee | x40
 ·replace h:some (.error ee)=some r:=h
  cases h
  exact q7 (FC.go (qb _ _ _ _ _ _ _ hx) [0,2,3,4] [0,3,4,6] rfl rfl rfl rfl rfl rfl)
 refine qc (AC.g9 (qb _ _ _ _ _ _ _ hx) [0,2,3,4] [0,3,4,6]) ?_
 refine kr [41,87] ?_
 cases h
 exact yh env rfl rfl (tS [some 0] (sV (lS (lS lN)) zw) (j6 (yy (qi (qh (zm rfl) rfl) (qi (qh (jn rfl) rfl) (qi (qh (jg kv rfl) rfl) (qi (qh (jg ze rfl) rfl) yx))))) (by simp)))
mutual
def zv (a0:Reader):Option (Except Int (Node × Reader)):=
 qj (qa a0) (6:Int) (⟨#[]⟩) ([]:LB) ([]:LN) (⟨#[123]⟩:BA) >>=fun x1=>
 match x1 with
 | .error ee=>some (.error ee)
 | .ok x1=>
 jj x1.1 (6:Int) (⟨#[]⟩) x1.2 ([]:LN)
 partial_fixpoint
def jw (a0:Reader):Option (Except Int (Node × Reader)):=
 q4 (qa a0) (⟨#[108,101,116]⟩:BA) >>=fun x2=>
 if x2=true then
  we (qa a0) (10:Int) (⟨#[108,101,116]⟩:BA) >>=fun x3=>
  match x3 with
  | .error ee=>some (.error ee)
  | .ok x3=>
  some (.ok (x3.1,x3.2))
 else
  q4 (qa a0) (⟨#[114,101,116,117,114,110]⟩:BA) >>=fun x4=>
  if x4=true then
   qj (qa a0) (12:Int) (⟨#[]⟩) ([]:LB) ([]:LN) (⟨#[114,101,116,117,114,110]⟩:BA) >>=fun x5=>
   match x5 with
   | .error ee=>some (.error ee)
   | .ok x5=>
   qz x5.1 (1:Int) >>=fun x6=>
   match x6 with
   | .error ee=>some (.error ee)
   | .ok x6=>
   zf (12:Int) (⟨#[]⟩) x5.2 ([]:LN) x6.1 >>=fun x7=>
   qj x6.2 (12:Int) (⟨#[]⟩) x5.2 (qa x7) (⟨#[59]⟩:BA) >>=fun x8=>
   match x8 with
   | .error ee=>some (.error ee)
   | .ok x8=>
   some (.ok ((Node.mk (12:Int) (⟨#[]⟩) x8.2 x7),x8.1))
  else
   q4 (qa a0) (⟨#[105,102]⟩:BA) >>=fun x9=>
   if x9=true then
    qj (qa a0) (13:Int) (⟨#[]⟩) ([]:LB) ([]:LN) (⟨#[105,102]⟩:BA) >>=fun x10=>
    match x10 with
    | .error ee=>some (.error ee)
    | .ok x10=>
    qz x10.1 (1:Int) >>=fun x11=>
    match x11 with
    | .error ee=>some (.error ee)
    | .ok x11=>
    zf (13:Int) (⟨#[]⟩) x10.2 ([]:LN) x11.1 >>=fun x12=>
    zv x11.2 >>=fun x13=>
    match x13 with
    | .error ee=>some (.error ee)
    | .ok x13=>
    zf (13:Int) (⟨#[]⟩) x10.2 (qa x12) x13.1 >>=fun x14=>
    q4 x13.2 (⟨#[101,108,115,101]⟩:BA) >>=fun x15=>
    if x15=true then
     qj x13.2 (14:Int) (⟨#[]⟩) ([]:LB) ([]:LN) (⟨#[101,108,115,101]⟩:BA) >>=fun x16=>
     match x16 with
     | .error ee=>some (.error ee)
     | .ok x16=>
     zv x16.1 >>=fun x17=>
     match x17 with
     | .error ee=>some (.error ee)
     | .ok x17=>
     zf (14:Int) (⟨#[]⟩) x16.2 ([]:LN) x17.1 >>=fun x18=>
     yb x17.2 (13:Int) (⟨#[]⟩) x10.2 (qa x14) (Node.mk (14:Int) (⟨#[]⟩) x16.2 x18)
    else
     yb x13.2 (13:Int) (⟨#[]⟩) x10.2 (qa x14) (Node.mk (14:Int) (⟨#[]⟩) ([]:LB) ([]:LN))
   else
    q4 (qa a0) (⟨#[119,104,105,108,101]⟩:BA) >>=fun x19=>
    if x19=true then
     qj (qa a0) (15:Int) (⟨#[]⟩) ([]:LB) ([]:LN) (⟨#[119,104,105,108,101]⟩:BA) >>=fun x20=>
     match x20 with
     | .error ee=>some (.error ee)
     | .ok x20=>
     qz x20.1 (1:Int) >>=fun x21=>
     match x21 with
     | .error ee=>some (.error ee)
     | .ok x21=>
     zf (15:Int) (⟨#[]⟩) x20.2 ([]:LN) x21.1 >>=fun x22=>
     zv x21.2 >>=fun x23=>
     match x23 with
     | .error ee=>some (.error ee)
     | .ok x23=>
     zf (15:Int) (⟨#[]⟩) x20.2 (qa x22) x23.1 >>=fun x24=>
     some (.ok ((Node.mk (15:Int) (⟨#[]⟩) x20.2 x24),x23.2))
    else
     zk (qa a0) >>=fun x25=>
     if (decide (x25.Kind=(1:Int)))=true then
      Kq x25.Text >>=fun x26=>
      if x26=true then
       ix a0.l_ (IntKind.i64.wrap (a0.at_+(1:Int))) >>=fun x27=>
       if (decide (x27.Text=(⟨#[61]⟩:BA)))=true then
        zq (qa a0) (11:Int) (⟨#[]⟩) ([]:LB) ([]:LN) >>=fun x28=>
        match x28 with
        | .error ee=>some (.error ee)
        | .ok x28=>
        qj x28.1 (11:Int) x28.2.1 x28.2.2 ([]:LN) (⟨#[61]⟩:BA) >>=fun x29=>
        match x29 with
        | .error ee=>some (.error ee)
        | .ok x29=>
        qz x29.1 (1:Int) >>=fun x30=>
        match x30 with
        | .error ee=>some (.error ee)
        | .ok x30=>
        zf (11:Int) x28.2.1 x29.2 ([]:LN) x30.1 >>=fun x31=>
        qj x30.2 (11:Int) x28.2.1 x29.2 (qa x31) (⟨#[59]⟩:BA) >>=fun x32=>
        match x32 with
        | .error ee=>some (.error ee)
        | .ok x32=>
        some (.ok ((Node.mk (11:Int) x28.2.1 x32.2 x31),x32.1))
       else
        jp (qa a0)
      else
       jp (qa a0)
     else
      jp (qa a0)
 partial_fixpoint
def jj (o0:Reader) (o2_0:Int) (o2_1:BA) (o2_2:LB) (o2_3:LN):Option (Except Int (Node × Reader)):=
 q4 (qa o0) (⟨#[125]⟩:BA) >>=fun x33=>
 if (!x33)=true then
  jw (qa o0) >>=fun x34=>
  match x34 with
  | .error ee=>some (.error ee)
  | .ok x34=>
  zf (qa o2_0) (qa o2_1) (qa o2_2) (qa o2_3) x34.1 >>=fun x35=>
  jj x34.2 (qa o2_0) (qa o2_1) (qa o2_2) (qa x35)
 else
  qj (qa o0) (qa o2_0) (qa o2_1) (qa o2_2) (qa o2_3) (⟨#[125]⟩:BA) >>=fun x36=>
  match x36 with
  | .error ee=>some (.error ee)
  | .ok x36=>
  some (.ok ((Node.mk o2_0 o2_1 x36.2 o2_3),x36.1))
 partial_fixpoint
end
@[reducible] def Q2 (a0:Reader) (r:Except Int (Node × Reader)):Prop:=
  exq (fun (r:Node × Reader)=>AC Tryz.prog G 124 [(.ptr 0 0 0)] 1 [(0, .var 130 (Reader.cells a0))] (.agg (zo r.1)) 1 [(0, .var 130 (Reader.cells r.2))]) (fun e=>FC Tryz.prog G 124 [(.ptr 0 0 0)] 1 [(0, .var 130 (Reader.cells a0))] (flt e)) r
@[reducible] def ve (a0:Reader) (r:Except Int (Node × Reader)):Prop:=
  exq (fun (r:Node × Reader)=>AC Tryz.prog G 153 [(.ptr 0 0 0)] 1 [(0, .var 130 (Reader.cells a0))] (.agg (zo r.1)) 1 [(0, .var 130 (Reader.cells r.2))]) (fun e=>FC Tryz.prog G 153 [(.ptr 0 0 0)] 1 [(0, .var 130 (Reader.cells a0))] (flt e)) r
@[reducible] def vu (o0:Reader) (o2_0:Int) (o2_1:BA) (o2_2:LB) (o2_3:LN) (r:Except Int (Node × Reader)):Prop:=
  Ok Tryz.prog G tt 16 1 (exq (fun (r:Node × Reader)=>Ret Tryz.prog [.cell 2 45] (fun y H=>Q5 Tryz.prog G 1 H y (.agg (zo r.1)) ⟨1, [(0, .var 130 (Reader.cells r.2))]⟩)) (fun e=>Zs (flt e)) r) (.again (jy [] Tryz.f124 0).1 (jy [] Tryz.f124 0).2 (.n (.ptr 0 0 0) (.n .undef (.n (.ptr 2 2 0) .z .z) .z) (.n (.ptr 1 1 0) .z .z)) 6 [(0, .var 130 (Reader.cells o0)),(1, .var 45 [(.int .i64 0),(.str ⟨#[]⟩),(.sl 0 true []),(.sl 0 true [])]),(2, .var 45 [(.int .i64 o2_0),(.str o2_1),(.bs 1 3 5 0 o2_2.length),(.bs 4 4 4 0 o2_3.length)]),(5, .row 9 (o2_2.map sc).flatten),(4, .row 45 (o2_3.map Node.cells).flatten)])
theorem Qf:PC1 Q2 zv∧PC5 vu jj∧PC1 ve jw:=by
 refine zv.mutual_partial_correctness Q2 vu ve (fun jj w5 a0 r h=> ?_) (fun jj jw w5 vh o0 o2_0 o2_1 o2_2 o2_3 r h=> ?_) (fun zv jr a0 r h=> ?_)
 ·unfold qa at h
  refine Yt (T:=tt) (N:=16) (rs:= [.cell 2 45]) (fun vs w=>by simp) Tryz.func124 rfl rfl rfl (by kernel_rfl) (by kernel_rfl) (kw rfl rfl kx) (zr zt) (fun r=>(kq rfl ku)) (fun r=>(zr zt)) (fun _=>rfl) (fun _=>rfl) rfl (fun _=>rfl) ?_
  refine kr [] ?_
  obtain ⟨x1,hx,h⟩:=bind_some h
  rcases x1 with ee | x1
  ·replace h:some (.error ee)=some r:=h
   cases h
   exact q7 (FCalls.ghost (e:=9) (FCalls.ghost (e:=45) (FCalls.wkg (FC.go (objs:= [(0, .var 130 (Reader.cells a0)),(1, .var 45 [(.int .i64 0),(.str ⟨#[]⟩),(.sl 0 true []),(.sl 0 true [])]),(2, .var 45 [(.int .i64 (6:Int)),(.str ⟨#[]⟩),(.bs 1 3 3 0 ([]:LB).length),(.bs 4 4 4 0 ([]:LN).length)]),(3, .row 9 (([]:LB).map sc).flatten),(4, .row 45 (([]:LN).map Node.cells).flatten)]) (xs:= [(.ptr 0 0 0),(.ptr 2 2 0),(.str (⟨#[123]⟩:BA))]) (qb _ _ _ _ _ _ _ hx) [0,2,3,4] [0,2,3,4] rfl rfl rfl rfl rfl rfl) (qg (qr _) (qg (qr _) (qg (qr _) z7))) (qe (qe (jc (qd (qy _) (qd (qy _) (qd (za rfl) (qd (za rfl) ju)))) (zi _)))))))
  refine qc (ACalls.ghost (e:=9) (ACalls.ghost (e:=45) (ACalls.wkg (AC.go (objs:= [(0, .var 130 (Reader.cells a0)),(1, .var 45 [(.int .i64 0),(.str ⟨#[]⟩),(.sl 0 true []),(.sl 0 true [])]),(2, .var 45 [(.int .i64 (6:Int)),(.str ⟨#[]⟩),(.bs 1 3 3 0 ([]:LB).length),(.bs 4 4 4 0 ([]:LN).length)]),(3, .row 9 (([]:LB).map sc).flatten),(4, .row 45 (([]:LN).map Node.cells).flatten)]) (xs:= [(.ptr 0 0 0),(.ptr 2 2 0),(.str (⟨#[123]⟩:BA))]) (qb _ _ _ _ _ _ _ hx) [0,2,3,4] [0,2,3,4] rfl rfl rfl rfl rfl rfl rfl rfl rfl) (qg (qr _) (qg (qr _) (qg (qr _) z7))) (qe (qe (jc (qd (qy _) (qd (qy _) (qd (za rfl) (qd (za rfl) ju)))) (zi _))))))) ?_
  refine kr [] ?_
  exact jv (by kernel_rfl) lQ (w5 _ _ _ _ _ _ h)
 ·unfold qa at h
  refine yc ?_
  refine kr [] ?_
  obtain ⟨x33,hx,h⟩:=bind_some h
  refine qc (AC.g9 (q6 _ _ _ hx) [0] [0]) ?_
  refine kr [] ?_
  refine qf (fun hb=> ?_) (fun hb=> ?_)
  ·replace h:=qu hb h
   refine kr [] ?_
   obtain ⟨x34,hx,h⟩:=bind_some h
   rcases x34 with ee | x34
   ·replace h:some (.error ee)=some r:=h
    cases h
    exact q7 (FC.go (vh _ _ hx) [0] [0] rfl rfl rfl rfl rfl rfl)
   refine qc (AC.g9 (vh _ _ hx) [0] [0]) ?_
   refine kr [] ?_
   obtain ⟨x35,hx,h⟩:=bind_some h
   refine qc (AC.g9 (zg _ _ _ _ _ _ hx) [2,3,4] [2,5,4]) ?_
   refine kr [] ?_
   exact zp (by kernel_rfl) lQ (w5 _ _ _ _ _ _ h)
  replace h:=qv hb h
  refine kr [] ?_
  obtain ⟨x36,hx,h⟩:=bind_some h
  rcases x36 with ee | x36
  ·replace h:some (.error ee)=some r:=h
   cases h
   exact q7 (FC.go (qb _ _ _ _ _ _ _ hx) [0,2,3,4] [0,2,5,4] rfl rfl rfl rfl rfl rfl)
  refine qc (AC.g9 (qb _ _ _ _ _ _ _ hx) [0,2,3,4] [0,2,5,4]) ?_
  refine kr [] ?_
  cases h
  exact yh env rfl rfl (tS [some 0] (sV (lS (lS lN)) zw) (j6 (yy (qi (qh (zm rfl) rfl) (qi (qh (jn rfl) rfl) (qi (qh (jg kv rfl) rfl) (qi (qh (jg ze rfl) rfl) yx))))) (by simp)))
 unfold qa at h
 refine Yt (T:=tt) (N:=106) (rs:= [.cell 2 45]) (fun vs w=>by simp) Tryz.func153 rfl rfl rfl (by kernel_rfl) (by kernel_rfl) (kw rfl rfl kx) (zr zt) (fun r=>(kq rfl ku)) (fun r=>(zr zt)) (fun _=>rfl) (fun _=>rfl) rfl (fun _=>rfl) ?_
 refine kr [41,87] ?_
 obtain ⟨x2,hx,h⟩:=bind_some h
 refine qc (AC.g9 (q6 _ _ _ hx) [0] [0]) ?_
 refine kr [41,87] ?_
 refine qf (fun hb=> ?_) (fun hb=> ?_)
 ·replace h:=qu hb h
  refine kr [41,87] ?_
  obtain ⟨x3,hx,h⟩:=bind_some h
  rcases x3 with ee | x3
  ·replace h:some (.error ee)=some r:=h
   cases h
   exact q7 (FC.go (ux _ _ _ _ hx) [0] [0] rfl rfl rfl rfl rfl rfl)
  refine qc (AC.g9 (ux _ _ _ _ hx) [0] [0]) ?_
  refine kr [41,87] ?_
  cases h
  exact yh env rfl rfl (tS [some 0] (sV (lS (lS lN)) zw) (j6 (yy (qi (qh (zm rfl) rfl) (qi (qh (jn rfl) rfl) (qi (qh (y5 (.inl rfl)) rfl) (qi (qh (y5 (.inl rfl)) rfl) yx))))) (by simp)))
 replace h:=qv hb h
 refine kr [41,87] ?_
 obtain ⟨x4,hx,h⟩:=bind_some h
 refine qc (AC.g9 (q6 _ _ _ hx) [0] [0]) ?_
 refine kr [41,87] ?_
 refine qf (fun hb=> ?_) (fun hb=> ?_)
 ·replace h:=qu hb h
  refine kr [41,87] ?_
  obtain ⟨x5,hx,h⟩:=bind_some h
  rcases x5 with ee | x5
  ·replace h:some (.error ee)=some r:=h
   cases h
   exact q7 (FCalls.ghost (e:=9) (FCalls.ghost (e:=45) (FCalls.wkg (FC.go (objs:= [(0, .var 130 (Reader.cells a0)),(1, .var 45 [(.int .i64 0),(.str ⟨#[]⟩),(.sl 0 true []),(.sl 0 true [])]),(2, .var 45 [(.int .i64 (12:Int)),(.str ⟨#[]⟩),(.bs 1 3 3 0 ([]:LB).length),(.bs 4 4 4 0 ([]:LN).length)]),(3, .row 9 (([]:LB).map sc).flatten),(4, .row 45 (([]:LN).map Node.cells).flatten)]) (xs:= [(.ptr 0 0 0),(.ptr 2 2 0),(.str (⟨#[114,101,116,117,114,110]⟩:BA))]) (qb _ _ _ _ _ _ _ hx) [0,2,3,4] [0,2,3,4] rfl rfl rfl rfl rfl rfl) (qg (qr _) (qg (qr _) (qg (qr _) z7))) (qe (qe (jc (qd (qy _) (qd (qy _) (qd (za rfl) (qd (za rfl) ju)))) (zi _)))))))
  refine qc (ACalls.ghost (e:=9) (ACalls.ghost (e:=45) (ACalls.wkg (AC.go (objs:= [(0, .var 130 (Reader.cells a0)),(1, .var 45 [(.int .i64 0),(.str ⟨#[]⟩),(.sl 0 true []),(.sl 0 true [])]),(2, .var 45 [(.int .i64 (12:Int)),(.str ⟨#[]⟩),(.bs 1 3 3 0 ([]:LB).length),(.bs 4 4 4 0 ([]:LN).length)]),(3, .row 9 (([]:LB).map sc).flatten),(4, .row 45 (([]:LN).map Node.cells).flatten)]) (xs:= [(.ptr 0 0 0),(.ptr 2 2 0),(.str (⟨#[114,101,116,117,114,110]⟩:BA))]) (qb _ _ _ _ _ _ _ hx) [0,2,3,4] [0,2,3,4] rfl rfl rfl rfl rfl rfl rfl rfl rfl) (qg (qr _) (qg (qr _) (qg (qr _) z7))) (qe (qe (jc (qd (qy _) (qd (qy _) (qd (za rfl) (qd (za rfl) ju)))) (zi _))))))) ?_
  refine kr [41,87] ?_
  obtain ⟨x6,hx,h⟩:=bind_some h
  rcases x6 with ee | x6
  ·replace h:some (.error ee)=some r:=h
   cases h
   exact q7 (FC.go (qt _ _ _ hx) [0] [0] rfl rfl rfl rfl rfl rfl)
  refine qc (AC.g9 (qt _ _ _ hx) [0] [0]) ?_
  refine kr [41,87] ?_
  obtain ⟨x7,hx,h⟩:=bind_some h
  refine qc (AC.g9 (zg _ _ _ _ _ _ hx) [2,3,4] [2,5,4]) ?_
  refine kr [41,87] ?_
  obtain ⟨x8,hx,h⟩:=bind_some h
  rcases x8 with ee | x8
  ·replace h:some (.error ee)=some r:=h
   cases h
   exact q7 (FC.go (qb _ _ _ _ _ _ _ hx) [0,2,3,4] [0,2,5,6] rfl rfl rfl rfl rfl rfl)
  refine qc (AC.g9 (qb _ _ _ _ _ _ _ hx) [0,2,3,4] [0,2,5,6]) ?_
  refine kr [41,87] ?_
  cases h
  exact yh env rfl rfl (tS [some 0] (sV (lS (lS lN)) zw) (j6 (yy (qi (qh (zm rfl) rfl) (qi (qh (jn rfl) rfl) (qi (qh (jg kv rfl) rfl) (qi (qh (jg ze rfl) rfl) yx))))) (by simp)))
 replace h:=qv hb h
 refine kr [41,87] ?_
 obtain ⟨x9,hx,h⟩:=bind_some h
 refine qc (AC.g9 (q6 _ _ _ hx) [0] [0]) ?_
 refine kr [41,87] ?_
 refine qf (fun hb=> ?_) (fun hb=> ?_)
 ·replace h:=qu hb h
  refine kr [41,87] ?_
  obtain ⟨x10,hx,h⟩:=bind_some h
  rcases x10 with ee | x10
  ·replace h:some (.error ee)=some r:=h
   cases h
   exact q7 (FCalls.ghost (e:=9) (FCalls.ghost (e:=45) (FCalls.wkg (FC.go (objs:= [(0, .var 130 (Reader.cells a0)),(1, .var 45 [(.int .i64 0),(.str ⟨#[]⟩),(.sl 0 true []),(.sl 0 true [])]),(2, .var 45 [(.int .i64 (13:Int)),(.str ⟨#[]⟩),(.bs 1 3 3 0 ([]:LB).length),(.bs 4 4 4 0 ([]:LN).length)]),(3, .row 9 (([]:LB).map sc).flatten),(4, .row 45 (([]:LN).map Node.cells).flatten)]) (xs:= [(.ptr 0 0 0),(.ptr 2 2 0),(.str (⟨#[105,102]⟩:BA))]) (qb _ _ _ _ _ _ _ hx) [0,2,3,4] [0,2,3,4] rfl rfl rfl rfl rfl rfl) (qg (qr _) (qg (qr _) (qg (qr _) z7))) (qe (qe (jc (qd (qy _) (qd (qy _) (qd (za rfl) (qd (za rfl) ju)))) (zi _)))))))
  refine qc (ACalls.ghost (e:=9) (ACalls.ghost (e:=45) (ACalls.wkg (AC.go (objs:= [(0, .var 130 (Reader.cells a0)),(1, .var 45 [(.int .i64 0),(.str ⟨#[]⟩),(.sl 0 true []),(.sl 0 true [])]),(2, .var 45 [(.int .i64 (13:Int)),(.str ⟨#[]⟩),(.bs 1 3 3 0 ([]:LB).length),(.bs 4 4 4 0 ([]:LN).length)]),(3, .row 9 (([]:LB).map sc).flatten),(4, .row 45 (([]:LN).map Node.cells).flatten)]) (xs:= [(.ptr 0 0 0),(.ptr 2 2 0),(.str (⟨#[105,102]⟩:BA))]) (qb _ _ _ _ _ _ _ hx) [0,2,3,4] [0,2,3,4] rfl rfl rfl rfl rfl rfl rfl rfl rfl) (qg (qr _) (qg (qr _) (qg (qr _) z7))) (qe (qe (jc (qd (qy _) (qd (qy _) (qd (za rfl) (qd (za rfl) ju)))) (zi _))))))) ?_
  refine kr [41,87] ?_
  obtain ⟨x11,hx,h⟩:=bind_some h
  rcases x11 with ee | x11
  ·replace h:some (.error ee)=some r:=h
   cases h
   exact q7 (FC.go (qt _ _ _ hx) [0] [0] rfl rfl rfl rfl rfl rfl)
  refine qc (AC.g9 (qt _ _ _ hx) [0] [0]) ?_
  refine kr [41,87] ?_
  obtain ⟨x12,hx,h⟩:=bind_some h
  refine qc (AC.g9 (zg _ _ _ _ _ _ hx) [2,3,4] [2,5,4]) ?_
  refine kr [41,87] ?_
  obtain ⟨x13,hx,h⟩:=bind_some h
  rcases x13 with ee | x13
  ·replace h:some (.error ee)=some r:=h
   cases h
   exact q7 (FC.go (jr _ _ hx) [0] [0] rfl rfl rfl rfl rfl rfl)
  refine qc (AC.g9 (jr _ _ hx) [0] [0]) ?_
  refine kr [41,87] ?_
  obtain ⟨x14,hx,h⟩:=bind_some h
  refine qc (AC.g9 (zg _ _ _ _ _ _ hx) [2,3,4] [2,5,6]) ?_
  refine kr [41,87] ?_
  obtain ⟨x15,hx,h⟩:=bind_some h
  refine qc (AC.g9 (q6 _ _ _ hx) [0] [0]) ?_
  refine kr [41,87] ?_
  refine qf (fun hb=> ?_) (fun hb=> ?_)
  ·replace h:=qu hb h
   refine kr [41,87] ?_
   obtain ⟨x16,hx,h⟩:=bind_some h
   rcases x16 with ee | x16
   ·replace h:some (.error ee)=some r:=h
    cases h
    exact q7 (FCalls.ghost (e:=9) (FCalls.ghost (e:=45) (FCalls.wkg (FC.go (objs:= [(0, .var 130 (Reader.cells x13.2)),(1, .var 45 [(.int .i64 0),(.str ⟨#[]⟩),(.sl 0 true []),(.sl 0 true [])]),(2, .var 45 [(.int .i64 (13:Int)),(.str ⟨#[]⟩),(.bs 1 3 5 0 x10.2.length),(.bs 4 4 7 0 x14.length)]),(5, .row 9 (x10.2.map sc).flatten),(7, .row 45 (x14.map Node.cells).flatten),(8, .var 45 [(.int .i64 (14:Int)),(.str ⟨#[]⟩),(.bs 1 6 9 0 ([]:LB).length),(.bs 4 7 10 0 ([]:LN).length)]),(9, .row 9 (([]:LB).map sc).flatten),(10, .row 45 (([]:LN).map Node.cells).flatten)]) (xs:= [(.ptr 0 0 0),(.ptr 5 8 0),(.str (⟨#[101,108,115,101]⟩:BA))]) (qb _ _ _ _ _ _ _ hx) [0,5,6,7] [0,8,9,10] rfl rfl rfl rfl rfl rfl) (qg (qr _) (qg (qr _) (qg (qr _) z7))) (qe (qe (qe (qe (qe (jc (qd (qy _) (qd (qy _) (qd (za rfl) (qd (za rfl) ju)))) (zi _))))))))))
   refine qc (ACalls.ghost (e:=9) (ACalls.ghost (e:=45) (ACalls.wkg (AC.go (objs:= [(0, .var 130 (Reader.cells x13.2)),(1, .var 45 [(.int .i64 0),(.str ⟨#[]⟩),(.sl 0 true []),(.sl 0 true [])]),(2, .var 45 [(.int .i64 (13:Int)),(.str ⟨#[]⟩),(.bs 1 3 5 0 x10.2.length),(.bs 4 4 7 0 x14.length)]),(5, .row 9 (x10.2.map sc).flatten),(7, .row 45 (x14.map Node.cells).flatten),(8, .var 45 [(.int .i64 (14:Int)),(.str ⟨#[]⟩),(.bs 1 6 9 0 ([]:LB).length),(.bs 4 7 10 0 ([]:LN).length)]),(9, .row 9 (([]:LB).map sc).flatten),(10, .row 45 (([]:LN).map Node.cells).flatten)]) (xs:= [(.ptr 0 0 0),(.ptr 5 8 0),(.str (⟨#[101,108,115,101]⟩:BA))]) (qb _ _ _ _ _ _ _ hx) [0,5,6,7] [0,8,9,10] rfl rfl rfl rfl rfl rfl rfl rfl rfl) (qg (qr _) (qg (qr _) (qg (qr _) z7))) (qe (qe (qe (qe (qe (jc (qd (qy _) (qd (qy _) (qd (za rfl) (qd (za rfl) ju)))) (zi _)))))))))) ?_
   refine kr [41,87] ?_
   obtain ⟨x17,hx,h⟩:=bind_some h
   rcases x17 with ee | x17
   ·replace h:some (.error ee)=some r:=h
    cases h
    exact q7 (FC.go (jr _ _ hx) [0] [0] rfl rfl rfl rfl rfl rfl)
   refine qc (AC.g9 (jr _ _ hx) [0] [0]) ?_
   refine kr [41,87] ?_
   obtain ⟨x18,hx,h⟩:=bind_some h
   refine qc (AC.g9 (zg _ _ _ _ _ _ hx) [5,6,7] [8,11,10]) ?_
   refine kr [41,87] ?_
   refine Jz 5 2 6 kv rfl rfl rfl rfl rfl rfl ?_
   refine Jz 5 3 7 ze rfl rfl rfl rfl rfl rfl ?_
   exact zb (by kernel_rfl) rfl lQ (Qy _ _ _ _ _ _ _ h)
  replace h:=qv hb h
  refine kr [41,87] ?_
  exact zb (by kernel_rfl) rfl lQ (Qy _ _ _ _ _ _ _ h)
 replace h:=qv hb h
 refine kr [41,87] ?_
 obtain ⟨x19,hx,h⟩:=bind_some h
 refine qc (AC.g9 (q6 _ _ _ hx) [0] [0]) ?_
 refine kr [41,87] ?_
 refine qf (fun hb=> ?_) (fun hb=> ?_)
 ·replace h:=qu hb h
  refine kr [41,87] ?_
  obtain ⟨x20,hx,h⟩:=bind_some h
  rcases x20 with ee | x20
  ·replace h:some (.error ee)=some r:=h
   cases h
   exact q7 (FCalls.ghost (e:=9) (FCalls.ghost (e:=45) (FCalls.wkg (FC.go (objs:= [(0, .var 130 (Reader.cells a0)),(1, .var 45 [(.int .i64 0),(.str ⟨#[]⟩),(.sl 0 true []),(.sl 0 true [])]),(2, .var 45 [(.int .i64 (15:Int)),(.str ⟨#[]⟩),(.bs 1 3 3 0 ([]:LB).length),(.bs 4 4 4 0 ([]:LN).length)]),(3, .row 9 (([]:LB).map sc).flatten),(4, .row 45 (([]:LN).map Node.cells).flatten)]) (xs:= [(.ptr 0 0 0),(.ptr 2 2 0),(.str (⟨#[119,104,105,108,101]⟩:BA))]) (qb _ _ _ _ _ _ _ hx) [0,2,3,4] [0,2,3,4] rfl rfl rfl rfl rfl rfl) (qg (qr _) (qg (qr _) (qg (qr _) z7))) (qe (qe (jc (qd (qy _) (qd (qy _) (qd (za rfl) (qd (za rfl) ju)))) (zi _)))))))
  refine qc (ACalls.ghost (e:=9) (ACalls.ghost (e:=45) (ACalls.wkg (AC.go (objs:= [(0, .var 130 (Reader.cells a0)),(1, .var 45 [(.int .i64 0),(.str ⟨#[]⟩),(.sl 0 true []),(.sl 0 true [])]),(2, .var 45 [(.int .i64 (15:Int)),(.str ⟨#[]⟩),(.bs 1 3 3 0 ([]:LB).length),(.bs 4 4 4 0 ([]:LN).length)]),(3, .row 9 (([]:LB).map sc).flatten),(4, .row 45 (([]:LN).map Node.cells).flatten)]) (xs:= [(.ptr 0 0 0),(.ptr 2 2 0),(.str (⟨#[119,104,105,108,101]⟩:BA))]) (qb _ _ _ _ _ _ _ hx) [0,2,3,4] [0,2,3,4] rfl rfl rfl rfl rfl rfl rfl rfl rfl) (qg (qr _) (qg (qr _) (qg (qr _) z7))) (qe (qe (jc (qd (qy _) (qd (qy _) (qd (za rfl) (qd (za rfl) ju)))) (zi _))))))) ?_
  refine kr [41,87] ?_
  obtain ⟨x21,hx,h⟩:=bind_some h
  rcases x21 with ee | x21
  ·replace h:some (.error ee)=some r:=h
   cases h
   exact q7 (FC.go (qt _ _ _ hx) [0] [0] rfl rfl rfl rfl rfl rfl)
  refine qc (AC.g9 (qt _ _ _ hx) [0] [0]) ?_
  refine kr [41,87] ?_
  obtain ⟨x22,hx,h⟩:=bind_some h
  refine qc (AC.g9 (zg _ _ _ _ _ _ hx) [2,3,4] [2,5,4]) ?_
  refine kr [41,87] ?_
  obtain ⟨x23,hx,h⟩:=bind_some h
  rcases x23 with ee | x23
  ·replace h:some (.error ee)=some r:=h
   cases h
   exact q7 (FC.go (jr _ _ hx) [0] [0] rfl rfl rfl rfl rfl rfl)
  refine qc (AC.g9 (jr _ _ hx) [0] [0]) ?_
  refine kr [41,87] ?_
  obtain ⟨x24,hx,h⟩:=bind_some h
  refine qc (AC.g9 (zg _ _ _ _ _ _ hx) [2,3,4] [2,5,6]) ?_
  refine kr [41,87] ?_
  cases h
  exact yh env rfl rfl (tS [some 0] (sV (lS (lS lN)) zw) (j6 (yy (qi (qh (zm rfl) rfl) (qi (qh (jn rfl) rfl) (qi (qh (jg kv rfl) rfl) (qi (qh (jg ze rfl) rfl) yx))))) (by simp)))
 replace h:=qv hb h
 refine kr [41,87] ?_
 obtain ⟨x25,hx,h⟩:=bind_some h
 refine qc (AC.g9 (jd _ _ hx) [0] [0]) ?_
 refine kr [41,87] ?_
 refine qk (fun hb=> ?_) (fun hb=> ?_)
 ·replace h:=qu hb h
  refine kr [41,87] ?_
  obtain ⟨x26,hx,h⟩:=bind_some h
  refine qp (qem _ _ hx) ?_
  refine kr [41,87] ?_
  refine qk (fun hb=> ?_) (fun hb=> ?_)
  ·replace h:=qu hb h
   refine kr [41,87] ?_
   obtain ⟨x27,hx,h⟩:=bind_some h
   refine je env hx rfl rfl rfl rfl rfl ?_
   refine kr [41,87] ?_
   refine qf (fun hb=> ?_) (fun hb=> ?_)
   ·replace h:=qu hb h
    refine kr [41,87] ?_
    obtain ⟨x28,hx,h⟩:=bind_some h
    rcases x28 with ee | x28
    ·replace h:some (.error ee)=some r:=h
     cases h
     exact q7 (FCalls.ghost (e:=9) (FCalls.ghost (e:=45) (FCalls.wkg (FC.go (objs:= [(0, .var 130 (Reader.cells a0)),(1, .var 45 [(.int .i64 0),(.str ⟨#[]⟩),(.sl 0 true []),(.sl 0 true [])]),(2, .var 118 (Token.cells x25)),(3, .var 45 [(.int .i64 (11:Int)),(.str ⟨#[]⟩),(.bs 1 4 4 0 ([]:LB).length),(.bs 4 5 5 0 ([]:LN).length)]),(4, .row 9 (([]:LB).map sc).flatten),(5, .row 45 (([]:LN).map Node.cells).flatten)]) (xs:= [(.ptr 0 0 0),(.ptr 3 3 0)]) (q8 _ _ _ _ _ _ hx) [0,3,4,5] [0,3,4,5] rfl rfl rfl rfl rfl rfl) (qg (qr _) (qg (qr _) z7)) (qe (qe (qe (jc (qd (qy _) (qd (qy _) (qd (za rfl) (qd (za rfl) ju)))) (zi _))))))))
    refine qc (ACalls.ghost (e:=9) (ACalls.ghost (e:=45) (ACalls.wkg (AC.go (objs:= [(0, .var 130 (Reader.cells a0)),(1, .var 45 [(.int .i64 0),(.str ⟨#[]⟩),(.sl 0 true []),(.sl 0 true [])]),(2, .var 118 (Token.cells x25)),(3, .var 45 [(.int .i64 (11:Int)),(.str ⟨#[]⟩),(.bs 1 4 4 0 ([]:LB).length),(.bs 4 5 5 0 ([]:LN).length)]),(4, .row 9 (([]:LB).map sc).flatten),(5, .row 45 (([]:LN).map Node.cells).flatten)]) (xs:= [(.ptr 0 0 0),(.ptr 3 3 0)]) (q8 _ _ _ _ _ _ hx) [0,3,4,5] [0,3,4,5] rfl rfl rfl rfl rfl rfl rfl rfl rfl) (qg (qr _) (qg (qr _) z7)) (qe (qe (qe (jc (qd (qy _) (qd (qy _) (qd (za rfl) (qd (za rfl) ju)))) (zi _)))))))) ?_
    refine kr [41,87] ?_
    obtain ⟨x29,hx,h⟩:=bind_some h
    rcases x29 with ee | x29
    ·replace h:some (.error ee)=some r:=h
     cases h
     exact q7 (FC.go (qb _ _ _ _ _ _ _ hx) [0,3,4,5] [0,3,6,5] rfl rfl rfl rfl rfl rfl)
    refine qc (AC.g9 (qb _ _ _ _ _ _ _ hx) [0,3,4,5] [0,3,6,5]) ?_
    refine kr [41,87] ?_
    obtain ⟨x30,hx,h⟩:=bind_some h
    rcases x30 with ee | x30
    ·replace h:some (.error ee)=some r:=h
     cases h
     exact q7 (FC.go (qt _ _ _ hx) [0] [0] rfl rfl rfl rfl rfl rfl)
    refine qc (AC.g9 (qt _ _ _ hx) [0] [0]) ?_
    refine kr [41,87] ?_
    obtain ⟨x31,hx,h⟩:=bind_some h
    refine qc (AC.g9 (zg _ _ _ _ _ _ hx) [3,4,5] [3,7,5]) ?_
    refine kr [41,87] ?_
    obtain ⟨x32,hx,h⟩:=bind_some h
    rcases x32 with ee | x32
    ·replace h:some (.error ee)=some r:=h
     cases h
     exact q7 (FC.go (qb _ _ _ _ _ _ _ hx) [0,3,4,5] [0,3,7,8] rfl rfl rfl rfl rfl rfl)
    refine qc (AC.g9 (qb _ _ _ _ _ _ _ hx) [0,3,4,5] [0,3,7,8]) ?_
    refine kr [41,87] ?_
    cases h
    exact yh env rfl rfl (tS [some 0] (sV (lS (lS lN)) zw) (j6 (yy (qi (qh (zm rfl) rfl) (qi (qh (jn rfl) rfl) (qi (qh (jg kv rfl) rfl) (qi (qh (jg ze rfl) rfl) yx))))) (by simp)))
   replace h:=qv hb h
   refine kr [41,87] ?_
   exact zb (by kernel_rfl) rfl lQ (ud _ _ h)
  replace h:=qv hb h
  refine kr [41,87] ?_
  exact zb (by kernel_rfl) rfl lQ (ud _ _ h)
 replace h:=qv hb h
 refine kr [41,87] ?_
 exact zb (by kernel_rfl) rfl lQ (ud _ _ h)
theorem jr:PC1 Q2 zv:=Qf.1
theorem w5:PC5 vu jj:=Qf.2.1
theorem vh:PC1 ve jw:=Qf.2.2
mutual
def ji (o0:Reader) (o2_0:Int) (o2_1:BA) (o2_2:LB) (o2_3:LN) (o5_0:Int) (o5_1:BA) (o5_2:LB) (o5_3:LN):Option (Except Int (Node × Reader)):=
 q4 (qa o0) (⟨#[41]⟩:BA) >>=fun x4=>
 if (!x4)=true then
  if (decide ((0:Int) < (o5_3.length:Int)))=true then
   qj (qa o0) (qa o5_0) (qa o5_1) (qa o5_2) (qa o5_3) (⟨#[44]⟩:BA) >>=fun x5=>
   match x5 with
   | .error ee=>some (.error ee)
   | .ok x5=>
   jx x5.1 (qa o2_0) (qa o2_1) (qa o2_2) (qa o2_3) (qa o5_0) (qa o5_1) x5.2 (qa o5_3)
  else
   jx (qa o0) (qa o2_0) (qa o2_1) (qa o2_2) (qa o2_3) (qa o5_0) (qa o5_1) (qa o5_2) (qa o5_3)
 else
  qj (qa o0) (qa o5_0) (qa o5_1) (qa o5_2) (qa o5_3) (⟨#[41]⟩:BA) >>=fun x6=>
  match x6 with
  | .error ee=>some (.error ee)
  | .ok x6=>
  zf (qa o2_0) (qa o2_1) (qa o2_2) (qa o2_3) (Node.mk o5_0 o5_1 x6.2 o5_3) >>=fun x7=>
  wo x6.1 >>=fun x8=>
  match x8 with
  | .error ee=>some (.error ee)
  | .ok x8=>
  zf (qa o2_0) (qa o2_1) (qa o2_2) (qa x7) x8.1 >>=fun x9=>
  zv x8.2 >>=fun x10=>
  match x10 with
  | .error ee=>some (.error ee)
  | .ok x10=>
  zf (qa o2_0) (qa o2_1) (qa o2_2) (qa x9) x10.1 >>=fun x11=>
  some (.ok ((Node.mk o2_0 o2_1 o2_2 x11),x10.2))
 partial_fixpoint
def jx (o0:Reader) (o2_0:Int) (o2_1:BA) (o2_2:LB) (o2_3:LN) (o5_0:Int) (o5_1:BA) (o5_2:LB) (o5_3:LN):Option (Except Int (Node × Reader)):=
 zq (qa o0) (4:Int) (⟨#[]⟩) ([]:LB) ([]:LN) >>=fun x12=>
 match x12 with
 | .error ee=>some (.error ee)
 | .ok x12=>
 wo x12.1 >>=fun x13=>
 match x13 with
 | .error ee=>some (.error ee)
 | .ok x13=>
 zf (4:Int) x12.2.1 x12.2.2 ([]:LN) x13.1 >>=fun x14=>
 zf (qa o5_0) (qa o5_1) (qa o5_2) (qa o5_3) (Node.mk (4:Int) x12.2.1 x12.2.2 x14) >>=fun x15=>
 ji x13.2 (qa o2_0) (qa o2_1) (qa o2_2) (qa o2_3) (qa o5_0) (qa o5_1) (qa o5_2) (qa x15)
 partial_fixpoint
end
@[reducible] def uu (o0:Reader) (o2_0:Int) (o2_1:BA) (o2_2:LB) (o2_3:LN) (o5_0:Int) (o5_1:BA) (o5_2:LB) (o5_3:LN) (r:Except Int (Node × Reader)):Prop:=
  Ok Tryz.prog G tt 42 1 (exq (fun (r:Node × Reader)=>Ret Tryz.prog [.cell 2 45] (fun y H=>Q5 Tryz.prog G 1 H y (.agg (zo r.1)) ⟨1, [(0, .var 130 (Reader.cells r.2))]⟩)) (fun e=>Zs (flt e)) r) (.again (jy [20,2000011,2000013] Tryz.f83 0).1 (jy [20,2000011,2000013] Tryz.f83 0).2 (.n (.ptr 0 0 0) (.n .undef (.n (.ptr 2 2 0) .z .z) .z) (.n (.ptr 1 1 0) (.n (.ptr 5 7 0) .z .z) .z)) 11 [(0, .var 130 (Reader.cells o0)),(1, .var 45 [(.int .i64 0),(.str ⟨#[]⟩),(.sl 0 true []),(.sl 0 true [])]),(2, .var 45 [(.int .i64 o2_0),(.str o2_1),(.bs 1 3 6 0 o2_2.length),(.bs 4 4 4 0 o2_3.length)]),(6, .row 9 (o2_2.map sc).flatten),(4, .row 45 (o2_3.map Node.cells).flatten),(7, .var 45 [(.int .i64 o5_0),(.str o5_1),(.bs 1 6 10 0 o5_2.length),(.bs 4 7 9 0 o5_3.length)]),(10, .row 9 (o5_2.map sc).flatten),(9, .row 45 (o5_3.map Node.cells).flatten)])
@[reducible] def uk (o0:Reader) (o2_0:Int) (o2_1:BA) (o2_2:LB) (o2_3:LN) (o5_0:Int) (o5_1:BA) (o5_2:LB) (o5_3:LN) (r:Except Int (Node × Reader)):Prop:=
  Ok Tryz.prog G tt 42 1 (exq (fun (r:Node × Reader)=>Ret Tryz.prog [.cell 2 45] (fun y H=>Q5 Tryz.prog G 1 H y (.agg (zo r.1)) ⟨1, [(0, .var 130 (Reader.cells r.2))]⟩)) (fun e=>Zs (flt e)) r) (.go [] (Zg [20,2000011,2000013] Tryz.f83 20) [] (.n (.ptr 0 0 0) (.n .undef (.n (.ptr 2 2 0) .z .z) .z) (.n (.ptr 1 1 0) (.n (.ptr 5 7 0) .z .z) .z)) 12 [(0, .var 130 (Reader.cells o0)),(1, .var 45 [(.int .i64 0),(.str ⟨#[]⟩),(.sl 0 true []),(.sl 0 true [])]),(2, .var 45 [(.int .i64 o2_0),(.str o2_1),(.bs 1 3 6 0 o2_2.length),(.bs 4 4 4 0 o2_3.length)]),(6, .row 9 (o2_2.map sc).flatten),(4, .row 45 (o2_3.map Node.cells).flatten),(7, .var 45 [(.int .i64 o5_0),(.str o5_1),(.bs 1 6 11 0 o5_2.length),(.bs 4 7 9 0 o5_3.length)]),(11, .row 9 (o5_2.map sc).flatten),(9, .row 45 (o5_3.map Node.cells).flatten)])
theorem Qz:PC9 uu ji∧PC9 uk jx:=by
 refine ji.mutual_partial_correctness uu uk (fun jx uq o0 o2_0 o2_1 o2_2 o2_3 o5_0 o5_1 o5_2 o5_3 r h=> ?_) (fun ji uv o0 o2_0 o2_1 o2_2 o2_3 o5_0 o5_1 o5_2 o5_3 r h=> ?_)
 ·unfold qa at h
  refine yc ?_
  refine kr [20,2000011,2000013] ?_
  obtain ⟨x4,hx,h⟩:=bind_some h
  refine qc (AC.g9 (q6 _ _ _ hx) [0] [0]) ?_
  refine kr [20,2000011,2000013] ?_
  refine qf (fun hb=> ?_) (fun hb=> ?_)
  ·replace h:=qu hb h
   refine kr [20,2000011,2000013] ?_
   refine qf (fun hb=> ?_) (fun hb=> ?_)
   ·replace h:=qu hb h
    refine kr [20,2000011,2000013] ?_
    obtain ⟨x5,hx,h⟩:=bind_some h
    rcases x5 with ee | x5
    ·replace h:some (.error ee)=some r:=h
     cases h
     exact q7 (FC.go (qb _ _ _ _ _ _ _ hx) [0,5,6,7] [0,7,10,9] rfl rfl rfl rfl rfl rfl)
    refine qc (AC.g9 (qb _ _ _ _ _ _ _ hx) [0,5,6,7] [0,7,10,9]) ?_
    refine kr [20,2000011,2000013] ?_
    exact zb (by kernel_rfl) rfl lQ (uq _ _ _ _ _ _ _ _ _ _ h)
   replace h:=qv hb h
   refine kr [20,2000011,2000013] ?_
   exact zb (by kernel_rfl) rfl lQ (uq _ _ _ _ _ _ _ _ _ _ h)
  replace h:=qv hb h
  refine kr [20,2000011,2000013] ?_
  obtain ⟨x6,hx,h⟩:=bind_some h
  rcases x6 with ee | x6
  ·replace h:some (.error ee)=some r:=h
   cases h
   exact q7 (FC.go (qb _ _ _ _ _ _ _ hx) [0,5,6,7] [0,7,10,9] rfl rfl rfl rfl rfl rfl)
  refine qc (AC.g9 (qb _ _ _ _ _ _ _ hx) [0,5,6,7] [0,7,10,9]) ?_
  refine kr [20,2000011,2000013] ?_
  refine Jz 5 2 6 kv rfl rfl rfl rfl rfl rfl ?_
  refine Jz 5 3 7 ze rfl rfl rfl rfl rfl rfl ?_
  refine qan ?_
  refine kr [20,2000011,2000013] ?_
  obtain ⟨x7,hx,h⟩:=bind_some h
  refine qc (AC.g9 (zg _ _ _ _ _ _ hx) [2,3,4] [2,6,4]) ?_
  refine kr [20,2000011,2000013] ?_
  obtain ⟨x8,hx,h⟩:=bind_some h
  rcases x8 with ee | x8
  ·replace h:some (.error ee)=some r:=h
   cases h
   exact q7 (FC.go (u7 _ _ hx) [0] [0] rfl rfl rfl rfl rfl rfl)
  refine qc (AC.g9 (u7 _ _ hx) [0] [0]) ?_
  refine kr [20,2000011,2000013] ?_
  obtain ⟨x9,hx,h⟩:=bind_some h
  refine qc (AC.g9 (zg _ _ _ _ _ _ hx) [2,3,4] [2,6,12]) ?_
  refine kr [20,2000011,2000013] ?_
  obtain ⟨x10,hx,h⟩:=bind_some h
  rcases x10 with ee | x10
  ·replace h:some (.error ee)=some r:=h
   cases h
   exact q7 (FC.go (jr _ _ hx) [0] [0] rfl rfl rfl rfl rfl rfl)
  refine qc (AC.g9 (jr _ _ hx) [0] [0]) ?_
  refine kr [20,2000011,2000013] ?_
  obtain ⟨x11,hx,h⟩:=bind_some h
  refine qc (AC.g9 (zg _ _ _ _ _ _ hx) [2,3,4] [2,6,13]) ?_
  refine kr [20,2000011,2000013] ?_
  cases h
  exact yh env rfl rfl (tS [some 0] (sV (lS (lS lN)) zw) (j6 (yy (qi (qh (zm rfl) rfl) (qi (qh (jn rfl) rfl) (qi (qh (jg kv rfl) rfl) (qi (qh (jg ze rfl) rfl) yx))))) (by simp)))
 unfold qa at h
 refine kr [20,2000011,2000013] ?_
 obtain ⟨x12,hx,h⟩:=bind_some h
 rcases x12 with ee | x12
 ·replace h:some (.error ee)=some r:=h
  cases h
  exact q7 (FCalls.ghost (e:=9) (FCalls.ghost (e:=45) (FCalls.wkg (FC.go (objs:= [(0, .var 130 (Reader.cells o0)),(1, .var 45 [(.int .i64 0),(.str ⟨#[]⟩),(.sl 0 true []),(.sl 0 true [])]),(2, .var 45 [(.int .i64 o2_0),(.str o2_1),(.bs 1 3 6 0 o2_2.length),(.bs 4 4 4 0 o2_3.length)]),(6, .row 9 (o2_2.map sc).flatten),(4, .row 45 (o2_3.map Node.cells).flatten),(7, .var 45 [(.int .i64 o5_0),(.str o5_1),(.bs 1 6 11 0 o5_2.length),(.bs 4 7 9 0 o5_3.length)]),(11, .row 9 (o5_2.map sc).flatten),(9, .row 45 (o5_3.map Node.cells).flatten),(12, .var 45 [(.int .i64 (4:Int)),(.str ⟨#[]⟩),(.bs 1 9 13 0 ([]:LB).length),(.bs 4 10 14 0 ([]:LN).length)]),(13, .row 9 (([]:LB).map sc).flatten),(14, .row 45 (([]:LN).map Node.cells).flatten)]) (xs:= [(.ptr 0 0 0),(.ptr 8 12 0)]) (q8 _ _ _ _ _ _ hx) [0,8,9,10] [0,12,13,14] rfl rfl rfl rfl rfl rfl) (qg (qr _) (qg (qr _) z7)) (qe (qe (qe (qe (qe (qe (qe (qe (jc (qd (qy _) (qd (qy _) (qd (za rfl) (qd (za rfl) ju)))) (zi _)))))))))))))
 refine qc (ACalls.ghost (e:=9) (ACalls.ghost (e:=45) (ACalls.wkg (AC.go (objs:= [(0, .var 130 (Reader.cells o0)),(1, .var 45 [(.int .i64 0),(.str ⟨#[]⟩),(.sl 0 true []),(.sl 0 true [])]),(2, .var 45 [(.int .i64 o2_0),(.str o2_1),(.bs 1 3 6 0 o2_2.length),(.bs 4 4 4 0 o2_3.length)]),(6, .row 9 (o2_2.map sc).flatten),(4, .row 45 (o2_3.map Node.cells).flatten),(7, .var 45 [(.int .i64 o5_0),(.str o5_1),(.bs 1 6 11 0 o5_2.length),(.bs 4 7 9 0 o5_3.length)]),(11, .row 9 (o5_2.map sc).flatten),(9, .row 45 (o5_3.map Node.cells).flatten),(12, .var 45 [(.int .i64 (4:Int)),(.str ⟨#[]⟩),(.bs 1 9 13 0 ([]:LB).length),(.bs 4 10 14 0 ([]:LN).length)]),(13, .row 9 (([]:LB).map sc).flatten),(14, .row 45 (([]:LN).map Node.cells).flatten)]) (xs:= [(.ptr 0 0 0),(.ptr 8 12 0)]) (q8 _ _ _ _ _ _ hx) [0,8,9,10] [0,12,13,14] rfl rfl rfl rfl rfl rfl rfl rfl rfl) (qg (qr _) (qg (qr _) z7)) (qe (qe (qe (qe (qe (qe (qe (qe (jc (qd (qy _) (qd (qy _) (qd (za rfl) (qd (za rfl) ju)))) (zi _))))))))))))) ?_
 refine kr [20,2000011,2000013] ?_
 obtain ⟨x13,hx,h⟩:=bind_some h
 rcases x13 with ee | x13
 ·replace h:some (.error ee)=some r:=h
  cases h
  exact q7 (FC.go (u7 _ _ hx) [0] [0] rfl rfl rfl rfl rfl rfl)
 refine qc (AC.g9 (u7 _ _ hx) [0] [0]) ?_
 refine kr [20,2000011,2000013] ?_
 obtain ⟨x14,hx,h⟩:=bind_some h
 refine qc (AC.g9 (zg _ _ _ _ _ _ hx) [8,9,10] [12,15,14]) ?_
 refine kr [20,2000011,2000013] ?_
 refine Jz 8 2 9 kv rfl rfl rfl rfl rfl rfl ?_
 refine Jz 8 3 10 ze rfl rfl rfl rfl rfl rfl ?_
 refine qan ?_
 refine kr [20,2000011,2000013] ?_
 obtain ⟨x15,hx,h⟩:=bind_some h
 refine qc (AC.g9 (zg _ _ _ _ _ _ hx) [5,6,7] [7,11,9]) ?_
 refine kr [20,2000011,2000013] ?_
 exact zp (by kernel_rfl) lQ (uv _ _ _ _ _ _ _ _ _ _ h)
theorem uv:PC9 uu ji:=Qz.1
theorem uq:PC9 uk jx:=Qz.2
def yj (a0:Reader):Option (Except Int (Node × Reader)):=
 qj a0 (2:Int) (⟨#[]⟩) ([]:LB) ([]:LN) (⟨#[102,110]⟩:BA) >>=fun x1=>
 match x1 with
 | .error ee=>some (.error ee)
 | .ok x1=>
 zq x1.1 (2:Int) (⟨#[]⟩) x1.2 ([]:LN) >>=fun x2=>
 match x2 with
 | .error ee=>some (.error ee)
 | .ok x2=>
 qj x2.1 (3:Int) (⟨#[]⟩) ([]:LB) ([]:LN) (⟨#[40]⟩:BA) >>=fun x3=>
 match x3 with
 | .error ee=>some (.error ee)
 | .ok x3=>
 ji x3.1 (2:Int) x2.2.1 x2.2.2 ([]:LN) (3:Int) (⟨#[]⟩) x3.2 ([]:LN)
@[reducible] def qag (a0:Reader) (r:Except Int (Node × Reader)):Prop:=
  exq (fun (r:Node × Reader)=>AC Tryz.prog G 83 [(.ptr 0 0 0)] 1 [(0, .var 130 (Reader.cells a0))] (.agg (zo r.1)) 1 [(0, .var 130 (Reader.cells r.2))]) (fun e=>FC Tryz.prog G 83 [(.ptr 0 0 0)] 1 [(0, .var 130 (Reader.cells a0))] (flt e)) r
theorem wz:PC1 qag yj:=fun a0 r h=>by
 rw [yj.eq_def] at h
 refine Yt (T:=tt) (N:=42) (rs:= [.cell 2 45]) (fun vs w=>by simp) Tryz.func83 rfl rfl rfl (by kernel_rfl) (by kernel_rfl) (kw rfl rfl kx) (zr zt) (fun r=>(kq rfl ku)) (fun r=>(zr zt)) (fun _=>rfl) (fun _=>rfl) rfl (fun _=>rfl) ?_
 refine kr [20,2000011,2000013] ?_
 obtain ⟨x1,hx,h⟩:=bind_some h
 rcases x1 with ee | x1
 ·replace h:some (.error ee)=some r:=h
  cases h
  exact q7 (FCalls.ghost (e:=9) (FCalls.ghost (e:=45) (FCalls.wkg (FC.go (objs:= [(0, .var 130 (Reader.cells a0)),(1, .var 45 [(.int .i64 0),(.str ⟨#[]⟩),(.sl 0 true []),(.sl 0 true [])]),(2, .var 45 [(.int .i64 (2:Int)),(.str ⟨#[]⟩),(.bs 1 3 3 0 ([]:LB).length),(.bs 4 4 4 0 ([]:LN).length)]),(3, .row 9 (([]:LB).map sc).flatten),(4, .row 45 (([]:LN).map Node.cells).flatten)]) (xs:= [(.ptr 0 0 0),(.ptr 2 2 0),(.str (⟨#[102,110]⟩:BA))]) (qb _ _ _ _ _ _ _ hx) [0,2,3,4] [0,2,3,4] rfl rfl rfl rfl rfl rfl) (qg (qr _) (qg (qr _) (qg (qr _) z7))) (qe (qe (jc (qd (qy _) (qd (qy _) (qd (za rfl) (qd (za rfl) ju)))) (zi _)))))))
 refine qc (ACalls.ghost (e:=9) (ACalls.ghost (e:=45) (ACalls.wkg (AC.go (objs:= [(0, .var 130 (Reader.cells a0)),(1, .var 45 [(.int .i64 0),(.str ⟨#[]⟩),(.sl 0 true []),(.sl 0 true [])]),(2, .var 45 [(.int .i64 (2:Int)),(.str ⟨#[]⟩),(.bs 1 3 3 0 ([]:LB).length),(.bs 4 4 4 0 ([]:LN).length)]),(3, .row 9 (([]:LB).map sc).flatten),(4, .row 45 (([]:LN).map Node.cells).flatten)]) (xs:= [(.ptr 0 0 0),(.ptr 2 2 0),(.str (⟨#[102,110]⟩:BA))]) (qb _ _ _ _ _ _ _ hx) [0,2,3,4] [0,2,3,4] rfl rfl rfl rfl rfl rfl rfl rfl rfl) (qg (qr _) (qg (qr _) (qg (qr _) z7))) (qe (qe (jc (qd (qy _) (qd (qy _) (qd (za rfl) (qd (za rfl) ju)))) (zi _))))))) ?_
 refine kr [20,2000011,2000013] ?_
 obtain ⟨x2,hx,h⟩:=bind_some h
 rcases x2 with ee | x2
 ·replace h:some (.error ee)=some r:=h
  cases h
  exact q7 (FC.go (q8 _ _ _ _ _ _ hx) [0,2,3,4] [0,2,5,4] rfl rfl rfl rfl rfl rfl)
 refine qc (AC.g9 (q8 _ _ _ _ _ _ hx) [0,2,3,4] [0,2,5,4]) ?_
 refine kr [20,2000011,2000013] ?_
 obtain ⟨x3,hx,h⟩:=bind_some h
 rcases x3 with ee | x3
 ·replace h:some (.error ee)=some r:=h
  cases h
  exact q7 (FCalls.ghost (e:=9) (FCalls.ghost (e:=45) (FCalls.wkg (FC.go (objs:= [(0, .var 130 (Reader.cells x2.1)),(1, .var 45 [(.int .i64 0),(.str ⟨#[]⟩),(.sl 0 true []),(.sl 0 true [])]),(2, .var 45 [(.int .i64 (2:Int)),(.str x2.2.1),(.bs 1 3 6 0 x2.2.2.length),(.bs 4 4 4 0 ([]:LN).length)]),(6, .row 9 (x2.2.2.map sc).flatten),(4, .row 45 (([]:LN).map Node.cells).flatten),(7, .var 45 [(.int .i64 (3:Int)),(.str ⟨#[]⟩),(.bs 1 6 8 0 ([]:LB).length),(.bs 4 7 9 0 ([]:LN).length)]),(8, .row 9 (([]:LB).map sc).flatten),(9, .row 45 (([]:LN).map Node.cells).flatten)]) (xs:= [(.ptr 0 0 0),(.ptr 5 7 0),(.str (⟨#[40]⟩:BA))]) (qb _ _ _ _ _ _ _ hx) [0,5,6,7] [0,7,8,9] rfl rfl rfl rfl rfl rfl) (qg (qr _) (qg (qr _) (qg (qr _) z7))) (qe (qe (qe (qe (qe (jc (qd (qy _) (qd (qy _) (qd (za rfl) (qd (za rfl) ju)))) (zi _))))))))))
 refine qc (ACalls.ghost (e:=9) (ACalls.ghost (e:=45) (ACalls.wkg (AC.go (objs:= [(0, .var 130 (Reader.cells x2.1)),(1, .var 45 [(.int .i64 0),(.str ⟨#[]⟩),(.sl 0 true []),(.sl 0 true [])]),(2, .var 45 [(.int .i64 (2:Int)),(.str x2.2.1),(.bs 1 3 6 0 x2.2.2.length),(.bs 4 4 4 0 ([]:LN).length)]),(6, .row 9 (x2.2.2.map sc).flatten),(4, .row 45 (([]:LN).map Node.cells).flatten),(7, .var 45 [(.int .i64 (3:Int)),(.str ⟨#[]⟩),(.bs 1 6 8 0 ([]:LB).length),(.bs 4 7 9 0 ([]:LN).length)]),(8, .row 9 (([]:LB).map sc).flatten),(9, .row 45 (([]:LN).map Node.cells).flatten)]) (xs:= [(.ptr 0 0 0),(.ptr 5 7 0),(.str (⟨#[40]⟩:BA))]) (qb _ _ _ _ _ _ _ hx) [0,5,6,7] [0,7,8,9] rfl rfl rfl rfl rfl rfl rfl rfl rfl) (qg (qr _) (qg (qr _) (qg (qr _) z7))) (qe (qe (qe (qe (qe (jc (qd (qy _) (qd (qy _) (qd (za rfl) (qd (za rfl) ju)))) (zi _)))))))))) ?_
 refine kr [20,2000011,2000013] ?_
 exact jv (by kernel_rfl) lQ (uv _ _ _ _ _ _ _ _ _ _ h)
def j5 (o0:Reader) (o2_0:Int) (o2_1:BA) (o2_2:LB) (o2_3:LN):Option (Except Int (Node × Reader)):=
 q4 (qa o0) (⟨#[102,110]⟩:BA) >>=fun x8=>
 if x8=true then
  yj (qa o0) >>=fun x9=>
  match x9 with
  | .error ee=>some (.error ee)
  | .ok x9=>
  zf (qa o2_0) (qa o2_1) (qa o2_2) (qa o2_3) x9.1 >>=fun x10=>
  j5 x9.2 (qa o2_0) (qa o2_1) (qa o2_2) (qa x10)
 else
  qj (qa o0) (qa o2_0) (qa o2_1) (qa o2_2) (qa o2_3) (⟨#[125]⟩:BA) >>=fun x11=>
  match x11 with
  | .error ee=>some (.error ee)
  | .ok x11=>
  some (.ok ((Node.mk o2_0 o2_1 x11.2 o2_3),x11.1))
 partial_fixpoint
@[reducible] def Z6 (o0:Reader) (o2_0:Int) (o2_1:BA) (o2_2:LB) (o2_3:LN) (r:Except Int (Node × Reader)):Prop:=
  Ok Tryz.prog G tt 29 1 (exq (fun (r:Node × Reader)=>Ret Tryz.prog [.cell 2 45] (fun y H=>Q5 Tryz.prog G 1 H y (.agg (zo r.1)) ⟨1, [(0, .var 130 (Reader.cells r.2))]⟩)) (fun e=>Zs (flt e)) r) (.again (jy [12] Tryz.f84 0).1 (jy [12] Tryz.f84 0).2 (.n (.ptr 0 0 0) (.n .undef (.n (.ptr 2 2 0) .z .z) .z) (.n (.ptr 1 1 0) .z .z)) 14 [(0, .var 130 (Reader.cells o0)),(1, .var 45 [(.int .i64 0),(.str ⟨#[]⟩),(.sl 0 true []),(.sl 0 true [])]),(2, .var 45 [(.int .i64 o2_0),(.str o2_1),(.bs 1 3 13 0 o2_2.length),(.bs 4 4 12 0 o2_3.length)]),(13, .row 9 (o2_2.map sc).flatten),(12, .row 45 (o2_3.map Node.cells).flatten)])
theorem vx:PC5 Z6 j5:=by
 refine j5.partial_correctness Z6 (fun j5 vx o0 o2_0 o2_1 o2_2 o2_3 r h=> ?_)
 unfold qa at h
 refine yc ?_
 refine kr [12] ?_
 obtain ⟨x8,hx,h⟩:=bind_some h
 refine qc (AC.g9 (q6 _ _ _ hx) [0] [0]) ?_
 refine kr [12] ?_
 refine qf (fun hb=> ?_) (fun hb=> ?_)
 ·replace h:=qu hb h
  refine kr [12] ?_
  obtain ⟨x9,hx,h⟩:=bind_some h
  rcases x9 with ee | x9
  ·replace h:some (.error ee)=some r:=h
   cases h
   exact q7 (FC.go (wz _ _ hx) [0] [0] rfl rfl rfl rfl rfl rfl)
  refine qc (AC.g9 (wz _ _ hx) [0] [0]) ?_
  refine kr [12] ?_
  obtain ⟨x10,hx,h⟩:=bind_some h
  refine qc (AC.g9 (zg _ _ _ _ _ _ hx) [2,3,4] [2,13,12]) ?_
  refine kr [12] ?_
  exact zp (by kernel_rfl) lQ (vx _ _ _ _ _ _ h)
 replace h:=qv hb h
 refine kr [12] ?_
 obtain ⟨x11,hx,h⟩:=bind_some h
 rcases x11 with ee | x11
 ·replace h:some (.error ee)=some r:=h
  cases h
  exact q7 (FC.go (qb _ _ _ _ _ _ _ hx) [0,2,3,4] [0,2,13,12] rfl rfl rfl rfl rfl rfl)
 refine qc (AC.g9 (qb _ _ _ _ _ _ _ hx) [0,2,3,4] [0,2,13,12]) ?_
 refine kr [12] ?_
 cases h
 exact yh env rfl rfl (tS [some 0] (sV (lS (lS lN)) zw) (j6 (yy (qi (qh (zm rfl) rfl) (qi (qh (jn rfl) rfl) (qi (qh (jg kv rfl) rfl) (qi (qh (jg ze rfl) rfl) yx))))) (by simp)))
def y0 (o0:Reader) (o2_0:Int) (o2_1:BA) (o2_2:LB) (o2_3:LN) (o5:Node):Option (Except Int (Node × Reader)):=
 zf o2_0 o2_1 o2_2 o2_3 o5 >>=fun x6=>
 qj o0 o2_0 o2_1 o2_2 x6 (⟨#[123]⟩:BA) >>=fun x7=>
 match x7 with
 | .error ee=>some (.error ee)
 | .ok x7=>
 j5 x7.1 o2_0 o2_1 x7.2 x6
@[reducible] def Ww (o0:Reader) (o2_0:Int) (o2_1:BA) (o2_2:LB) (o2_3:LN) (o5:Node) (r:Except Int (Node × Reader)):Prop:=
  Ok Tryz.prog G tt 29 1 (exq (fun (r:Node × Reader)=>Ret Tryz.prog [.cell 2 45] (fun y H=>Q5 Tryz.prog G 1 H y (.agg (zo r.1)) ⟨1, [(0, .var 130 (Reader.cells r.2))]⟩)) (fun e=>Zs (flt e)) r) (.go [] (Zg [12] Tryz.f84 12) [] (.n (.ptr 0 0 0) (.n .undef (.n (.ptr 2 2 0) .z .z) .z) (.n (.ptr 1 1 0) (.n (.ptr 5 7 0) .z .z) .z)) 12 [(0, .var 130 (Reader.cells o0)),(1, .var 45 [(.int .i64 0),(.str ⟨#[]⟩),(.sl 0 true []),(.sl 0 true [])]),(2, .var 45 [(.int .i64 o2_0),(.str o2_1),(.bs 1 3 6 0 o2_2.length),(.bs 4 4 4 0 o2_3.length)]),(6, .row 9 (o2_2.map sc).flatten),(4, .row 45 (o2_3.map Node.cells).flatten),(7, .var 45 (zo o5))])
theorem Zq:PC6 Ww y0:=fun o0 o2_0 o2_1 o2_2 o2_3 o5 r h=>by
 rw [y0.eq_def] at h
 refine kr [12] ?_
 obtain ⟨x6,hx,h⟩:=bind_some h
 refine qc (AC.g9 (zg _ _ _ _ _ _ hx) [2,3,4] [2,6,4]) ?_
 refine kr [12] ?_
 obtain ⟨x7,hx,h⟩:=bind_some h
 rcases x7 with ee | x7
 ·replace h:some (.error ee)=some r:=h
  cases h
  exact q7 (FC.go (qb _ _ _ _ _ _ _ hx) [0,2,3,4] [0,2,6,12] rfl rfl rfl rfl rfl rfl)
 refine qc (AC.g9 (qb _ _ _ _ _ _ _ hx) [0,2,3,4] [0,2,6,12]) ?_
 refine kr [12] ?_
 exact jv (by kernel_rfl) lQ (vx _ _ _ _ _ _ h)
def wg (a0:Reader):Option (Except Int (Node × Reader)):=
 qj a0 (7:Int) (⟨#[]⟩) ([]:LB) ([]:LN) (⟨#[99,108,97,115,115]⟩:BA) >>=fun x1=>
 match x1 with
 | .error ee=>some (.error ee)
 | .ok x1=>
 zq x1.1 (7:Int) (⟨#[]⟩) x1.2 ([]:LN) >>=fun x2=>
 match x2 with
 | .error ee=>some (.error ee)
 | .ok x2=>
 q4 x2.1 (⟨#[58]⟩:BA) >>=fun x3=>
 if x3=true then
  qj x2.1 (8:Int) (⟨#[]⟩) ([]:LB) ([]:LN) (⟨#[58]⟩:BA) >>=fun x4=>
  match x4 with
  | .error ee=>some (.error ee)
  | .ok x4=>
  zq x4.1 (8:Int) (⟨#[]⟩) x4.2 ([]:LN) >>=fun x5=>
  match x5 with
  | .error ee=>some (.error ee)
  | .ok x5=>
  y0 x5.1 (7:Int) x2.2.1 x2.2.2 ([]:LN) (Node.mk (8:Int) x5.2.1 x5.2.2 ([]:LN))
 else
  y0 x2.1 (7:Int) x2.2.1 x2.2.2 ([]:LN) (Node.mk (8:Int) (⟨#[]⟩) ([]:LB) ([]:LN))
@[reducible] def qbv (a0:Reader) (r:Except Int (Node × Reader)):Prop:=
  exq (fun (r:Node × Reader)=>AC Tryz.prog G 84 [(.ptr 0 0 0)] 1 [(0, .var 130 (Reader.cells a0))] (.agg (zo r.1)) 1 [(0, .var 130 (Reader.cells r.2))]) (fun e=>FC Tryz.prog G 84 [(.ptr 0 0 0)] 1 [(0, .var 130 (Reader.cells a0))] (flt e)) r
theorem Yd:PC1 qbv wg:=fun a0 r h=>by
 rw [wg.eq_def] at h
 refine Yt (T:=tt) (N:=29) (rs:= [.cell 2 45]) (fun vs w=>by simp) Tryz.func84 rfl rfl rfl (by kernel_rfl) (by kernel_rfl) (kw rfl rfl kx) (zr zt) (fun r=>(kq rfl ku)) (fun r=>(zr zt)) (fun _=>rfl) (fun _=>rfl) rfl (fun _=>rfl) ?_
 refine kr [12] ?_
 obtain ⟨x1,hx,h⟩:=bind_some h
 rcases x1 with ee | x1
 ·replace h:some (.error ee)=some r:=h
  cases h
  exact q7 (FCalls.ghost (e:=9) (FCalls.ghost (e:=45) (FCalls.wkg (FC.go (objs:= [(0, .var 130 (Reader.cells a0)),(1, .var 45 [(.int .i64 0),(.str ⟨#[]⟩),(.sl 0 true []),(.sl 0 true [])]),(2, .var 45 [(.int .i64 (7:Int)),(.str ⟨#[]⟩),(.bs 1 3 3 0 ([]:LB).length),(.bs 4 4 4 0 ([]:LN).length)]),(3, .row 9 (([]:LB).map sc).flatten),(4, .row 45 (([]:LN).map Node.cells).flatten)]) (xs:= [(.ptr 0 0 0),(.ptr 2 2 0),(.str (⟨#[99,108,97,115,115]⟩:BA))]) (qb _ _ _ _ _ _ _ hx) [0,2,3,4] [0,2,3,4] rfl rfl rfl rfl rfl rfl) (qg (qr _) (qg (qr _) (qg (qr _) z7))) (qe (qe (jc (qd (qy _) (qd (qy _) (qd (za rfl) (qd (za rfl) ju)))) (zi _)))))))
 refine qc (ACalls.ghost (e:=9) (ACalls.ghost (e:=45) (ACalls.wkg (AC.go (objs:= [(0, .var 130 (Reader.cells a0)),(1, .var 45 [(.int .i64 0),(.str ⟨#[]⟩),(.sl 0 true []),(.sl 0 true [])]),(2, .var 45 [(.int .i64 (7:Int)),(.str ⟨#[]⟩),(.bs 1 3 3 0 ([]:LB).length),(.bs 4 4 4 0 ([]:LN).length)]),(3, .row 9 (([]:LB).map sc).flatten),(4, .row 45 (([]:LN).map Node.cells).flatten)]) (xs:= [(.ptr 0 0 0),(.ptr 2 2 0),(.str (⟨#[99,108,97,115,115]⟩:BA))]) (qb _ _ _ _ _ _ _ hx) [0,2,3,4] [0,2,3,4] rfl rfl rfl rfl rfl rfl rfl rfl rfl) (qg (qr _) (qg (qr _) (qg (qr _) z7))) (qe (qe (jc (qd (qy _) (qd (qy _) (qd (za rfl) (qd (za rfl) ju)))) (zi _))))))) ?_
 refine kr [12] ?_
 obtain ⟨x2,hx,h⟩:=bind_some h
 rcases x2 with ee | x2
 ·replace h:some (.error ee)=some r:=h
  cases h
  exact q7 (FC.go (q8 _ _ _ _ _ _ hx) [0,2,3,4] [0,2,5,4] rfl rfl rfl rfl rfl rfl)
 refine qc (AC.g9 (q8 _ _ _ _ _ _ hx) [0,2,3,4] [0,2,5,4]) ?_
 refine kr [12] ?_
 obtain ⟨x3,hx,h⟩:=bind_some h
 refine qc (AC.g9 (q6 _ _ _ hx) [0] [0]) ?_
 refine kr [12] ?_
 refine qf (fun hb=> ?_) (fun hb=> ?_)
 ·replace h:=qu hb h
  refine kr [12] ?_
  obtain ⟨x4,hx,h⟩:=bind_some h
  rcases x4 with ee | x4
  ·replace h:some (.error ee)=some r:=h
   cases h
   exact q7 (FCalls.ghost (e:=9) (FCalls.ghost (e:=45) (FCalls.wkg (FC.go (objs:= [(0, .var 130 (Reader.cells x2.1)),(1, .var 45 [(.int .i64 0),(.str ⟨#[]⟩),(.sl 0 true []),(.sl 0 true [])]),(2, .var 45 [(.int .i64 (7:Int)),(.str x2.2.1),(.bs 1 3 6 0 x2.2.2.length),(.bs 4 4 4 0 ([]:LN).length)]),(6, .row 9 (x2.2.2.map sc).flatten),(4, .row 45 (([]:LN).map Node.cells).flatten),(7, .var 45 [(.int .i64 (8:Int)),(.str ⟨#[]⟩),(.bs 1 6 8 0 ([]:LB).length),(.bs 4 7 9 0 ([]:LN).length)]),(8, .row 9 (([]:LB).map sc).flatten),(9, .row 45 (([]:LN).map Node.cells).flatten)]) (xs:= [(.ptr 0 0 0),(.ptr 5 7 0),(.str (⟨#[58]⟩:BA))]) (qb _ _ _ _ _ _ _ hx) [0,5,6,7] [0,7,8,9] rfl rfl rfl rfl rfl rfl) (qg (qr _) (qg (qr _) (qg (qr _) z7))) (qe (qe (qe (qe (qe (jc (qd (qy _) (qd (qy _) (qd (za rfl) (qd (za rfl) ju)))) (zi _))))))))))
  refine qc (ACalls.ghost (e:=9) (ACalls.ghost (e:=45) (ACalls.wkg (AC.go (objs:= [(0, .var 130 (Reader.cells x2.1)),(1, .var 45 [(.int .i64 0),(.str ⟨#[]⟩),(.sl 0 true []),(.sl 0 true [])]),(2, .var 45 [(.int .i64 (7:Int)),(.str x2.2.1),(.bs 1 3 6 0 x2.2.2.length),(.bs 4 4 4 0 ([]:LN).length)]),(6, .row 9 (x2.2.2.map sc).flatten),(4, .row 45 (([]:LN).map Node.cells).flatten),(7, .var 45 [(.int .i64 (8:Int)),(.str ⟨#[]⟩),(.bs 1 6 8 0 ([]:LB).length),(.bs 4 7 9 0 ([]:LN).length)]),(8, .row 9 (([]:LB).map sc).flatten),(9, .row 45 (([]:LN).map Node.cells).flatten)]) (xs:= [(.ptr 0 0 0),(.ptr 5 7 0),(.str (⟨#[58]⟩:BA))]) (qb _ _ _ _ _ _ _ hx) [0,5,6,7] [0,7,8,9] rfl rfl rfl rfl rfl rfl rfl rfl rfl) (qg (qr _) (qg (qr _) (qg (qr _) z7))) (qe (qe (qe (qe (qe (jc (qd (qy _) (qd (qy _) (qd (za rfl) (qd (za rfl) ju)))) (zi _)))))))))) ?_
  refine kr [12] ?_
  obtain ⟨x5,hx,h⟩:=bind_some h
  rcases x5 with ee | x5
  ·replace h:some (.error ee)=some r:=h
   cases h
   exact q7 (FC.go (q8 _ _ _ _ _ _ hx) [0,5,6,7] [0,7,10,9] rfl rfl rfl rfl rfl rfl)
  refine qc (AC.g9 (q8 _ _ _ _ _ _ hx) [0,5,6,7] [0,7,10,9]) ?_
  refine kr [12] ?_
  refine Jz 5 2 6 kv rfl rfl rfl rfl rfl rfl ?_
  refine Jz 5 3 7 ze rfl rfl rfl rfl rfl rfl ?_
  exact zb (by kernel_rfl) rfl lQ (Zq _ _ _ _ _ _ _ h)
 replace h:=qv hb h
 refine kr [12] ?_
 exact zb (by kernel_rfl) rfl lQ (Zq _ _ _ _ _ _ _ h)
mutual
def zh (o0:Reader) (o2_0:Int) (o2_1:BA) (o2_2:LB) (o2_3:LN):Option (Except Int (Node × Reader)):=
 zk (qa o0) >>=fun x1=>
 if (!decide (x1.Kind=(4:Int)))=true then
  q4 (qa o0) (⟨#[102,110]⟩:BA) >>=fun x2=>
  if x2=true then
   yj (qa o0) >>=fun x3=>
   match x3 with
   | .error ee=>some (.error ee)
   | .ok x3=>
   zf (qa o2_0) (qa o2_1) (qa o2_2) (qa o2_3) x3.1 >>=fun x4=>
   j4 x3.2 (qa o2_0) (qa o2_1) (qa o2_2) (qa x4)
  else
   q4 (qa o0) (⟨#[99,108,97,115,115]⟩:BA) >>=fun x5=>
   if x5=true then
    wg (qa o0) >>=fun x6=>
    match x6 with
    | .error ee=>some (.error ee)
    | .ok x6=>
    zf (qa o2_0) (qa o2_1) (qa o2_2) (qa o2_3) x6.1 >>=fun x7=>
    j3 x6.2 (qa o2_0) (qa o2_1) (qa o2_2) (qa x7)
   else
    q4 (qa o0) (⟨#[99,111,110,115,116]⟩:BA) >>=fun x8=>
    if x8=true then
     we (qa o0) (9:Int) (⟨#[99,111,110,115,116]⟩:BA) >>=fun x9=>
     match x9 with
     | .error ee=>some (.error ee)
     | .ok x9=>
     zf (qa o2_0) (qa o2_1) (qa o2_2) (qa o2_3) x9.1 >>=fun x10=>
     yk x9.2 (qa o2_0) (qa o2_1) (qa o2_2) (qa x10)
    else
     yv (qa o0) >>=fun x11=>
     match x11 with
     | .error ee=>some (.error ee)
     | .ok x11=>
     yk (qa o0) (qa o2_0) (qa o2_1) (qa o2_2) (qa o2_3)
 else
  zk (qa o0) >>=fun x12=>
  app 16 o2_2 ([x12.Lead]) >>=fun x13=>
  some (.ok ((Node.mk o2_0 o2_1 x13 o2_3),o0))
 partial_fixpoint
def j4 (o0:Reader) (o2_0:Int) (o2_1:BA) (o2_2:LB) (o2_3:LN):Option (Except Int (Node × Reader)):=
 zh (qa o0) (qa o2_0) (qa o2_1) (qa o2_2) (qa o2_3)
 partial_fixpoint
def j3 (o0:Reader) (o2_0:Int) (o2_1:BA) (o2_2:LB) (o2_3:LN):Option (Except Int (Node × Reader)):=
 j4 (qa o0) (qa o2_0) (qa o2_1) (qa o2_2) (qa o2_3)
 partial_fixpoint
def yk (o0:Reader) (o2_0:Int) (o2_1:BA) (o2_2:LB) (o2_3:LN):Option (Except Int (Node × Reader)):=
 j3 (qa o0) (qa o2_0) (qa o2_1) (qa o2_2) (qa o2_3)
 partial_fixpoint
end
@[reducible] def Qc (o0:Reader) (o2_0:Int) (o2_1:BA) (o2_2:LB) (o2_3:LN) (r:Except Int (Node × Reader)):Prop:=
  Ok Tryz.prog G tt 38 1 (exq (fun (r:Node × Reader)=>Ret Tryz.prog [.cell 2 45] (fun y H=>Q5 Tryz.prog G 1 H y (.agg (zo r.1)) ⟨1, [(0, .var 130 (Reader.cells r.2))]⟩)) (fun e=>Zs (flt e)) r) (.again (jy [11,17,23] Tryz.f55 0).1 (jy [11,17,23] Tryz.f55 0).2 (.n (.ptr 0 0 0) (.n .undef (.n (.ptr 2 2 0) .z .z) .z) (.n (.ptr 1 1 0) .z .z)) 5 [(0, .var 130 (Reader.cells o0)),(1, .var 45 [(.int .i64 0),(.str ⟨#[]⟩),(.sl 0 true []),(.sl 0 true [])]),(2, .var 45 [(.int .i64 o2_0),(.str o2_1),(.bs 1 3 3 0 o2_2.length),(.bs 4 4 4 0 o2_3.length)]),(3, .row 9 (o2_2.map sc).flatten),(4, .row 45 (o2_3.map Node.cells).flatten)])
@[reducible] def vt (o0:Reader) (o2_0:Int) (o2_1:BA) (o2_2:LB) (o2_3:LN) (r:Except Int (Node × Reader)):Prop:=
  Ok Tryz.prog G tt 38 1 (exq (fun (r:Node × Reader)=>Ret Tryz.prog [.cell 2 45] (fun y H=>Q5 Tryz.prog G 1 H y (.agg (zo r.1)) ⟨1, [(0, .var 130 (Reader.cells r.2))]⟩)) (fun e=>Zs (flt e)) r) (.go [] (Zg [11,17,23] Tryz.f55 11) [] (.n (.ptr 0 0 0) (.n .undef (.n (.ptr 2 2 0) .z .z) .z) (.n (.ptr 1 1 0) .z .z)) 6 [(0, .var 130 (Reader.cells o0)),(1, .var 45 [(.int .i64 0),(.str ⟨#[]⟩),(.sl 0 true []),(.sl 0 true [])]),(2, .var 45 [(.int .i64 o2_0),(.str o2_1),(.bs 1 3 3 0 o2_2.length),(.bs 4 4 5 0 o2_3.length)]),(3, .row 9 (o2_2.map sc).flatten),(5, .row 45 (o2_3.map Node.cells).flatten)])
@[reducible] def vr (o0:Reader) (o2_0:Int) (o2_1:BA) (o2_2:LB) (o2_3:LN) (r:Except Int (Node × Reader)):Prop:=
  Ok Tryz.prog G tt 38 1 (exq (fun (r:Node × Reader)=>Ret Tryz.prog [.cell 2 45] (fun y H=>Q5 Tryz.prog G 1 H y (.agg (zo r.1)) ⟨1, [(0, .var 130 (Reader.cells r.2))]⟩)) (fun e=>Zs (flt e)) r) (.go [] (Zg [11,17,23] Tryz.f55 17) [] (.n (.ptr 0 0 0) (.n .undef (.n (.ptr 2 2 0) .z .z) .z) (.n (.ptr 1 1 0) .z .z)) 6 [(0, .var 130 (Reader.cells o0)),(1, .var 45 [(.int .i64 0),(.str ⟨#[]⟩),(.sl 0 true []),(.sl 0 true [])]),(2, .var 45 [(.int .i64 o2_0),(.str o2_1),(.bs 1 3 3 0 o2_2.length),(.bs 4 4 5 0 o2_3.length)]),(3, .row 9 (o2_2.map sc).flatten),(5, .row 45 (o2_3.map Node.cells).flatten)])
@[reducible] def vq (o0:Reader) (o2_0:Int) (o2_1:BA) (o2_2:LB) (o2_3:LN) (r:Except Int (Node × Reader)):Prop:=
  Ok Tryz.prog G tt 38 1 (exq (fun (r:Node × Reader)=>Ret Tryz.prog [.cell 2 45] (fun y H=>Q5 Tryz.prog G 1 H y (.agg (zo r.1)) ⟨1, [(0, .var 130 (Reader.cells r.2))]⟩)) (fun e=>Zs (flt e)) r) (.go [] (Zg [11,17,23] Tryz.f55 23) [] (.n (.ptr 0 0 0) (.n .undef (.n (.ptr 2 2 0) .z .z) .z) (.n (.ptr 1 1 0) .z .z)) 6 [(0, .var 130 (Reader.cells o0)),(1, .var 45 [(.int .i64 0),(.str ⟨#[]⟩),(.sl 0 true []),(.sl 0 true [])]),(2, .var 45 [(.int .i64 o2_0),(.str o2_1),(.bs 1 3 3 0 o2_2.length),(.bs 4 4 5 0 o2_3.length)]),(3, .row 9 (o2_2.map sc).flatten),(5, .row 45 (o2_3.map Node.cells).flatten)])
theorem wv:PC5 Qc zh∧PC5 vq yk∧PC5 vr j3∧PC5 vt j4:=by
 refine zh.mutual_partial_correctness Qc vq vr vt (fun yk j3 j4 vw w0 w4 o0 o2_0 o2_1 o2_2 o2_3 r h=> ?_) (fun j3 w0 o0 o2_0 o2_1 o2_2 o2_3 r h=> ?_) (fun j4 w4 o0 o2_0 o2_1 o2_2 o2_3 r h=> ?_) (fun zh Qe o0 o2_0 o2_1 o2_2 o2_3 r h=> ?_)
 ·unfold qa at h
  refine yc ?_
  refine kr [11,17,23] ?_
  obtain ⟨x1,hx,h⟩:=bind_some h
  refine qc (AC.g9 (jd _ _ hx) [0] [0]) ?_
  refine kr [11,17,23] ?_
  refine qf (fun hb=> ?_) (fun hb=> ?_)
  ·replace h:=qu hb h
   refine kr [11,17,23] ?_
   obtain ⟨x2,hx,h⟩:=bind_some h
   refine qc (AC.g9 (q6 _ _ _ hx) [0] [0]) ?_
   refine kr [11,17,23] ?_
   refine qf (fun hb=> ?_) (fun hb=> ?_)
   ·replace h:=qu hb h
    refine kr [11,17,23] ?_
    obtain ⟨x3,hx,h⟩:=bind_some h
    rcases x3 with ee | x3
    ·replace h:some (.error ee)=some r:=h
     cases h
     exact q7 (FC.go (wz _ _ hx) [0] [0] rfl rfl rfl rfl rfl rfl)
    refine qc (AC.g9 (wz _ _ hx) [0] [0]) ?_
    refine kr [11,17,23] ?_
    obtain ⟨x4,hx,h⟩:=bind_some h
    refine qc (AC.g9 (zg _ _ _ _ _ _ hx) [2,3,4] [2,3,4]) ?_
    refine kr [11,17,23] ?_
    exact zb (by kernel_rfl) rfl lQ (w4 _ _ _ _ _ _ h)
   replace h:=qv hb h
   refine kr [11,17,23] ?_
   obtain ⟨x5,hx,h⟩:=bind_some h
   refine qc (AC.g9 (q6 _ _ _ hx) [0] [0]) ?_
   refine kr [11,17,23] ?_
   refine qf (fun hb=> ?_) (fun hb=> ?_)
   ·replace h:=qu hb h
    refine kr [11,17,23] ?_
    obtain ⟨x6,hx,h⟩:=bind_some h
    rcases x6 with ee | x6
    ·replace h:some (.error ee)=some r:=h
     cases h
     exact q7 (FC.go (Yd _ _ hx) [0] [0] rfl rfl rfl rfl rfl rfl)
    refine qc (AC.g9 (Yd _ _ hx) [0] [0]) ?_
    refine kr [11,17,23] ?_
    obtain ⟨x7,hx,h⟩:=bind_some h
    refine qc (AC.g9 (zg _ _ _ _ _ _ hx) [2,3,4] [2,3,4]) ?_
    refine kr [11,17,23] ?_
    exact zb (by kernel_rfl) rfl lQ (w0 _ _ _ _ _ _ h)
   replace h:=qv hb h
   refine kr [11,17,23] ?_
   obtain ⟨x8,hx,h⟩:=bind_some h
   refine qc (AC.g9 (q6 _ _ _ hx) [0] [0]) ?_
   refine kr [11,17,23] ?_
   refine qf (fun hb=> ?_) (fun hb=> ?_)
   ·replace h:=qu hb h
    refine kr [11,17,23] ?_
    obtain ⟨x9,hx,h⟩:=bind_some h
    rcases x9 with ee | x9
    ·replace h:some (.error ee)=some r:=h
     cases h
     exact q7 (FC.go (ux _ _ _ _ hx) [0] [0] rfl rfl rfl rfl rfl rfl)
    refine qc (AC.g9 (ux _ _ _ _ hx) [0] [0]) ?_
    refine kr [11,17,23] ?_
    obtain ⟨x10,hx,h⟩:=bind_some h
    refine qc (AC.g9 (zg _ _ _ _ _ _ hx) [2,3,4] [2,3,4]) ?_
    refine kr [11,17,23] ?_
    exact zb (by kernel_rfl) rfl lQ (vw _ _ _ _ _ _ h)
   replace h:=qv hb h
   refine kr [11,17,23] ?_
   obtain ⟨x11,hx,h⟩:=bind_some h
   rcases x11 with ee | x11
   ·replace h:some (.error ee)=some r:=h
    cases h
    exact q7 (FC.go (yd _ _ hx) [0] [0] rfl rfl rfl rfl rfl rfl)
   refine qc (AC.g9 (yd _ _ hx) [0] [0]) ?_
   refine kr [11,17,23] ?_
   exact zb (by kernel_rfl) rfl lQ (vw _ _ _ _ _ _ h)
  replace h:=qv hb h
  refine kr [11,17,23] ?_
  obtain ⟨x12,hx,h⟩:=bind_some h
  refine qc (AC.g9 (jd _ _ hx) [0] [0]) ?_
  refine kr [11,17,23] ?_
  obtain ⟨x13,hx,h⟩:=bind_some h
  have hp_x13:=qad hx (by simp)
  refine qdh (C:=sc) env hx rfl rfl (by simp) (fun _=>rfl) rfl rfl rfl rfl rfl (by decide) rfl rfl rfl ?_
  refine kr [11,17,23] ?_
  cases h
  exact yh env rfl rfl (tS [some 0] (sV (lS (lS lN)) zw) (j6 (yy (qi (qh (zm rfl) rfl) (qi (qh (jn rfl) rfl) (qi (qh (jg kv rfl) rfl) (qi (qh (jg ze rfl) rfl) yx))))) (by simp)))
 ·unfold qa at h
  refine kr [11,17,23] ?_
  exact zb (by kernel_rfl) rfl lQ (w0 _ _ _ _ _ _ h)
 ·unfold qa at h
  refine kr [11,17,23] ?_
  exact zb (by kernel_rfl) rfl lQ (w4 _ _ _ _ _ _ h)
 unfold qa at h
 refine kr [11,17,23] ?_
 exact zp (by kernel_rfl) lQ (Qe _ _ _ _ _ _ h)
theorem Qe:PC5 Qc zh:=wv.1
theorem vw:PC5 vq yk:=wv.2.1
theorem w0:PC5 vr j3:=wv.2.2.1
theorem w4:PC5 vt j4:=wv.2.2.2
def Qj (a0:Reader):Option (Except Int (Node × Reader)):=
 zh a0 (1:Int) (⟨#[]⟩) ([]:LB) ([]:LN)
@[reducible] def qcp (a0:Reader) (r:Except Int (Node × Reader)):Prop:=
  exq (fun (r:Node × Reader)=>AC Tryz.prog G 55 [(.ptr 0 0 0)] 1 [(0, .var 130 (Reader.cells a0))] (.agg (zo r.1)) 1 [(0, .var 130 (Reader.cells r.2))]) (fun e=>FC Tryz.prog G 55 [(.ptr 0 0 0)] 1 [(0, .var 130 (Reader.cells a0))] (flt e)) r
theorem Y0:PC1 qcp Qj:=fun a0 r h=>by
 rw [Qj.eq_def] at h
 refine Yt (T:=tt) (N:=38) (rs:= [.cell 2 45]) (fun vs w=>by simp) Tryz.func55 rfl rfl rfl (by kernel_rfl) (by kernel_rfl) (kw rfl rfl kx) (zr zt) (fun r=>(kq rfl ku)) (fun r=>(zr zt)) (fun _=>rfl) (fun _=>rfl) rfl (fun _=>rfl) ?_
 refine kr [11,17,23] ?_
 refine qu1 2 2 1 9 rfl rfl rfl ?_
 refine qu1 2 3 4 45 rfl rfl rfl ?_
 exact jv (by kernel_rfl) lQ (Qe _ _ _ _ _ _ h)
def qa6 (a0:Reader):Option (Except Int (Node × Reader)):=
 Qj a0 >>=fun x1=>
 match x1 with
 | .error ee=>some (.error ee)
 | .ok x1=>
 some (.ok (x1.1,x1.2))
@[reducible] def qtd (a0:Reader) (r:Except Int (Node × Reader)):Prop:=
  exq (fun (r:Node × Reader)=>AC Tryz.prog G 54 [(.ptr 0 0 0)] 1 [(0, .var 130 (Reader.cells a0))] (.agg (zo r.1)) 1 [(0, .var 130 (Reader.cells r.2))]) (fun e=>FC Tryz.prog G 54 [(.ptr 0 0 0)] 1 [(0, .var 130 (Reader.cells a0))] (flt e)) r
theorem ql7:PC1 qtd qa6:=fun a0 r h=>by
 rw [qa6.eq_def] at h
 refine Yt (T:=tt) (N:=5) (rs:= [.cell 2 45]) (fun vs w=>by simp) Tryz.func54 rfl rfl rfl (by kernel_rfl) (by kernel_rfl) (kw rfl rfl kx) (zr zt) (fun r=>(kq rfl ku)) (fun r=>(zr zt)) (fun _=>rfl) (fun _=>rfl) rfl (fun _=>rfl) ?_
 refine kr [] ?_
 obtain ⟨x1,hx,h⟩:=bind_some h
 rcases x1 with ee | x1
 ·replace h:some (.error ee)=some r:=h
  cases h
  exact q7 (FC.go (Y0 _ _ hx) [0] [0] rfl rfl rfl rfl rfl rfl)
 refine qc (AC.g9 (Y0 _ _ hx) [0] [0]) ?_
 refine kr [] ?_
 cases h
 exact yh env rfl rfl (tS [some 0] (sV (lS (lS lN)) zw) (j6 (yy (qi (qh (zm rfl) rfl) (qi (qh (jn rfl) rfl) (qi (qh (y5 (.inl rfl)) rfl) (qi (qh (y5 (.inl rfl)) rfl) yx))))) (by simp)))
noncomputable def cfst:Code→Code
 | .seq x _=>x
 | c=>c
noncomputable def csnd:Code→Code
 | .seq _ y=>y
 | c=>c
noncomputable def cthen:Code→Code
 | .cond _ x _=>x
 | c=>c
theorem q1j (e:Int) (w:World):(Instr.typeAssert (.iface 127 (.int .i64 e)) 20 127 true).run Tryz.prog w= .ok (.tuple #[.int .i64 e, .bool true]) w:=by kernel_rfl
theorem qxb (x y z:Value) (w:World):CallsD Tryz.prog 79 #[x,y,z] .returning w fun e u' w'=>(∃v,e= .returned v)∧u'= .returning∧w'=w:=by
 refine callsD_of_wpS Tryz.func79 rfl fun c₀ cs hu=> ?_
 apply wpS_seq
 apply wpS_region
 simp [wpOpsS,go_sem,recoverD,hu,Tryz.ntmps79,Exit.thenS]
 apply wpS_seq
 apply wpS_region
 simp [wpOpsS,go_sem,Exit.thenS]
 refine wpS_cond (t:=false) (by simp [Act.eval,Array.replicate]) ?_
 simp only [Bool.false_eq_true,if_false]
 refine wpS_of_wp (wp_skip ?_)
 cases c₀
 simp_all [bodyPostS,results,Tryz.results79]
def qmv:List AV:= [.int .i64 0, .str ⟨#[]⟩, .sl 0 true [], .sl 0 true []]
def qkq (e:Int):Objs:= [(0, .var 45 qmv),(1, .var 26 [.int .i64 1]),(2, .var 3 [.int .i64 e])]
noncomputable def rec5:Code:=csnd (csnd (cthen (csnd (csnd (qdb Tryz.f79)))))
theorem qxc (e c6:Int):Ok Tryz.prog G tt 19 3 (Yf (fun _ H=>H=⟨3,qkq e⟩) (fun _ _ _=>False)) (.go [(0, .ptr 0 0 0),(1, .ptr 1 1 0),(2, .ptr 2 2 0),(4, .int .i64 e)] [.code rec5] [] .z 3 [(0, .var 45 qmv),(1, .var 26 [.int .i64 0]),(2, .var 3 [.int .i64 c6])]):=by
 refine kr [] ?_
 exact qu2 rfl
end Go.Proofs.YtpnkemogepoioaaGreatDoorW.Ex.Gr
