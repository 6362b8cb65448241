/- The functions of the program's layer 9 and of its references, printed as functions on numbers, strings, lists and trees, with the proofs that they are what the code computes. Conditions: those in each theorem. -/
import Derived.Test.YtpnkemogepoioaaGreatDoorGh
import Derived.Test.YtpnkemogepoioaaGreatDoorYa
import Derived.Test.YtpnkemogepoioaaGreatDoorExZ
import Derived.Test.YtpnkemogepoioaaGreatDoorExF
import Derived.Test.YtpnkemogepoioaaGreatDoorT8
import Derived.Test.YtpnkemogepoioaaGreatDoorT0
import Derived.Test.YtpnkemogepoioaaGreatDoorM1
import Derived.Test.YtpnkemogepoioaaGreatDoorM2
namespace Go.Proofs.YtpnkemogepoioaaGreatDoorW.Ex.Gr
open Go Go.Proofs.YtpnkemogepoioaaGreatDoorW.Ex
set_option linter.all false
set_option maxRecDepth 100000
set_option synthInstance.maxSize 4000
set_option maxHeartbeats 4000000
open Go.Proofs.YtpnkemogepoioaaGreatDoorW.Plain
structure Token where
 Kind:Int
 Lead:ByteArray
 Text:ByteArray
 At:Int
def Token.cells (x:Token):List AV:= [(.int .i64 x.Kind),(.str x.Lead),(.str x.Text),(.int .i64 x.At)]
theorem Kx:CellsOk Token.cells 4:=⟨fun _=>rfl,by decide,fun a z hz=>by
 simp only [Token.cells,List.mem_cons,List.not_mem_nil,or_false] at hz
 rcases hz with rfl | rfl | rfl | rfl <;> exact ⟨rfl,rfl⟩⟩
structure Reader where
 l_:(List Token)
 at_:Int
def Reader.cells (x:Reader):List AV:= [(.sl 4 false (x.l_.map Token.cells)),(.int .i64 x.at_)]
structure Row where
 Parent:Int
 Kind:Int
 Text:ByteArray
 Gaps:(List ByteArray)
 Kids:(List Int)
def Row.cells (x:Row):List AV:= [(.int .i64 x.Parent),(.int .i64 x.Kind),(.str x.Text),(.sl 1 false (x.Gaps.map sc)),(.sl 1 false (x.Kids.map ic))]
theorem vy:CellsOk Row.cells 5:=⟨fun _=>rfl,by decide,fun a z hz=>by
 simp only [Row.cells,List.mem_cons,List.not_mem_nil,or_false] at hz
 rcases hz with rfl | rfl | rfl | rfl | rfl <;> exact ⟨rfl,rfl⟩⟩
structure File where
 Path:ByteArray
 Text:ByteArray
def File.cells (x:File):List AV:= [(.str x.Path),(.str x.Text)]
theorem qcx:CellsOk File.cells 2:=⟨fun _=>rfl,by decide,fun a z hz=>by
 simp only [File.cells,List.mem_cons,List.not_mem_nil,or_false] at hz
 rcases hz with rfl | rfl <;> exact ⟨rfl,rfl⟩⟩
structure Unit where
 Path:ByteArray
 Text:ByteArray
 Tree:Node
 Broken:Bool
def Unit.cells (x:Unit):List AV:= [(.str x.Path),(.str x.Text),(.int .i64 x.Tree.kind),(.str x.Tree.text),(.sl 1 false (x.Tree.gaps.map sc)),(.sl 4 false (x.Tree.kids.map Node.cells)),(.bool x.Broken)]
theorem Kw:CellsOk Unit.cells 7:=⟨fun _=>rfl,by decide,fun a z hz=>by
 simp only [Unit.cells,List.mem_cons,List.not_mem_nil,or_false] at hz
 rcases hz with rfl | rfl | rfl | rfl | rfl | rfl | rfl <;> exact ⟨rfl,rfl⟩⟩
structure Ref where
 Unit:Int
 Node:Int
def Ref.cells (x:Ref):List AV:= [(.int .i64 x.Unit),(.int .i64 x.Node)]
structure Decl where
 Kind:Int
 Owner:ByteArray
 Name:ByteArray
 At:Ref
def Decl.cells (x:Decl):List AV:= [(.int .i64 x.Kind),(.str x.Owner),(.str x.Name),(.int .i64 x.At.Unit),(.int .i64 x.At.Node)]
theorem ur:CellsOk Decl.cells 5:=⟨fun _=>rfl,by decide,fun a z hz=>by
 simp only [Decl.cells,List.mem_cons,List.not_mem_nil,or_false] at hz
 rcases hz with rfl | rfl | rfl | rfl | rfl <;> exact ⟨rfl,rfl⟩⟩
structure Around where
 function_:ByteArray
 class_:ByteArray
 method_:Bool
def Around.cells (x:Around):List AV:= [(.str x.function_),(.str x.class_),(.bool x.method_)]
@[reducible] def PC0 {R:Type} (M:R→Prop) (F:Option R):Prop:=∀r,F=some r→M r
@[reducible] def PC1 {A0 R:Type} (M:A0→R→Prop) (F:A0→Option R):Prop:=∀a0 r,F a0=some r→M a0 r
@[reducible] def PC2 {A0 A1 R:Type} (M:A0→A1→R→Prop) (F:A0→A1→Option R):Prop:=∀a0 a1 r,F a0 a1=some r→M a0 a1 r
@[reducible] def PC3 {A0 A1 A2 R:Type} (M:A0→A1→A2→R→Prop) (F:A0→A1→A2→Option R):Prop:=∀a0 a1 a2 r,F a0 a1 a2=some r→M a0 a1 a2 r
@[reducible] def PC4 {A0 A1 A2 A3 R:Type} (M:A0→A1→A2→A3→R→Prop) (F:A0→A1→A2→A3→Option R):Prop:=∀a0 a1 a2 a3 r,F a0 a1 a2 a3=some r→M a0 a1 a2 a3 r
@[reducible] def PC5 {A0 A1 A2 A3 A4 R:Type} (M:A0→A1→A2→A3→A4→R→Prop) (F:A0→A1→A2→A3→A4→Option R):Prop:=∀a0 a1 a2 a3 a4 r,F a0 a1 a2 a3 a4=some r→M a0 a1 a2 a3 a4 r
@[reducible] def PC6 {A0 A1 A2 A3 A4 A5 R:Type} (M:A0→A1→A2→A3→A4→A5→R→Prop) (F:A0→A1→A2→A3→A4→A5→Option R):Prop:=∀a0 a1 a2 a3 a4 a5 r,F a0 a1 a2 a3 a4 a5=some r→M a0 a1 a2 a3 a4 a5 r
@[reducible] def PC8 {A0 A1 A2 A3 A4 A5 A6 A7 R:Type} (M:A0→A1→A2→A3→A4→A5→A6→A7→R→Prop) (F:A0→A1→A2→A3→A4→A5→A6→A7→Option R):Prop:=∀a0 a1 a2 a3 a4 a5 a6 a7 r,F a0 a1 a2 a3 a4 a5 a6 a7=some r→M a0 a1 a2 a3 a4 a5 a6 a7 r
@[reducible] def PC9 {A0 A1 A2 A3 A4 A5 A6 A7 A8 R:Type} (M:A0→A1→A2→A3→A4→A5→A6→A7→A8→R→Prop) (F:A0→A1→A2→A3→A4→A5→A6→A7→A8→Option R):Prop:=∀a0 a1 a2 a3 a4 a5 a6 a7 a8 r,F a0 a1 a2 a3 a4 a5 a6 a7 a8=some r→M a0 a1 a2 a3 a4 a5 a6 a7 a8 r
@[reducible] def PC11 {A0 A1 A2 A3 A4 A5 A6 A7 A8 A9 A10 R:Type} (M:A0→A1→A2→A3→A4→A5→A6→A7→A8→A9→A10→R→Prop) (F:A0→A1→A2→A3→A4→A5→A6→A7→A8→A9→A10→Option R):Prop:=∀a0 a1 a2 a3 a4 a5 a6 a7 a8 a9 a10 r,F a0 a1 a2 a3 a4 a5 a6 a7 a8 a9 a10=some r→M a0 a1 a2 a3 a4 a5 a6 a7 a8 a9 a10 r
theorem Node.cells_eq (n:Node):n.cells=zq n:=Go.Proofs.YtpnkemogepoioaaGreatDoorW.Ex.Gr.cells_eq n
theorem Node.cells_len (n:Node):n.cells.length=4:=by rw [Node.cells_eq];rfl
theorem zd:CellsOk Node.cells 4:=⟨Node.cells_len,by decide,fun n z hz=>by
 rw [Node.cells_eq] at hz
 simp only [List.mem_cons,List.not_mem_nil,or_false] at hz
 rcases hz with rfl | rfl | rfl | rfl <;> exact ⟨rfl,rfl⟩⟩
mutual
def wfB:Node→Bool
 | .mk _ t g l=>decide (l.length≤9223372036854775807) && decide (g.length≤9223372036854775807) && decide (t.size≤9223372036854775807) && g.all (fun s=>decide (s.size≤9223372036854775807)) && wfBL l
def wfBL:List Node→Bool
 | []=>true
 | n::l=>wfB n && wfBL l
end
mutual
theorem qx2:∀n:Node,wfB n=true→Wf n
 | .mk k t g l,h=>by
   simp only [wfB,Bool.and_eq_true,decide_eq_true_eq,List.all_eq_true] at h
   exact .mk _ h.1.1.1.1 h.1.1.1.2 h.1.1.2 h.1.2 (quy l h.2)
theorem quy:∀l:List Node,wfBL l=true→∀m∈l,Wf m
 | [],_,m,hm=>by cases hm
 | n::l,h,m,hm=>by
   simp only [wfBL,Bool.and_eq_true] at h
   rcases List.mem_cons.1 hm with e | hm
   ·rw [e];exact qx2 n h.1
   exact quy l h.2 m hm
end
def Q3 (n:Node):Option Int:=if wfB n=true then some (checkErr n) else none
theorem qjc (n:Node) (r:Int) (h:Q3 n=some r):Fn Tryz.prog G 44 [.agg (zq n)] (.int .i64 r):=by
 unfold Q3 at h
 split at h
 ·rename_i hc;cases h;exact qnr n (qx2 n hc)
 cases h
def yc (s:ByteArray) (c:Int):Option Int:=some (Lib.indexByte s.data.toList c.toNat.toUInt8)
theorem yp (s:ByteArray) (c:Int) (r:Int) (h:yc s c=some r):Fn Tryz.prog G 147 [.str s, .int .u8 c] (.int .i64 r):=by
 cases h;exact qcg s c
def Yd (s:ByteArray) (a:Int):Option Int:=if s.size≤9223372036854775807 then some (qmy s a) else none
theorem qnf (s:ByteArray) (a:Int) (r:Int) (h:Yd s a=some r):Fn Tryz.prog G 119 [.str s, .int .i64 a] (.int .i64 r):=by
 unfold Yd at h
 split at h
 ·rename_i hc;cases h;exact qlr s a hc
 cases h
def Yy (s:ByteArray):Option Bool:=if s.size≤281474976710656 then some (Km s.data.toList) else none
theorem qja (s:ByteArray) (r:Bool) (h:Yy s=some r):Fn Tryz.prog G 152 [.str s] (.bool r):=by
 unfold Yy at h
 split at h
 ·rename_i hc;cases h;exact qnm s hc
 cases h
def Wa (s:ByteArray):Option Bool:=some (qbv s.data.toList)
theorem qfy (s:ByteArray) (r:Bool) (h:Wa s=some r):Fn Tryz.prog G 143 [.str s] (.bool r):=by
 cases h;exact qmc s
theorem qjb (r:List (Int × Int)) (h:qaz=some r):Fn Tryz.prog G 34 [] (.mp .i64 .i64 r):=by cases h;exact qnp
def qf1 (s:ByteArray):Option Bool:=some (qgw s.data.toList)
theorem qn2 (s:ByteArray) (r:Bool) (h:qf1 s=some r):Fn Tryz.prog G 56 [.str s] (.bool r):=by
 cases h;exact qw7 s
def u5 (l:List ByteArray):Option (List ByteArray):=if l.length*16≤281474976710656 then some l else none
theorem qfx (l:List ByteArray) (r:(List ByteArray)) (h:u5 l=some r):Fn Tryz.prog G 91 [.sl 1 false (l.map sc)] (.sl 1 false (r.map sc)):=by
 unfold u5 at h
 split at h
 ·rename_i hc;cases h;exact qtr l hc
 cases h
def flt (e:Int):List PanicEntry:= [{v:= .iface 127 (.int .i64 e),recovered:=false}]
abbrev LB:=List ByteArray
abbrev LN:=List Node
section
variable {ps:List (Nat × AV)} {k:List Item} {kn:List Nat} {fr fr':FT} {n n' N p m m' r n2:Nat} {objs objs' objs2 O O':Objs} {Q:Exit→Fr→Hp→Prop} {ρ:Nat→Nat}
theorem kr (bars:List Nat) {c:Cfg} (hc:Ok Tryz.prog G tt N p Q c) (h:runK tt G bars 2000 ps k kn fr n objs=some c:=by exact rfl):Ok Tryz.prog G tt N p Q (.go ps k kn fr n objs):=q1v env bars h hc
theorem kf {rs:List ResultVar} {y:AV} (hk:qgy k=true:=by exact rfl) (h:qh7 tt fr objs rs qgx=some y:=by exact rfl):Ok Tryz.prog G tt N p (Ret Tryz.prog rs (fun z H=>Told Tryz.prog G H z y)) (.fin .ret k fr n objs):=j5 env hk h (q9 rfl)
theorem lN:leC ρ m [] []:=qa9
theorem lS {v u:AV} {vs us:List AV} (hs:leC ρ m vs us) (h:v=u.ren1 ρ:=by exact rfl) (hu:u.un1 m=true:=by exact rfl):leC ρ m (v::vs) (u::us):=qzc h hu hs
theorem sV {i s':Nat} {e:TypeId} {cs cs':List AV} {l:List (Option Nat)} (hc:leC ρ m cs cs') (h:Wc ρ m objs l O') (ho:objs[i]? =some (ρ s', .var e cs):=by exact rfl) (hb:Nat.blt s' m=true:=by exact rfl):Wc ρ m objs (some i::l) ((s', .var e cs')::O'):=qw1 ho hb hc h
theorem sR {α:Type} {C:α→List AV} {sz i s':Nat} {e:TypeId} {x:List α} {l:List (Option Nat)} (hC:CellsOk C sz) (h:Wc ρ m objs l O') (ho:objs[i]? =some (ρ s', .row e (x.map C).flatten):=by exact rfl) (hb:Nat.blt s' m=true:=by exact rfl):Wc ρ m objs (some i::l) ((s', .row e (x.map C).flatten)::O'):=qw2 hC ho hb h
theorem tS {x y:AV} (sel:List (Option Nat)) (ho:Wc (rhoS objs sel O') m' objs sel O') (hx:resT objs' (rhoS objs sel O') m' y x) (hd:qif (sel.filterMap id) 0 objs some=some objs':=by exact rfl) (hn:qmk sel=true:=by exact rfl) (hid:(List.range m).all (fun s=>Nat.beq (rhoS objs sel O' s) s)=true:=by exact rfl) (hle:Nat.ble m m'=true:=by exact rfl):Qw Tryz.prog G m ⟨n,objs⟩ y x ⟨m',O'⟩:=qts sel hd hn hid hle ho hx
theorem lA (hf:leFT (rho objs' objs) n' fr fr':=by first | (simp [Reader.cells] <;> (repeat' apply And.intro) <;> first | rfl | exact .inl ⟨rfl,rfl⟩ | exact qa9 | exact fun x a _ h=>(zd.all a x h).2 | exact fun x a _ h=>(qkl.all a x h).2 | exact fun x a _ h=>(y8.all a x h).2 | exact fun x a _ h=>(qa1.all a x h).2 | exact fun x a _ h=>(Kx.all a x h).2 | exact fun x a _ h=>(vy.all a x h).2 | exact fun x a _ h=>(ur.all a x h).2 | exact fun x a _ h=>(Kw.all a x h).2 | exact fun x a _ h=>(qcx.all a x h).2) | (simp [Reader.cells,Token.cells] <;> (repeat' apply And.intro) <;> first | rfl | exact .inl ⟨rfl,rfl⟩ | exact qa9 | exact fun x a _ h=>(zd.all a x h).2 | exact fun x a _ h=>(qkl.all a x h).2 | exact fun x a _ h=>(y8.all a x h).2 | exact fun x a _ h=>(qa1.all a x h).2 | exact fun x a _ h=>(Kx.all a x h).2 | exact fun x a _ h=>(vy.all a x h).2 | exact fun x a _ h=>(ur.all a x h).2 | exact fun x a _ h=>(Kw.all a x h).2 | exact fun x a _ h=>(qcx.all a x h).2)) (ho:leOs (rho objs' objs) n' objs objs':=by first | (simp [Reader.cells] <;> (repeat' apply And.intro) <;> first | rfl | exact .inl ⟨rfl,rfl⟩ | exact qa9 | exact fun x a _ h=>(zd.all a x h).2 | exact fun x a _ h=>(qkl.all a x h).2 | exact fun x a _ h=>(y8.all a x h).2 | exact fun x a _ h=>(qa1.all a x h).2 | exact fun x a _ h=>(Kx.all a x h).2 | exact fun x a _ h=>(vy.all a x h).2 | exact fun x a _ h=>(ur.all a x h).2 | exact fun x a _ h=>(Kw.all a x h).2 | exact fun x a _ h=>(qcx.all a x h).2) | (simp [Reader.cells,Token.cells] <;> (repeat' apply And.intro) <;> first | rfl | exact .inl ⟨rfl,rfl⟩ | exact qa9 | exact fun x a _ h=>(zd.all a x h).2 | exact fun x a _ h=>(qkl.all a x h).2 | exact fun x a _ h=>(y8.all a x h).2 | exact fun x a _ h=>(qa1.all a x h).2 | exact fun x a _ h=>(Kx.all a x h).2 | exact fun x a _ h=>(vy.all a x h).2 | exact fun x a _ h=>(ur.all a x h).2 | exact fun x a _ h=>(Kw.all a x h).2 | exact fun x a _ h=>(qcx.all a x h).2)):Less G N 0 (frT fr) ⟨n,objs⟩ (frT fr') ⟨n',objs'⟩:=qcl hf ho
theorem lQ (hf:leFT (rho objs' objs) n' fr fr':=by first | (simp [Reader.cells] <;> (repeat' apply And.intro) <;> first | rfl | exact .inl ⟨rfl,rfl⟩ | exact qa9 | exact fun x a _ h=>(zd.all a x h).2 | exact fun x a _ h=>(qkl.all a x h).2 | exact fun x a _ h=>(y8.all a x h).2 | exact fun x a _ h=>(qa1.all a x h).2 | exact fun x a _ h=>(Kx.all a x h).2 | exact fun x a _ h=>(vy.all a x h).2 | exact fun x a _ h=>(ur.all a x h).2 | exact fun x a _ h=>(Kw.all a x h).2 | exact fun x a _ h=>(qcx.all a x h).2) | (simp [Reader.cells,Token.cells] <;> (repeat' apply And.intro) <;> first | rfl | exact .inl ⟨rfl,rfl⟩ | exact qa9 | exact fun x a _ h=>(zd.all a x h).2 | exact fun x a _ h=>(qkl.all a x h).2 | exact fun x a _ h=>(y8.all a x h).2 | exact fun x a _ h=>(qa1.all a x h).2 | exact fun x a _ h=>(Kx.all a x h).2 | exact fun x a _ h=>(vy.all a x h).2 | exact fun x a _ h=>(ur.all a x h).2 | exact fun x a _ h=>(Kw.all a x h).2 | exact fun x a _ h=>(qcx.all a x h).2)) (ho:leOs (rho objs' objs) n' objs objs':=by first | (simp [Reader.cells] <;> (repeat' apply And.intro) <;> first | rfl | exact .inl ⟨rfl,rfl⟩ | exact qa9 | exact fun x a _ h=>(zd.all a x h).2 | exact fun x a _ h=>(qkl.all a x h).2 | exact fun x a _ h=>(y8.all a x h).2 | exact fun x a _ h=>(qa1.all a x h).2 | exact fun x a _ h=>(Kx.all a x h).2 | exact fun x a _ h=>(vy.all a x h).2 | exact fun x a _ h=>(ur.all a x h).2 | exact fun x a _ h=>(Kw.all a x h).2 | exact fun x a _ h=>(qcx.all a x h).2) | (simp [Reader.cells,Token.cells] <;> (repeat' apply And.intro) <;> first | rfl | exact .inl ⟨rfl,rfl⟩ | exact qa9 | exact fun x a _ h=>(zd.all a x h).2 | exact fun x a _ h=>(qkl.all a x h).2 | exact fun x a _ h=>(y8.all a x h).2 | exact fun x a _ h=>(qa1.all a x h).2 | exact fun x a _ h=>(Kx.all a x h).2 | exact fun x a _ h=>(vy.all a x h).2 | exact fun x a _ h=>(ur.all a x h).2 | exact fun x a _ h=>(Kw.all a x h).2 | exact fun x a _ h=>(qcx.all a x h).2)) (hid:∀s,s < p→rho objs' objs s=s:=by exact qub rfl) (hp:p≤n':=by exact Nat.le_of_ble_eq_true rfl):Less G N p (frT fr) ⟨n,objs⟩ (frT fr') ⟨n',objs'⟩:=qy9 hid hp hf ho
theorem AC.g9 {f:FuncId} {xs xs0:List AV} {x y:AV} (h:AC Tryz.prog G f xs0 r O x m' O') (ids st:List Nat) (hnd:decide ids.Nodup=true:=by exact rfl) (hids:ids.length=O.length:=by exact rfl) (hst:st.length=r:=by exact rfl) (hstn:st.all (fun s=>Nat.blt s n)=true:=by exact rfl)
 (hxs:xs0.map (AV.mv (fun j=>ids.getD j 0) (fun s=>st.getD s 0))=xs:=by exact rfl) (hg:qem ids objs=some (O.map fun q=>(st.getD q.1 0,q.2.mvR (fun j=>ids.getD j 0) (fun s=>st.getD s 0))):=by exact rfl)
 (hy:qhk (x.mv (fun j=>ids.getD j 0) (qcj (fun s=>st.getD s 0) r n)) some=some y:=by exact rfl) (hs:qh5 ids (O'.map fun q=>(qcj (fun s=>st.getD s 0) r n q.1,q.2.mvR (fun j=>ids.getD j 0) (qcj (fun s=>st.getD s 0) r n))) objs some=some objs2:=by exact rfl) (hn:Yi (n+(m' - r)) some=some n2:=by exact rfl):ACalls Tryz.prog G f xs ⟨n,objs⟩ y ⟨n2,objs2⟩:=AC.go h ids st hnd hids hst hstn hxs hg hy hs hn
end
mutual
def wr (t0:BA) (t3:Int) (t4:Int):Option Bool:=
 if (decide (t4≤(t0.size:Int)))=true then
  if (decide (t4 < (t0.size:Int)))=true then
   sx t0 t4 >>=fun x1=>
   if (!decide (x1=(47:Int)))=true then
    uh (qa t0) (qa t3) (qa t4)
   else
    vu (qa t0) (qa t3) (qa t4)
  else
   vu (qa t0) (qa t3) (qa t4)
 else
  some true
 partial_fixpoint
def uh (t0:BA) (t3:Int) (t4:Int):Option Bool:=
 wr (qa t0) (qa t3) (IntKind.i64.wrap (t4+(1:Int)))
 partial_fixpoint
def vu (t0:BA) (t3:Int) (t4:Int):Option Bool:=
 ssub t0 t3 t4 >>=fun x2=>
 qf1 (qa x2) >>=fun x3=>
 if (!x3)=true then
  some false
 else
  uh (qa t0) (IntKind.i64.wrap (t4+(1:Int))) (qa t4)
 partial_fixpoint
end
@[reducible] def Wt (t0:BA) (t3:Int) (t4:Int) (r:Bool):Prop:=
  Ok Tryz.prog G tt 36 0 (Ret Tryz.prog [.tmp 2] (fun y H=>Told Tryz.prog G H y (.bool r))) (.again (jj [1000001,27] Tryz.f31 0).1 (jj [1000001,27] Tryz.f31 0).2 (.n (.str t0) (.n .undef (.n (.int .i64 t3) .z .z) .z) (.n .undef (.n (.int .i64 t4) .z .z) .z)) 0 [])
@[reducible] def Wu (t0:BA) (t3:Int) (t4:Int) (r:Bool):Prop:=
  Ok Tryz.prog G tt 36 0 (Ret Tryz.prog [.tmp 2] (fun y H=>Told Tryz.prog G H y (.bool r))) (.go [] (qiz [1000001,27] Tryz.f31 1) [] (.n (.str t0) (.n .undef (.n (.int .i64 t3) .z .z) .z) (.n .undef (.n (.int .i64 t4) .z .z) .z)) 0 [])
@[reducible] def K1 (t0:BA) (t3:Int) (t4:Int) (r:Bool):Prop:=
  Ok Tryz.prog G tt 36 0 (Ret Tryz.prog [.tmp 2] (fun y H=>Told Tryz.prog G H y (.bool r))) (.go [] (w9 [1000001,27] Tryz.f31 27) [] (.n (.str t0) (.n .undef (.n (.int .i64 t3) .z .z) .z) (.n .undef (.n (.int .i64 t4) .z .z) .z)) 0 [])
theorem Y6:PC3 Wt wr∧PC3 K1 vu∧PC3 Wu uh:=by
 refine wr.mutual_partial_correctness Wt K1 Wu (fun vu uh K5 Yb t0 t3 t4 r h=> ?_) (fun uh Yb t0 t3 t4 r h=> ?_) (fun wr Wz t0 t3 t4 r h=> ?_)
 ·unfold qa at h
  refine j7 ?_
  refine kr [1000001,27] ?_
  refine qf (fun hb=> ?_) (fun hb=> ?_)
  ·replace h:=qx hb h
   refine kr [1000001,27] ?_
   refine qo (fun hb=> ?_) (fun hb=> ?_)
   ·replace h:=qx hb h
    refine kr [1000001,27] ?_
    obtain ⟨x1,hx,h⟩:=bind_some h
    refine qup env hx rfl rfl rfl rfl ?_
    refine kr [1000001,27] ?_
    refine qf (fun hb=> ?_) (fun hb=> ?_)
    ·replace h:=qx hb h
     refine kr [1000001,27] ?_
     exact qr (by kernel_rfl) rfl lA (Yb _ _ _ _ h)
    replace h:=qy hb h
    refine kr [1000001,27] ?_
    exact qr (by kernel_rfl) rfl lA (K5 _ _ _ _ h)
   replace h:=qy hb h
   refine kr [1000001,27] ?_
   exact qr (by kernel_rfl) rfl lA (K5 _ _ _ _ h)
  replace h:=qy hb h
  refine kr [1000001,27] ?_
  cases h
  exact kf
 ·unfold qa at h
  refine kr [1000001,27] ?_
  obtain ⟨x2,hx,h⟩:=bind_some h
  refine qb2 env hx rfl rfl rfl rfl rfl ?_
  refine kr [1000001,27] ?_
  obtain ⟨x3,hx,h⟩:=bind_some h
  refine qp (qn2 _ _ hx) ?_
  refine kr [1000001,27] ?_
  refine qf (fun hb=> ?_) (fun hb=> ?_)
  ·replace h:=qx hb h
   refine kr [1000001,27] ?_
   cases h
   exact kf
  replace h:=qy hb h
  refine kr [1000001,27] ?_
  exact qr (by kernel_rfl) rfl lA (Yb _ _ _ _ h)
 unfold qa at h
 refine kr [1000001,27] ?_
 exact zy (by kernel_rfl) lA (Wz _ _ _ _ h)
theorem Wz:PC3 Wt wr:=Y6.1
theorem K5:PC3 K1 vu:=Y6.2.1
theorem Yb:PC3 Wu uh:=Y6.2.2
def qaj (a0:BA):Option Bool:=
 if (decide (a0=(⟨#[]⟩:BA)))=true then
  some false
 else
  if (decide ((64:Int) < (a0.size:Int)))=true then
   some false
  else
   wr a0 (0:Int) (0:Int)
@[reducible] def qnw (a0:BA) (r:Bool):Prop:=
  Fn Tryz.prog G 31 [(.str a0)] (.bool r)
theorem qn3:PC1 qnw qaj:=fun a0 r h=>by
 rw [qaj.eq_def] at h
 refine zo (T:=tt) (N:=36) (rs:= [.tmp 2]) (fun vs w=>by simp) Tryz.func31 rfl rfl rfl rfl (by kernel_rfl) (jx rfl) (zh _ rfl) ?_
 refine kr [1000001,27] ?_
 refine za (fun hb=> ?_) (fun hb=> ?_)
 ·replace h:=qy hb h
  refine kr [1000001,27] ?_
  refine qf (fun hb=> ?_) (fun hb=> ?_)
  ·replace h:=qx hb h
   refine kr [1000001,27] ?_
   cases h
   exact kf
  replace h:=qy hb h
  refine kr [1000001,27] ?_
  exact jh (by kernel_rfl) lA (Wz _ _ _ _ h)
 replace h:=qx hb h
 refine kr [1000001,27] ?_
 cases h
 exact kf
def yk (a0:(List File)):Option Int:=
 match a0 with
 | []=>
   some (0:Int)
 | x_0::a0=>
   if (decide ((65536:Int) < (x_0.Text.size:Int)))=true then
    some (3:Int)
   else
    yk (qa a0)
 partial_fixpoint
@[reducible] def qae (a0:(List File)) (r:Int):Prop:=
  ∀(l0:List File) (j0:Nat),l0.drop j0=a0→j0≤l0.length→l0.length≤9223372036854775807→Ok Tryz.prog G tt 55 0 (Ret Tryz.prog [.tmp 2] (fun y H=>Told Tryz.prog G H y (.int .i64 r))) (.again (jj [42] Tryz.f12 2).1 (jj [42] Tryz.f12 2).2 (.n .undef (.n .undef .z (.n .undef .z (.n .undef .z (.n .undef (.n (.int .i64 ((l0.map File.cells).length:Int)) .z .z) .z)))) (.n .undef (.n .undef .z (.n .undef .z (.n .undef (.n (.sl 2 false (l0.map File.cells)) .z .z) .z))) (.n .undef .z (.n .undef .z (.n .undef (.n (.int .i64 ((j0:Nat):Int)) .z .z) .z))))) 0 [])
theorem Jy:PC1 qae yk:=by
 refine yk.partial_correctness qae (fun yk Jy a0 r h=> ?_)
 unfold qa at h
 intro l0 j0 hl0 hj0 hm0
 refine j7 ?_
 cases a0 with
 | nil=>
   have hb:=J5 (C:=File.cells) hl0 hj0
   refine kr [42] ?_
   refine qv hb ?_
   refine kr [42] ?_
   cases h
   exact kf
 | cons x_0 a0=>
   obtain ⟨hb,hx0,hd0,hk0,hw0⟩:=Zt (C:=File.cells) hl0 hm0
   refine kr [42] ?_
   refine qu hb ?_
   refine kr [42] ?_
   refine We env rfl rfl rfl rfl (m:=j0) rfl (qaa hx0 rfl) ?_
   refine kr [42] ?_
   refine qf (fun hb=> ?_) (fun hb=> ?_)
   ·replace h:=qx hb h
    refine kr [42] ?_
    cases h
    exact kf
   replace h:=qy hb h
   refine kr [42] ?_
   exact zy (by kernel_rfl) (qcl (by simp only [hw0];simp <;> (repeat' apply And.intro) <;> first | rfl) (by simp <;> (repeat' apply And.intro) <;> first | rfl)) (Jy _ _ h l0 (j0+1) hd0 hk0 hm0)
mutual
def jn (a0:(List File)) (j0:Nat) (t0:(List File)):Option Int:=
 match a0 with
 | []=>
   yk (qa t0)
 | x_0::a0=>
   if (decide ((0:Int) < ((j0:Nat):Int)))=true then
    ix t0 ((j0:Nat):Int) >>=fun x2=>
    ix t0 (IntKind.i64.wrap (((j0:Nat):Int) - (1:Int))) >>=fun x3=>
    if (Op.bytesLess x2.Path.toList x3.Path.toList || decide (x2.Path=x3.Path))=true then
     some (14:Int)
    else
     wh (qa a0) (qa j0) (qa t0)
   else
    wh (qa a0) (qa j0) (qa t0)
 partial_fixpoint
def wh (a0:(List File)) (j0:Nat) (t0:(List File)):Option Int:=
 jn (qa a0) (j0+1) (qa t0)
 partial_fixpoint
end
@[reducible] def Jw (a0:(List File)) (j0:Nat) (t0:(List File)) (r:Int):Prop:=
  ∀(l0:List File),l0.drop j0=a0→j0≤l0.length→l0.length≤9223372036854775807→Ok Tryz.prog G tt 55 0 (Ret Tryz.prog [.tmp 2] (fun y H=>Told Tryz.prog G H y (.int .i64 r))) (.again (jj [42] Tryz.f12 1).1 (jj [42] Tryz.f12 1).2 (.n (.sl 2 false (t0.map File.cells)) (.n .undef (.n .undef (.n .undef .z (.n (.int .i64 ((l0.map File.cells).length:Int)) .z .z)) .z) .z) (.n .undef (.n .undef (.n .undef .z (.n (.int .i64 ((j0:Nat):Int)) .z .z)) .z) (.n .undef .z (.n .undef (.n (.sl 2 false (l0.map File.cells)) .z .z) .z)))) 0 [])
@[reducible] def Ji (a0:(List File)) (j0:Nat) (t0:(List File)) (r:Int):Prop:=
  ∀(l0:List File),l0.drop (j0+1)=a0→j0+1≤l0.length→l0.length≤9223372036854775807→Ok Tryz.prog G tt 55 0 (Ret Tryz.prog [.tmp 2] (fun y H=>Told Tryz.prog G H y (.int .i64 r))) (.go [] (w9 [42] Tryz.f12 42) [] (.n (.sl 2 false (t0.map File.cells)) (.n .undef (.n .undef (.n .undef .z (.n (.int .i64 ((l0.map File.cells).length:Int)) .z .z)) .z) .z) (.n .undef (.n .undef (.n .undef .z (.n (.int .i64 ((j0:Nat):Int)) .z .z)) .z) (.n .undef .z (.n .undef (.n (.sl 2 false (l0.map File.cells)) .z .z) .z)))) 0 [])
theorem Wb:PC3 Jw jn∧PC3 Ji wh:=by
 refine jn.mutual_partial_correctness Jw Ji (fun wh Jj a0 j0 t0 r h=> ?_) (fun jn Jz a0 j0 t0 r h=> ?_)
 ·unfold qa at h
  intro l0 hl0 hj0 hm0
  refine j7 ?_
  cases a0 with
  | nil=>
    have hb:=J5 (C:=File.cells) hl0 hj0
    refine kr [42] ?_
    refine qv hb ?_
    refine kr [42] ?_
    refine qbb 44 rfl (fun hm=> ?_)
    exact jh (by kernel_rfl) lA (Jy _ _ h t0 0 rfl (Nat.zero_le _) (Zv hm))
  | cons x_0 a0=>
    obtain ⟨hb,hx0,hd0,hk0,hw0⟩:=Zt (C:=File.cells) hl0 hm0
    refine kr [42] ?_
    refine qu hb ?_
    refine kr [42] ?_
    refine qo (fun hb=> ?_) (fun hb=> ?_)
    ·replace h:=qx hb h
     refine kr [42] ?_
     obtain ⟨x2,hx,h⟩:=bind_some h
     refine wo env hx rfl rfl rfl rfl rfl ?_
     refine kr [42] ?_
     obtain ⟨x3,hx,h⟩:=bind_some h
     refine wo env hx rfl rfl rfl rfl rfl ?_
     refine kr [42] ?_
     refine qf (fun hb=> ?_) (fun hb=> ?_)
     ·replace h:=qx hb h
      refine kr [42] ?_
      cases h
      exact kf
     replace h:=qy hb h
     refine kr [42] ?_
     exact qr (by kernel_rfl) rfl lA (Jj _ _ _ _ h l0 hd0 hk0 hm0)
    replace h:=qy hb h
    refine kr [42] ?_
    exact qr (by kernel_rfl) rfl lA (Jj _ _ _ _ h l0 hd0 hk0 hm0)
 unfold qa at h
 intro l0 hd0 hk0 hm0
 have hw0:=W4 hk0 hm0
 refine kr [42] ?_
 exact zy (by kernel_rfl) (qcl (by simp only [hw0];simp <;> (repeat' apply And.intro) <;> first | rfl) (by simp <;> (repeat' apply And.intro) <;> first | rfl)) (Jz _ _ _ _ h l0 hd0 hk0 hm0)
theorem Jz:PC3 Jw jn:=Wb.1
theorem Jj:PC3 Ji wh:=Wb.2
def kz (a0:(List File)) (t0:(List File)):Option Int:=
 match a0 with
 | []=>
   jn (qa t0) 0 (qa t0)
 | x_0::a0=>
   qaj x_0.Path >>=fun x1=>
   if (!x1)=true then
    some (4:Int)
   else
    kz (qa a0) (qa t0)
 partial_fixpoint
@[reducible] def qaf (a0:(List File)) (t0:(List File)) (r:Int):Prop:=
  ∀(l0:List File) (j0:Nat),l0.drop j0=a0→j0≤l0.length→l0.length≤9223372036854775807→Ok Tryz.prog G tt 55 0 (Ret Tryz.prog [.tmp 2] (fun y H=>Told Tryz.prog G H y (.int .i64 r))) (.again (jj [42] Tryz.f12 0).1 (jj [42] Tryz.f12 0).2 (.n (.sl 2 false (t0.map File.cells)) (.n .undef (.n .undef .z (.n (.sl 2 false (l0.map File.cells)) .z .z)) (.n .undef .z (.n (.int .i64 ((j0:Nat):Int)) .z .z))) (.n .undef (.n .undef .z (.n (.int .i64 ((l0.map File.cells).length:Int)) .z .z)) .z)) 0 [])
theorem J0:PC2 qaf kz:=by
 refine kz.partial_correctness qaf (fun kz J0 a0 t0 r h=> ?_)
 unfold qa at h
 intro l0 j0 hl0 hj0 hm0
 refine j7 ?_
 cases a0 with
 | nil=>
   have hb:=J5 (C:=File.cells) hl0 hj0
   refine kr [42] ?_
   refine qv hb ?_
   refine kr [42] ?_
   refine qbb 22 rfl (fun hm=> ?_)
   exact jh (by kernel_rfl) lA (Jz _ _ _ _ h t0 rfl (Nat.zero_le _) (Zv hm))
 | cons x_0 a0=>
   obtain ⟨hb,hx0,hd0,hk0,hw0⟩:=Zt (C:=File.cells) hl0 hm0
   refine kr [42] ?_
   refine qu hb ?_
   refine kr [42] ?_
   refine We env rfl rfl rfl rfl (m:=j0) rfl (qaa hx0 rfl) ?_
   refine kr [42] ?_
   obtain ⟨x1,hx,h⟩:=bind_some h
   refine qp (qn3 _ _ hx) ?_
   refine kr [42] ?_
   refine qf (fun hb=> ?_) (fun hb=> ?_)
   ·replace h:=qx hb h
    refine kr [42] ?_
    cases h
    exact kf
   replace h:=qy hb h
   refine kr [42] ?_
   exact zy (by kernel_rfl) (qcl (by simp only [hw0];simp <;> (repeat' apply And.intro) <;> first | rfl) (by simp <;> (repeat' apply And.intro) <;> first | rfl)) (J0 _ _ _ h l0 (j0+1) hd0 hk0 hm0)
def Q2 (a0:(List File)):Option Int:=
 if (decide ((32:Int) < ((a0.map File.cells).length:Int)))=true then
  some (3:Int)
 else
  kz a0 a0
@[reducible] def qi7 (a0:(List File)) (r:Int):Prop:=
  Fn Tryz.prog G 12 [(.sl 2 false (a0.map File.cells))] (.int .i64 r)
theorem qct:PC1 qi7 Q2:=fun a0 r h=>by
 rw [Q2.eq_def] at h
 refine zo (T:=tt) (N:=55) (rs:= [.tmp 2]) (fun vs w=>by simp) Tryz.func12 rfl rfl rfl rfl (by kernel_rfl) (jx rfl) (zh _ rfl) ?_
 refine kr [42] ?_
 refine qf (fun hb=> ?_) (fun hb=> ?_)
 ·replace h:=qx hb h
  refine kr [42] ?_
  cases h
  exact kf
 replace h:=qy hb h
 refine kr [42] ?_
 refine qbb 11 rfl (fun hm=> ?_)
 exact jh (by kernel_rfl) lA (J0 _ _ _ h a0 0 rfl (Nat.zero_le _) (Zv hm))
def ko (a0:BA) (a1:BA):Option Bool:=
 if (decide ((a1.size:Int)≤(a0.size:Int)))=true then
  ssub a0 (0:Int) (a1.size:Int) >>=fun x1=>
  some (decide (x1=a1))
 else
  some false
@[reducible] def Y1 (a0:BA) (a1:BA) (r:Bool):Prop:=
  Fn Tryz.prog G 72 [(.str a0),(.str a1)] (.bool r)
theorem Y4:PC2 Y1 ko:=fun a0 a1 r h=>by
 rw [ko.eq_def] at h
 refine zo (T:=tt) (N:=18) (rs:= [.tmp 4]) (fun vs w=>by simp) Tryz.func72 rfl rfl rfl rfl (by kernel_rfl) (jx rfl) (zh _ rfl) ?_
 refine kr [] ?_
 refine qo (fun hb=> ?_) (fun hb=> ?_)
 ·replace h:=qx hb h
  refine kr [] ?_
  obtain ⟨x1,hx,h⟩:=bind_some h
  refine qb2 env hx rfl rfl rfl rfl rfl ?_
  refine kr [] ?_
  cases h
  exact kf
 replace h:=qy hb h
 refine kr [] ?_
 cases h
 exact kf
def uj (a0:BA) (a1:BA):Option Bool:=
 ko a0 a1 >>=fun x1=>
 some x1
@[reducible] def qe5 (a0:BA) (a1:BA) (r:Bool):Prop:=
  Fn Tryz.prog G 47 [(.str a0),(.str a1)] (.bool r)
theorem Wg:PC2 qe5 uj:=fun a0 a1 r h=>by
 rw [uj.eq_def] at h
 refine zo (T:=tt) (N:=8) (rs:= [.tmp 4]) (fun vs w=>by simp) Tryz.func47 rfl rfl rfl rfl (by kernel_rfl) (jx rfl) (zh _ rfl) ?_
 refine kr [] ?_
 obtain ⟨x1,hx,h⟩:=bind_some h
 refine qp (Y4 _ _ _ hx) ?_
 refine kr [] ?_
 cases h
 exact kf
def yi  :Option Int:=
 some (0:Int)
@[reducible] def qhw  (r:Int):Prop:=
  Ok Tryz.prog G tt 29 0 (Ret Tryz.prog [.tmp 2] (fun y H=>Told Tryz.prog G H y (.int .i64 r))) (.go [] (w9 [3] Tryz.f112 3) [] .z 0 [])
theorem kw:PC0 qhw yi:=fun  r h=>by
 rw [yi.eq_def] at h
 refine kr [3] ?_
 cases h
 exact kf
def Zh (a0:Int):Option Int:=
 if (decide ((48:Int)≤a0))=true then
  if (decide (a0≤(57:Int)))=true then
   some (1:Int)
  else
   if (decide ((97:Int)≤a0))=true then
    if (decide (a0≤(122:Int)))=true then
     some (2:Int)
    else
     if (decide ((65:Int)≤a0))=true then
      if (decide (a0≤(90:Int)))=true then
       some (2:Int)
      else
       if (decide (a0=(95:Int)))=true then
        some (2:Int)
       else
        yc (⟨#[40,41,123,125,44,59,58,46,61,60,43,45,42,47,33,38,124]⟩:BA) a0 >>=fun x1=>
        if (decide ((0:Int)≤x1))=true then
         some (3:Int)
        else
         yi 
     else
      if (decide (a0=(95:Int)))=true then
       some (2:Int)
      else
       yc (⟨#[40,41,123,125,44,59,58,46,61,60,43,45,42,47,33,38,124]⟩:BA) a0 >>=fun x2=>
       if (decide ((0:Int)≤x2))=true then
        some (3:Int)
       else
        yi 
   else
    if (decide ((65:Int)≤a0))=true then
     if (decide (a0≤(90:Int)))=true then
      some (2:Int)
     else
      if (decide (a0=(95:Int)))=true then
       some (2:Int)
      else
       yc (⟨#[40,41,123,125,44,59,58,46,61,60,43,45,42,47,33,38,124]⟩:BA) a0 >>=fun x3=>
       if (decide ((0:Int)≤x3))=true then
        some (3:Int)
       else
        yi 
    else
     if (decide (a0=(95:Int)))=true then
      some (2:Int)
     else
      yc (⟨#[40,41,123,125,44,59,58,46,61,60,43,45,42,47,33,38,124]⟩:BA) a0 >>=fun x4=>
      if (decide ((0:Int)≤x4))=true then
       some (3:Int)
      else
       yi 
 else
  if (decide ((97:Int)≤a0))=true then
   if (decide (a0≤(122:Int)))=true then
    some (2:Int)
   else
    if (decide ((65:Int)≤a0))=true then
     if (decide (a0≤(90:Int)))=true then
      some (2:Int)
     else
      if (decide (a0=(95:Int)))=true then
       some (2:Int)
      else
       yc (⟨#[40,41,123,125,44,59,58,46,61,60,43,45,42,47,33,38,124]⟩:BA) a0 >>=fun x5=>
       if (decide ((0:Int)≤x5))=true then
        some (3:Int)
       else
        yi 
    else
     if (decide (a0=(95:Int)))=true then
      some (2:Int)
     else
      yc (⟨#[40,41,123,125,44,59,58,46,61,60,43,45,42,47,33,38,124]⟩:BA) a0 >>=fun x6=>
      if (decide ((0:Int)≤x6))=true then
       some (3:Int)
      else
       yi 
  else
   if (decide ((65:Int)≤a0))=true then
    if (decide (a0≤(90:Int)))=true then
     some (2:Int)
    else
     if (decide (a0=(95:Int)))=true then
      some (2:Int)
     else
      yc (⟨#[40,41,123,125,44,59,58,46,61,60,43,45,42,47,33,38,124]⟩:BA) a0 >>=fun x7=>
      if (decide ((0:Int)≤x7))=true then
       some (3:Int)
      else
       yi 
   else
    if (decide (a0=(95:Int)))=true then
     some (2:Int)
    else
     yc (⟨#[40,41,123,125,44,59,58,46,61,60,43,45,42,47,33,38,124]⟩:BA) a0 >>=fun x8=>
     if (decide ((0:Int)≤x8))=true then
      some (3:Int)
     else
      yi 
@[reducible] def qkv (a0:Int) (r:Int):Prop:=
  Fn Tryz.prog G 112 [(.int .u8 a0)] (.int .i64 r)
theorem qaw:PC1 qkv Zh:=fun a0 r h=>by
 rw [Zh.eq_def] at h
 refine zo (T:=tt) (N:=29) (rs:= [.tmp 2]) (fun vs w=>by simp) Tryz.func112 rfl rfl rfl rfl (by kernel_rfl) (jx rfl) (zh _ rfl) ?_
 refine kr [3] ?_
 refine qo (fun hb=> ?_) (fun hb=> ?_)
 ·replace h:=qx hb h
  refine kr [3] ?_
  refine qf (fun hb=> ?_) (fun hb=> ?_)
  ·replace h:=qx hb h
   refine kr [3] ?_
   cases h
   exact kf
  replace h:=qy hb h
  refine kr [3] ?_
  refine qo (fun hb=> ?_) (fun hb=> ?_)
  ·replace h:=qx hb h
   refine kr [3] ?_
   refine qf (fun hb=> ?_) (fun hb=> ?_)
   ·replace h:=qx hb h
    refine kr [3] ?_
    cases h
    exact kf
   replace h:=qy hb h
   refine kr [3] ?_
   refine qo (fun hb=> ?_) (fun hb=> ?_)
   ·replace h:=qx hb h
    refine kr [3] ?_
    refine qf (fun hb=> ?_) (fun hb=> ?_)
    ·replace h:=qx hb h
     refine kr [3] ?_
     cases h
     exact kf
    replace h:=qy hb h
    refine kr [3] ?_
    refine qf (fun hb=> ?_) (fun hb=> ?_)
    ·replace h:=qx hb h
     refine kr [3] ?_
     cases h
     exact kf
    replace h:=qy hb h
    refine kr [3] ?_
    obtain ⟨x1,hx,h⟩:=bind_some h
    refine qp (yp _ _ _ hx) ?_
    refine kr [3] ?_
    refine qf (fun hb=> ?_) (fun hb=> ?_)
    ·replace h:=qx hb h
     refine kr [3] ?_
     cases h
     exact kf
    replace h:=qy hb h
    refine kr [3] ?_
    exact qr (by kernel_rfl) rfl lA (kw _ h)
   replace h:=qy hb h
   refine kr [3] ?_
   refine qf (fun hb=> ?_) (fun hb=> ?_)
   ·replace h:=qx hb h
    refine kr [3] ?_
    cases h
    exact kf
   replace h:=qy hb h
   refine kr [3] ?_
   obtain ⟨x2,hx,h⟩:=bind_some h
   refine qp (yp _ _ _ hx) ?_
   refine kr [3] ?_
   refine qf (fun hb=> ?_) (fun hb=> ?_)
   ·replace h:=qx hb h
    refine kr [3] ?_
    cases h
    exact kf
   replace h:=qy hb h
   refine kr [3] ?_
   exact qr (by kernel_rfl) rfl lA (kw _ h)
  replace h:=qy hb h
  refine kr [3] ?_
  refine qo (fun hb=> ?_) (fun hb=> ?_)
  ·replace h:=qx hb h
   refine kr [3] ?_
   refine qf (fun hb=> ?_) (fun hb=> ?_)
   ·replace h:=qx hb h
    refine kr [3] ?_
    cases h
    exact kf
   replace h:=qy hb h
   refine kr [3] ?_
   refine qf (fun hb=> ?_) (fun hb=> ?_)
   ·replace h:=qx hb h
    refine kr [3] ?_
    cases h
    exact kf
   replace h:=qy hb h
   refine kr [3] ?_
   obtain ⟨x3,hx,h⟩:=bind_some h
   refine qp (yp _ _ _ hx) ?_
   refine kr [3] ?_
   refine qf (fun hb=> ?_) (fun hb=> ?_)
   ·replace h:=qx hb h
    refine kr [3] ?_
    cases h
    exact kf
   replace h:=qy hb h
   refine kr [3] ?_
   exact qr (by kernel_rfl) rfl lA (kw _ h)
  replace h:=qy hb h
  refine kr [3] ?_
  refine qf (fun hb=> ?_) (fun hb=> ?_)
  ·replace h:=qx hb h
   refine kr [3] ?_
   cases h
   exact kf
  replace h:=qy hb h
  refine kr [3] ?_
  obtain ⟨x4,hx,h⟩:=bind_some h
  refine qp (yp _ _ _ hx) ?_
  refine kr [3] ?_
  refine qf (fun hb=> ?_) (fun hb=> ?_)
  ·replace h:=qx hb h
   refine kr [3] ?_
   cases h
   exact kf
  replace h:=qy hb h
  refine kr [3] ?_
  exact qr (by kernel_rfl) rfl lA (kw _ h)
 replace h:=qy hb h
 refine kr [3] ?_
 refine qo (fun hb=> ?_) (fun hb=> ?_)
 ·replace h:=qx hb h
  refine kr [3] ?_
  refine qf (fun hb=> ?_) (fun hb=> ?_)
  ·replace h:=qx hb h
   refine kr [3] ?_
   cases h
   exact kf
  replace h:=qy hb h
  refine kr [3] ?_
  refine qo (fun hb=> ?_) (fun hb=> ?_)
  ·replace h:=qx hb h
   refine kr [3] ?_
   refine qf (fun hb=> ?_) (fun hb=> ?_)
   ·replace h:=qx hb h
    refine kr [3] ?_
    cases h
    exact kf
   replace h:=qy hb h
   refine kr [3] ?_
   refine qf (fun hb=> ?_) (fun hb=> ?_)
   ·replace h:=qx hb h
    refine kr [3] ?_
    cases h
    exact kf
   replace h:=qy hb h
   refine kr [3] ?_
   obtain ⟨x5,hx,h⟩:=bind_some h
   refine qp (yp _ _ _ hx) ?_
   refine kr [3] ?_
   refine qf (fun hb=> ?_) (fun hb=> ?_)
   ·replace h:=qx hb h
    refine kr [3] ?_
    cases h
    exact kf
   replace h:=qy hb h
   refine kr [3] ?_
   exact qr (by kernel_rfl) rfl lA (kw _ h)
  replace h:=qy hb h
  refine kr [3] ?_
  refine qf (fun hb=> ?_) (fun hb=> ?_)
  ·replace h:=qx hb h
   refine kr [3] ?_
   cases h
   exact kf
  replace h:=qy hb h
  refine kr [3] ?_
  obtain ⟨x6,hx,h⟩:=bind_some h
  refine qp (yp _ _ _ hx) ?_
  refine kr [3] ?_
  refine qf (fun hb=> ?_) (fun hb=> ?_)
  ·replace h:=qx hb h
   refine kr [3] ?_
   cases h
   exact kf
  replace h:=qy hb h
  refine kr [3] ?_
  exact qr (by kernel_rfl) rfl lA (kw _ h)
 replace h:=qy hb h
 refine kr [3] ?_
 refine qo (fun hb=> ?_) (fun hb=> ?_)
 ·replace h:=qx hb h
  refine kr [3] ?_
  refine qf (fun hb=> ?_) (fun hb=> ?_)
  ·replace h:=qx hb h
   refine kr [3] ?_
   cases h
   exact kf
  replace h:=qy hb h
  refine kr [3] ?_
  refine qf (fun hb=> ?_) (fun hb=> ?_)
  ·replace h:=qx hb h
   refine kr [3] ?_
   cases h
   exact kf
  replace h:=qy hb h
  refine kr [3] ?_
  obtain ⟨x7,hx,h⟩:=bind_some h
  refine qp (yp _ _ _ hx) ?_
  refine kr [3] ?_
  refine qf (fun hb=> ?_) (fun hb=> ?_)
  ·replace h:=qx hb h
   refine kr [3] ?_
   cases h
   exact kf
  replace h:=qy hb h
  refine kr [3] ?_
  exact qr (by kernel_rfl) rfl lA (kw _ h)
 replace h:=qy hb h
 refine kr [3] ?_
 refine qf (fun hb=> ?_) (fun hb=> ?_)
 ·replace h:=qx hb h
  refine kr [3] ?_
  cases h
  exact kf
 replace h:=qy hb h
 refine kr [3] ?_
 obtain ⟨x8,hx,h⟩:=bind_some h
 refine qp (yp _ _ _ hx) ?_
 refine kr [3] ?_
 refine qf (fun hb=> ?_) (fun hb=> ?_)
 ·replace h:=qx hb h
  refine kr [3] ?_
  cases h
  exact kf
 replace h:=qy hb h
 refine kr [3] ?_
 exact qr (by kernel_rfl) rfl lA (kw _ h)
def Jc (a0:Int):Option Bool:=
 Zh a0 >>=fun x1=>
 if (decide (x1=(2:Int)))=true then
  some true
 else
  Zh a0 >>=fun x2=>
  some (decide (x2=(1:Int)))
@[reducible] def qkt (a0:Int) (r:Bool):Prop:=
  Fn Tryz.prog G 71 [(.int .u8 a0)] (.bool r)
theorem qk0:PC1 qkt Jc:=fun a0 r h=>by
 rw [Jc.eq_def] at h
 refine zo (T:=tt) (N:=11) (rs:= [.tmp 2]) (fun vs w=>by simp) Tryz.func71 rfl rfl rfl rfl (by kernel_rfl) (jx rfl) (zh _ rfl) ?_
 refine kr [] ?_
 obtain ⟨x1,hx,h⟩:=bind_some h
 refine qp (qaw _ _ hx) ?_
 refine kr [] ?_
 refine za (fun hb=> ?_) (fun hb=> ?_)
 ·replace h:=qy hb h
  refine kr [] ?_
  obtain ⟨x2,hx,h⟩:=bind_some h
  refine qp (qaw _ _ hx) ?_
  refine kr [] ?_
  cases h
  exact kf
 replace h:=qx hb h
 refine kr [] ?_
 cases h
 exact kf
def ve (t3:Int):Option Int:=
 some t3
@[reducible] def qj1 (t3:Int) (r:Int):Prop:=
  Ok Tryz.prog G tt 17 0 (Ret Tryz.prog [.tmp 2] (fun y H=>Told Tryz.prog G H y (.int .i64 r))) (.go [] (qiz [1000000] Tryz.f151 0) [] (.n .undef (.n .undef (.n (.int .i64 t3) .z .z) .z) .z) 0 [])
theorem qd7:PC1 qj1 ve:=fun t3 r h=>by
 rw [ve.eq_def] at h
 refine kr [1000000] ?_
 cases h
 exact kf
def uf (t0:BA) (t3:Int):Option Int:=
 if (decide (t3 < (t0.size:Int)))=true then
  sx t0 t3 >>=fun x1=>
  Jc (qa x1) >>=fun x2=>
  if x2=true then
   uf (qa t0) (IntKind.i64.wrap (t3+(1:Int)))
  else
   ve (qa t3)
 else
  ve (qa t3)
 partial_fixpoint
@[reducible] def qdt (t0:BA) (t3:Int) (r:Int):Prop:=
  Ok Tryz.prog G tt 17 0 (Ret Tryz.prog [.tmp 2] (fun y H=>Told Tryz.prog G H y (.int .i64 r))) (.again (jj [1000000] Tryz.f151 0).1 (jj [1000000] Tryz.f151 0).2 (.n (.str t0) (.n .undef (.n (.int .i64 t3) .z .z) .z) .z) 0 [])
theorem Wx:PC2 qdt uf:=by
 refine uf.partial_correctness qdt (fun uf Wx t0 t3 r h=> ?_)
 unfold qa at h
 refine j7 ?_
 refine kr [1000000] ?_
 refine qo (fun hb=> ?_) (fun hb=> ?_)
 ·replace h:=qx hb h
  refine kr [1000000] ?_
  obtain ⟨x1,hx,h⟩:=bind_some h
  refine qup env hx rfl rfl rfl rfl ?_
  refine kr [1000000] ?_
  obtain ⟨x2,hx,h⟩:=bind_some h
  refine qp (qk0 _ _ hx) ?_
  refine kr [1000000] ?_
  refine qf (fun hb=> ?_) (fun hb=> ?_)
  ·replace h:=qx hb h
   refine kr [1000000] ?_
   exact zy (by kernel_rfl) lA (Wx _ _ _ h)
  replace h:=qy hb h
  refine kr [1000000] ?_
  exact qr (by kernel_rfl) rfl lA (qd7 _ _ h)
 replace h:=qy hb h
 refine kr [1000000] ?_
 exact qr (by kernel_rfl) rfl lA (qd7 _ _ h)
def Ki (a0:BA):Option Int:=
 uf a0 (0:Int)
@[reducible] def qnv (a0:BA) (r:Int):Prop:=
  Fn Tryz.prog G 151 [(.str a0)] (.int .i64 r)
theorem qg3:PC1 qnv Ki:=fun a0 r h=>by
 rw [Ki.eq_def] at h
 refine zo (T:=tt) (N:=17) (rs:= [.tmp 2]) (fun vs w=>by simp) Tryz.func151 rfl rfl rfl rfl (by kernel_rfl) (jx rfl) (zh _ rfl) ?_
 refine kr [1000000] ?_
 exact jh (by kernel_rfl) lA (Wx _ _ _ h)
def ug  :Option (Int × Int):=
 some ((0:Int),(0:Int))
@[reducible] def qgq  (r:Int × Int):Prop:=
  Ok Tryz.prog G tt 33 0 (Ret Tryz.prog [.tmp 2, .tmp 3] (fun y H=>Told Tryz.prog G H y (.tup [(.int .i64 r.1),(.int .i64 r.2)]))) (.go [] (w9 [11,20] Tryz.f120 11) [] .z 0 [])
theorem qa7:PC0 qgq ug:=fun  r h=>by
 rw [ug.eq_def] at h
 refine kr [11,20] ?_
 cases h
 exact kf
def vl  :Option (Int × Int):=
 ug 
@[reducible] def qgp  (r:Int × Int):Prop:=
  Ok Tryz.prog G tt 33 0 (Ret Tryz.prog [.tmp 2, .tmp 3] (fun y H=>Told Tryz.prog G H y (.tup [(.int .i64 r.1),(.int .i64 r.2)]))) (.go [] (w9 [11,20] Tryz.f120 20) [] .z 0 [])
theorem qa6:PC0 qgp vl:=fun  r h=>by
 rw [vl.eq_def] at h
 refine kr [11,20] ?_
 exact qr (by kernel_rfl) rfl lA (qa7 _ h)
def Jd (a0:BA):Option (Int × Int):=
 if (decide (a0=(⟨#[]⟩:BA)))=true then
  some ((0:Int),(0:Int))
 else
  sx a0 (0:Int) >>=fun x1=>
  Zh x1 >>=fun x2=>
  if (decide (x2=(1:Int)))=true then
   Ki a0 >>=fun x3=>
   ssub a0 (0:Int) x3 >>=fun x4=>
   Yy x4 >>=fun x5=>
   if x5=true then
    some (x3,(2:Int))
   else
    ug 
  else
   if (decide (x2=(2:Int)))=true then
    Ki a0 >>=fun x6=>
    if (decide (x6≤(32:Int)))=true then
     some (x6,(1:Int))
    else
     vl 
   else
    if (decide (x2=(3:Int)))=true then
     uj a0 (⟨#[47,47]⟩:BA) >>=fun x7=>
     if x7=true then
      some ((0:Int),(0:Int))
     else
      uj a0 (⟨#[61,61]⟩:BA) >>=fun x8=>
      if x8=true then
       some ((2:Int),(3:Int))
      else
       some ((1:Int),(3:Int))
    else
     vl 
@[reducible] def qku (a0:BA) (r:Int × Int):Prop:=
  Fn Tryz.prog G 120 [(.str a0)] (.tup [(.int .i64 r.1),(.int .i64 r.2)])
theorem qk1:PC1 qku Jd:=fun a0 r h=>by
 rw [Jd.eq_def] at h
 refine zo (T:=tt) (N:=33) (rs:= [.tmp 2, .tmp 3]) (fun vs w=>by simp) Tryz.func120 rfl rfl rfl rfl (by kernel_rfl) (jx rfl) (zh _ rfl) ?_
 refine kr [11,20] ?_
 refine qf (fun hb=> ?_) (fun hb=> ?_)
 ·replace h:=qx hb h
  refine kr [11,20] ?_
  cases h
  exact kf
 replace h:=qy hb h
 refine kr [11,20] ?_
 obtain ⟨x1,hx,h⟩:=bind_some h
 refine qup env hx rfl rfl rfl rfl ?_
 refine kr [11,20] ?_
 obtain ⟨x2,hx,h⟩:=bind_some h
 refine qp (qaw _ _ hx) ?_
 refine kr [11,20] ?_
 refine qf (fun hb=> ?_) (fun hb=> ?_)
 ·replace h:=qx hb h
  refine kr [11,20] ?_
  obtain ⟨x3,hx,h⟩:=bind_some h
  refine qp (qg3 _ _ hx) ?_
  refine kr [11,20] ?_
  obtain ⟨x4,hx,h⟩:=bind_some h
  refine qb2 env hx rfl rfl rfl rfl rfl ?_
  refine kr [11,20] ?_
  obtain ⟨x5,hx,h⟩:=bind_some h
  refine qp (qja _ _ hx) ?_
  refine kr [11,20] ?_
  refine qf (fun hb=> ?_) (fun hb=> ?_)
  ·replace h:=qx hb h
   refine kr [11,20] ?_
   cases h
   exact kf
  replace h:=qy hb h
  refine kr [11,20] ?_
  exact qr (by kernel_rfl) rfl lA (qa7 _ h)
 replace h:=qy hb h
 refine kr [11,20] ?_
 refine qf (fun hb=> ?_) (fun hb=> ?_)
 ·replace h:=qx hb h
  refine kr [11,20] ?_
  obtain ⟨x6,hx,h⟩:=bind_some h
  refine qp (qg3 _ _ hx) ?_
  refine kr [11,20] ?_
  refine qf (fun hb=> ?_) (fun hb=> ?_)
  ·replace h:=qx hb h
   refine kr [11,20] ?_
   cases h
   exact kf
  replace h:=qy hb h
  refine kr [11,20] ?_
  exact qr (by kernel_rfl) rfl lA (qa6 _ h)
 replace h:=qy hb h
 refine kr [11,20] ?_
 refine qf (fun hb=> ?_) (fun hb=> ?_)
 ·replace h:=qx hb h
  refine kr [11,20] ?_
  obtain ⟨x7,hx,h⟩:=bind_some h
  refine qp (Wg _ _ _ hx) ?_
  refine kr [11,20] ?_
  refine qf (fun hb=> ?_) (fun hb=> ?_)
  ·replace h:=qx hb h
   refine kr [11,20] ?_
   cases h
   exact kf
  replace h:=qy hb h
  refine kr [11,20] ?_
  obtain ⟨x8,hx,h⟩:=bind_some h
  refine qp (Wg _ _ _ hx) ?_
  refine kr [11,20] ?_
  refine qf (fun hb=> ?_) (fun hb=> ?_)
  ·replace h:=qx hb h
   refine kr [11,20] ?_
   cases h
   exact kf
  replace h:=qy hb h
  refine kr [11,20] ?_
  cases h
  exact kf
 replace h:=qy hb h
 refine kr [11,20] ?_
 exact qr (by kernel_rfl) rfl lA (qa6 _ h)
def kl (t0:BA) (t5:(List Token)) (t6:Int):Option ((List Token) × Int × Int):=
 Yd (qa t0) (qa t6) >>=fun x1=>
 if (decide (x1=(t0.size:Int)))=true then
  ssub t0 t6 (t0.size:Int) >>=fun x2=>
  app 48 t5 ([(Token.mk (4:Int) x2 (⟨#[]⟩) (t0.size:Int))]) >>=fun x3=>
  some (x3,(0:Int),(0:Int))
 else
  ssub t0 x1 (t0.size:Int) >>=fun x4=>
  Jd (qa x4) >>=fun x5=>
  if (decide (x5.2=(0:Int)))=true then
   some (([]:(List Token)),(1:Int),x1)
  else
   ssub t0 t6 x1 >>=fun x6=>
   ssub t0 x1 (IntKind.i64.wrap (x1+x5.1)) >>=fun x7=>
   app 48 t5 ([(Token.mk x5.2 x6 x7 x1)]) >>=fun x8=>
   kl (qa t0) (qa x8) (IntKind.i64.wrap (x1+x5.1))
 partial_fixpoint
@[reducible] def qa4 (t0:BA) (t5:(List Token)) (t6:Int) (r:(List Token) × Int × Int):Prop:=
  Ok Tryz.prog G tt 58 0 (Ret Tryz.prog [.tmp 2, .tmp 3, .tmp 4] (fun y H=>Told Tryz.prog G H y (.tup [(.sl 4 false (r.1.map Token.cells)),(.int .i64 r.2.1),(.int .i64 r.2.2)]))) (.again (jj [] Tryz.f78 0).1 (jj [] Tryz.f78 0).2 (.n (.str t0) (.n .undef .z (.n (.bs 4 0 0 0 t5.length) .z .z)) (.n .undef .z (.n (.int .i64 t6) .z .z))) 1 [(0, .row 118 (t5.map Token.cells).flatten)])
theorem Yk:PC3 qa4 kl:=by
 refine kl.partial_correctness qa4 (fun kl Yk t0 t5 t6 r h=> ?_)
 unfold qa at h
 refine j7 ?_
 refine kr [] ?_
 obtain ⟨x1,hx,h⟩:=bind_some h
 refine qp (qnf _ _ _ hx) ?_
 refine kr [] ?_
 refine qf (fun hb=> ?_) (fun hb=> ?_)
 ·replace h:=qx hb h
  refine kr [] ?_
  obtain ⟨x2,hx,h⟩:=bind_some h
  refine qb2 env hx rfl rfl rfl rfl rfl ?_
  refine kr [] ?_
  obtain ⟨x3,hx,h⟩:=bind_some h
  have hp_x3:=W5 hx (by simp)
  refine qcr (C:=Token.cells) env hx rfl rfl (by simp) (fun _=>rfl) rfl rfl rfl rfl rfl (by decide) rfl rfl rfl ?_
  refine kr [] ?_
  cases h
  exact j5 env rfl rfl (Y9 (qbe (y6 (vc (jd Kx rfl) (by simp)) (y6 (vc (zm rfl) (by simp)) (y6 (vc (zm rfl) (by simp)) Wi)))))
 replace h:=qy hb h
 refine kr [] ?_
 obtain ⟨x4,hx,h⟩:=bind_some h
 refine qb2 env hx rfl rfl rfl rfl rfl ?_
 refine kr [] ?_
 obtain ⟨x5,hx,h⟩:=bind_some h
 refine qp (qk1 _ _ hx) ?_
 refine kr [] ?_
 refine qf (fun hb=> ?_) (fun hb=> ?_)
 ·replace h:=qx hb h
  refine kr [] ?_
  cases h
  exact j5 env rfl rfl (Y9 (qbe (y6 (vc (wg (.inr rfl)) (by simp)) (y6 (vc (zm rfl) (by simp)) (y6 (vc (zm rfl) (by simp)) Wi)))))
 replace h:=qy hb h
 refine kr [] ?_
 obtain ⟨x6,hx,h⟩:=bind_some h
 refine qb2 env hx rfl rfl rfl rfl rfl ?_
 refine kr [] ?_
 obtain ⟨x7,hx,h⟩:=bind_some h
 refine qb2 env hx rfl rfl rfl rfl rfl ?_
 refine kr [] ?_
 obtain ⟨x8,hx,h⟩:=bind_some h
 have hp_x8:=W5 hx (by simp)
 refine qcr (C:=Token.cells) env hx rfl rfl (by simp) (fun _=>rfl) rfl rfl rfl rfl rfl (by decide) rfl rfl rfl ?_
 refine kr [] ?_
 exact zy (by kernel_rfl) lA (Yk _ _ _ _ h)
def Zr (a0:BA):Option ((List Token) × Int × Int):=
 if (decide ((65536:Int) < (a0.size:Int)))=true then
  some (([]:(List Token)),(3:Int),(0:Int))
 else
  kl a0 ([]:List Token) (0:Int)
@[reducible] def qj2 (a0:BA) (r:(List Token) × Int × Int):Prop:=
  Fn Tryz.prog G 78 [(.str a0)] (.tup [(.sl 4 false (r.1.map Token.cells)),(.int .i64 r.2.1),(.int .i64 r.2.2)])
theorem qj6:PC1 qj2 Zr:=fun a0 r h=>by
 rw [Zr.eq_def] at h
 refine zo (T:=tt) (N:=58) (rs:= [.tmp 2, .tmp 3, .tmp 4]) (fun vs w=>by simp) Tryz.func78 rfl rfl rfl rfl (by kernel_rfl) (jx rfl) (zh _ rfl) ?_
 refine kr [] ?_
 refine qf (fun hb=> ?_) (fun hb=> ?_)
 ·replace h:=qx hb h
  refine kr [] ?_
  cases h
  exact j5 env rfl rfl (Y9 (qbe (y6 (vc (wg (.inr rfl)) (by simp)) (y6 (vc (zm rfl) (by simp)) (y6 (vc (zm rfl) (by simp)) Wi)))))
 replace h:=qy hb h
 refine kr [] ?_
 refine qqt 5 _ 4 118 rfl rfl ?_
 exact jh (by kernel_rfl) lA (Yk _ _ _ _ h)
def Yq (a0 :Token):Option Int:=
 if (!decide (a0.Kind=(3:Int)))=true then
  some (0:Int)
 else
  if (decide (a0.Text=(⟨#[124]⟩:BA)))=true then
   some (1:Int)
  else
   if (decide (a0.Text=(⟨#[38]⟩:BA)))=true then
    some (2:Int)
   else
    if (decide (a0.Text=(⟨#[61,61]⟩:BA)))=true then
     some (3:Int)
    else
     if (decide (a0.Text=(⟨#[60]⟩:BA)))=true then
      some (3:Int)
     else
      if (decide (a0.Text=(⟨#[43]⟩:BA)))=true then
       some (4:Int)
      else
       if (decide (a0.Text=(⟨#[45]⟩:BA)))=true then
        some (4:Int)
       else
        if (decide (a0.Text=(⟨#[42]⟩:BA)))=true then
         some (5:Int)
        else
         if (decide (a0.Text=(⟨#[47]⟩:BA)))=true then
          some (5:Int)
         else
          some (0:Int)
@[reducible] def qkw (a0:Token) (r:Int):Prop:=
  Fn Tryz.prog G 155 [(.agg (Token.cells a0))] (.int .i64 r)
theorem qk2:PC1 qkw Yq:=fun a0 r h=>by
 rw [Yq.eq_def] at h
 refine zo (T:=tt) (N:=21) (rs:= [.tmp 2]) (fun vs w=>by simp) Tryz.func155 rfl rfl rfl rfl (by kernel_rfl) (jx rfl) (zh _ rfl) ?_
 refine kr [] ?_
 refine qf (fun hb=> ?_) (fun hb=> ?_)
 ·replace h:=qx hb h
  refine kr [] ?_
  cases h
  exact kf
 replace h:=qy hb h
 refine kr [] ?_
 refine qf (fun hb=> ?_) (fun hb=> ?_)
 ·replace h:=qx hb h
  refine kr [] ?_
  cases h
  exact kf
 replace h:=qy hb h
 refine kr [] ?_
 refine qf (fun hb=> ?_) (fun hb=> ?_)
 ·replace h:=qx hb h
  refine kr [] ?_
  cases h
  exact kf
 replace h:=qy hb h
 refine kr [] ?_
 refine qf (fun hb=> ?_) (fun hb=> ?_)
 ·replace h:=qx hb h
  refine kr [] ?_
  cases h
  exact kf
 replace h:=qy hb h
 refine kr [] ?_
 refine qf (fun hb=> ?_) (fun hb=> ?_)
 ·replace h:=qx hb h
  refine kr [] ?_
  cases h
  exact kf
 replace h:=qy hb h
 refine kr [] ?_
 refine qf (fun hb=> ?_) (fun hb=> ?_)
 ·replace h:=qx hb h
  refine kr [] ?_
  cases h
  exact kf
 replace h:=qy hb h
 refine kr [] ?_
 refine qf (fun hb=> ?_) (fun hb=> ?_)
 ·replace h:=qx hb h
  refine kr [] ?_
  cases h
  exact kf
 replace h:=qy hb h
 refine kr [] ?_
 refine qf (fun hb=> ?_) (fun hb=> ?_)
 ·replace h:=qx hb h
  refine kr [] ?_
  cases h
  exact kf
 replace h:=qy hb h
 refine kr [] ?_
 refine qf (fun hb=> ?_) (fun hb=> ?_)
 ·replace h:=qx hb h
  refine kr [] ?_
  cases h
  exact kf
 replace h:=qy hb h
 refine kr [] ?_
 cases h
 exact kf
def zl (a0:Reader):Option (Token):=
 ix a0.l_ a0.at_ >>=fun x1=>
 some x1
@[reducible] def qdw (a0:Reader) (r:Token):Prop:=
  AC Tryz.prog G 80 [(.ptr 0 0 0)] 1 [(0, .var 130 (Reader.cells a0))] (.agg (Token.cells r)) 1 [(0, .var 130 (Reader.cells a0))]
theorem jc:PC1 qdw zl:=fun a0 r h=>by
 rw [zl.eq_def] at h
 refine ⟨?_,(kv rfl rfl kh),(zr zn),(ku rfl kg),(zr zn),rfl,rfl,rfl,rfl⟩
 refine Z2 (T:=tt) (N:=13) (rs:= [.cell 2 118]) (fun vs w=>by simp) Tryz.func80 rfl rfl rfl (by kernel_rfl) (by kernel_rfl) ?_
 refine kr [] ?_
 obtain ⟨x1,hx,h⟩:=bind_some h
 refine wo env hx rfl rfl rfl rfl rfl ?_
 refine kr [] ?_
 cases h
 exact ya env rfl rfl (tS [some 0] (sV (lS (lS lN)) zt) (j4 (yn (qi (qh (zm rfl) rfl) (qi (qh (jw rfl) rfl) (qi (qh (jw rfl) rfl) (qi (qh (zm rfl) rfl) ym))))) (by simp)))
def q4 (a0:Reader) (a1:BA):Option Bool:=
 zl a0 >>=fun x1=>
 if (!decide (x1.Kind=(4:Int)))=true then
  zl a0 >>=fun x2=>
  some (decide (x2.Text=a1))
 else
  some false
@[reducible] def qe6 (a0:Reader) (a1:BA) (r:Bool):Prop:=
  AC Tryz.prog G 81 [(.ptr 0 0 0),(.str a1)] 1 [(0, .var 130 (Reader.cells a0))] (.bool r) 1 [(0, .var 130 (Reader.cells a0))]
theorem q6:PC2 qe6 q4:=fun a0 a1 r h=>by
 rw [q4.eq_def] at h
 refine ⟨?_,(kv rfl rfl kh),(zr zn),(ku rfl kg),(zr zn),rfl,rfl,rfl,rfl⟩
 refine Z2 (T:=tt) (N:=16) (rs:= [.tmp 4]) (fun vs w=>by simp) Tryz.func81 rfl rfl rfl (by kernel_rfl) (by kernel_rfl) ?_
 refine kr [] ?_
 obtain ⟨x1,hx,h⟩:=bind_some h
 refine qc (AC.g9 (jc _ _ hx) [0] [0]) ?_
 refine kr [] ?_
 refine qo (fun hb=> ?_) (fun hb=> ?_)
 ·replace h:=qx hb h
  refine kr [] ?_
  obtain ⟨x2,hx,h⟩:=bind_some h
  refine qc (AC.g9 (jc _ _ hx) [0] [0]) ?_
  refine kr [] ?_
  cases h
  exact ya env rfl rfl (tS [some 0] (sV (lS (lS lN)) zt) (j4 (qbt (qh (qlp rfl) rfl) (by simp)) (by simp)))
 replace h:=qy hb h
 refine kr [] ?_
 cases h
 exact ya env rfl rfl (tS [some 0] (sV (lS (lS lN)) zt) (j4 (qbt (qh (qlp rfl) rfl) (by simp)) (by simp)))
def yq (a0:Reader):Option (Except Int (Unit)):=
 zl a0 >>=fun x1=>
 some (.error x1.At)
@[reducible] def qd0 (a0:Reader) (r:Except Int (Unit)):Prop:=
  exq (fun (r:Unit)=>AC Tryz.prog G 86 [(.ptr 0 0 0)] 1 [(0, .var 130 (Reader.cells a0))] (.tup []) 1 [(0, .var 130 (Reader.cells a0))]) (fun e=>FC Tryz.prog G 86 [(.ptr 0 0 0)] 1 [(0, .var 130 (Reader.cells a0))] (flt e)) r
theorem yb:PC1 qd0 yq:=fun a0 r h=>by
 rw [yq.eq_def] at h
 refine Y7 (T:=tt) (N:=6) (rs:= []) (fun vs w=>by simp) Tryz.func86 rfl rfl rfl (by kernel_rfl) (by kernel_rfl) (kv rfl rfl kh) (zr zn) (fun r=>(ku rfl kg)) (fun r=>(zr zn)) (fun _=>rfl) (fun _=>rfl) rfl (fun _=>rfl) ?_
 refine kr [] ?_
 obtain ⟨x1,hx,h⟩:=bind_some h
 refine qc (AC.g9 (jc _ _ hx) [0] [0]) ?_
 refine kr [] ?_
 refine quq (by kernel_rfl) rfl ?_
 refine kr [] ?_
 cases h
 exact q0f rfl rfl
def wq (o0:Reader) (o1_0:Int) (o1_1:BA) (o1_2:LB) (o1_3:LN):Option (Except Int (Reader × LB)):=
 zl o0 >>=fun x3=>
 app 16 o1_2 ([x3.Lead]) >>=fun x4=>
 some (.ok ((Reader.mk o0.l_ (IntKind.i64.wrap (o0.at_+(1:Int)))),x4))
@[reducible] def qb4 (o0:Reader) (o1_0:Int) (o1_1:BA) (o1_2:LB) (o1_3:LN) (r:Except Int (Reader × LB)):Prop:=
  Ok Tryz.prog G tt 31 4 (exq (fun (r:Reader × LB)=>Ret Tryz.prog [] (fun y H=>Qw Tryz.prog G 4 H y (.tup []) ⟨5, [(0, .var 130 (Reader.cells r.1)),(1, .var 45 [(.int .i64 o1_0),(.str o1_1),(.bs 1 2 4 0 r.2.length),(.bs 4 3 3 0 o1_3.length)]),(4, .row 9 (r.2.map sc).flatten),(3, .row 45 (o1_3.map Node.cells).flatten)]⟩)) (fun e=>Z8 (flt e)) r) (.go [] (w9 [9] Tryz.f121 9) [] (.n (.ptr 0 0 0) (.n (.ptr 1 1 0) .z .z) .z) 5 [(0, .var 130 (Reader.cells o0)),(1, .var 45 [(.int .i64 o1_0),(.str o1_1),(.bs 1 2 4 0 o1_2.length),(.bs 4 3 3 0 o1_3.length)]),(4, .row 9 (o1_2.map sc).flatten),(3, .row 45 (o1_3.map Node.cells).flatten)])
theorem J1:PC5 qb4 wq:=fun o0 o1_0 o1_1 o1_2 o1_3 r h=>by
 rw [wq.eq_def] at h
 refine kr [9] ?_
 obtain ⟨x3,hx,h⟩:=bind_some h
 refine qc (AC.g9 (jc _ _ hx) [0] [0]) ?_
 refine kr [9] ?_
 obtain ⟨x4,hx,h⟩:=bind_some h
 have hp_x4:=W5 hx (by simp)
 refine qcr (C:=sc) env hx rfl rfl (by simp) (fun _=>rfl) rfl rfl rfl rfl rfl (by decide) rfl rfl rfl ?_
 refine kr [9] ?_
 cases h
 exact qbm env rfl (tS [some 0,some 1,some 2,some 3] (sV (lS (lS lN)) (sV (lS (lS (lS (lS lN)))) (sR y8 (sR zd zt)))) (qdc qbh))
def qj (a0:Reader) (a1:Int) (a3:BA) (a4:LB) (a5:LN) (a2:BA):Option (Except Int (Reader × LB)):=
 q4 a0 a2 >>=fun x1=>
 if (!x1)=true then
  yq a0 >>=fun x2=>
  match x2 with
  | .error ee=>some (.error ee)
  | .ok x2=>
  wq a0 a1 a3 a4 a5
 else
  wq a0 a1 a3 a4 a5
@[reducible] def qdv (a0:Reader) (a1:Int) (a3:BA) (a4:LB) (a5:LN) (a2:BA) (r:Except Int (Reader × LB)):Prop:=
  exq (fun (r:Reader × LB)=>AC Tryz.prog G 121 [(.ptr 0 0 0),(.ptr 1 1 0),(.str a2)] 4 [(0, .var 130 (Reader.cells a0)),(1, .var 45 [(.int .i64 a1),(.str a3),(.bs 1 2 2 0 a4.length),(.bs 4 3 3 0 a5.length)]),(2, .row 9 (a4.map sc).flatten),(3, .row 45 (a5.map Node.cells).flatten)] (.tup []) 5 [(0, .var 130 (Reader.cells r.1)),(1, .var 45 [(.int .i64 a1),(.str a3),(.bs 1 2 4 0 r.2.length),(.bs 4 3 3 0 a5.length)]),(4, .row 9 (r.2.map sc).flatten),(3, .row 45 (a5.map Node.cells).flatten)]) (fun e=>FC Tryz.prog G 121 [(.ptr 0 0 0),(.ptr 1 1 0),(.str a2)] 4 [(0, .var 130 (Reader.cells a0)),(1, .var 45 [(.int .i64 a1),(.str a3),(.bs 1 2 2 0 a4.length),(.bs 4 3 3 0 a5.length)]),(2, .row 9 (a4.map sc).flatten),(3, .row 45 (a5.map Node.cells).flatten)] (flt e)) r
theorem qb:PC6 qdv qj:=fun a0 a1 a3 a4 a5 a2 r h=>by
 rw [qj.eq_def] at h
 refine Y7 (T:=tt) (N:=31) (rs:= []) (fun vs w=>by simp) Tryz.func121 rfl rfl rfl (by kernel_rfl) (by kernel_rfl) (kv rfl rfl (kv rfl rfl (Z5 y8 rfl (Z5 zd rfl kh)))) (zr (zr (kj y8 (kj zd zn)))) (fun r=>(ku rfl (ku rfl (Z3 y8 (Z3 zd kg))))) (fun r=>(zr (zr (kj y8 (kj zd zn))))) (fun _=>rfl) (fun _=>rfl) rfl (fun _=>rfl) ?_
 refine kr [9] ?_
 obtain ⟨x1,hx,h⟩:=bind_some h
 refine qc (AC.g9 (q6 _ _ _ hx) [0] [0]) ?_
 refine kr [9] ?_
 refine qf (fun hb=> ?_) (fun hb=> ?_)
 ·replace h:=qx hb h
  refine kr [9] ?_
  obtain ⟨x2,hx,h⟩:=bind_some h
  rcases x2 with ee | x2
  ·replace h:some (.error ee)=some r:=h
   cases h
   exact q7 (FC.go (yb _ _ hx) [0] [0] rfl rfl rfl rfl rfl rfl)
  refine qc (AC.g9 (yb _ _ hx) [0] [0]) ?_
  refine kr [9] ?_
  exact qr (by kernel_rfl) rfl lQ (J1 _ _ _ _ _ _ h)
 replace h:=qy hb h
 refine kr [9] ?_
 exact qr (by kernel_rfl) rfl lQ (J1 _ _ _ _ _ _ h)
def yz (o0:Reader) (o1_0:Int) (o1_1:BA) (o1_2:LB) (o1_3:LN) (o4:Token):Option (Except Int (Reader × BA × LB)):=
 app 16 o1_2 ([o4.Lead]) >>=fun x5=>
 some (.ok ((Reader.mk o0.l_ (IntKind.i64.wrap (o0.at_+(1:Int)))),o4.Text,x5))
@[reducible] def qbc (o0:Reader) (o1_0:Int) (o1_1:BA) (o1_2:LB) (o1_3:LN) (o4:Token) (r:Except Int (Reader × BA × LB)):Prop:=
  Ok Tryz.prog G tt 41 4 (exq (fun (r:Reader × BA × LB)=>Ret Tryz.prog [] (fun y H=>Qw Tryz.prog G 4 H y (.tup []) ⟨5, [(0, .var 130 (Reader.cells r.1)),(1, .var 45 [(.int .i64 o1_0),(.str r.2.1),(.bs 1 2 4 0 r.2.2.length),(.bs 4 3 3 0 o1_3.length)]),(4, .row 9 (r.2.2.map sc).flatten),(3, .row 45 (o1_3.map Node.cells).flatten)]⟩)) (fun e=>Z8 (flt e)) r) (.go [] (w9 [15] Tryz.f122 15) [] (.n (.ptr 0 0 0) (.n (.ptr 1 1 0) .z .z) (.n .undef (.n (.ptr 4 4 0) .z .z) .z)) 6 [(0, .var 130 (Reader.cells o0)),(1, .var 45 [(.int .i64 o1_0),(.str o1_1),(.bs 1 2 5 0 o1_2.length),(.bs 4 3 3 0 o1_3.length)]),(5, .row 9 (o1_2.map sc).flatten),(3, .row 45 (o1_3.map Node.cells).flatten),(4, .var 118 (Token.cells o4))])
theorem Qc:PC6 qbc yz:=fun o0 o1_0 o1_1 o1_2 o1_3 o4 r h=>by
 rw [yz.eq_def] at h
 refine kr [15] ?_
 obtain ⟨x5,hx,h⟩:=bind_some h
 have hp_x5:=W5 hx (by simp)
 refine qcr (C:=sc) env hx rfl rfl (by simp) (fun _=>rfl) rfl rfl rfl rfl rfl (by decide) rfl rfl rfl ?_
 refine kr [15] ?_
 cases h
 exact qbm env rfl (tS [some 0,some 1,some 2,some 3] (sV (lS (lS lN)) (sV (lS (lS (lS (lS lN)))) (sR y8 (sR zd zt)))) (qdc qbh))
def zp (a0:Reader) (a1:Int) (a2:BA) (a3:LB) (a4:LN):Option (Except Int (Reader × BA × LB)):=
 zl a0 >>=fun x1=>
 if (!decide (x1.Kind=(1:Int)))=true then
  yq a0 >>=fun x4=>
  match x4 with
  | .error ee=>some (.error ee)
  | .ok x4=>
  yz a0 a1 a2 a3 a4 x1
 else
  Wa x1.Text >>=fun x2=>
  if (!x2)=true then
   yq a0 >>=fun x3=>
   match x3 with
   | .error ee=>some (.error ee)
   | .ok x3=>
   yz a0 a1 a2 a3 a4 x1
  else
   yz a0 a1 a2 a3 a4 x1
@[reducible] def qdx (a0:Reader) (a1:Int) (a2:BA) (a3:LB) (a4:LN) (r:Except Int (Reader × BA × LB)):Prop:=
  exq (fun (r:Reader × BA × LB)=>AC Tryz.prog G 122 [(.ptr 0 0 0),(.ptr 1 1 0)] 4 [(0, .var 130 (Reader.cells a0)),(1, .var 45 [(.int .i64 a1),(.str a2),(.bs 1 2 2 0 a3.length),(.bs 4 3 3 0 a4.length)]),(2, .row 9 (a3.map sc).flatten),(3, .row 45 (a4.map Node.cells).flatten)] (.tup []) 5 [(0, .var 130 (Reader.cells r.1)),(1, .var 45 [(.int .i64 a1),(.str r.2.1),(.bs 1 2 4 0 r.2.2.length),(.bs 4 3 3 0 a4.length)]),(4, .row 9 (r.2.2.map sc).flatten),(3, .row 45 (a4.map Node.cells).flatten)]) (fun e=>FC Tryz.prog G 122 [(.ptr 0 0 0),(.ptr 1 1 0)] 4 [(0, .var 130 (Reader.cells a0)),(1, .var 45 [(.int .i64 a1),(.str a2),(.bs 1 2 2 0 a3.length),(.bs 4 3 3 0 a4.length)]),(2, .row 9 (a3.map sc).flatten),(3, .row 45 (a4.map Node.cells).flatten)] (flt e)) r
theorem q8:PC5 qdx zp:=fun a0 a1 a2 a3 a4 r h=>by
 rw [zp.eq_def] at h
 refine Y7 (T:=tt) (N:=41) (rs:= []) (fun vs w=>by simp) Tryz.func122 rfl rfl rfl (by kernel_rfl) (by kernel_rfl) (kv rfl rfl (kv rfl rfl (Z5 y8 rfl (Z5 zd rfl kh)))) (zr (zr (kj y8 (kj zd zn)))) (fun r=>(ku rfl (ku rfl (Z3 y8 (Z3 zd kg))))) (fun r=>(zr (zr (kj y8 (kj zd zn))))) (fun _=>rfl) (fun _=>rfl) rfl (fun _=>rfl) ?_
 refine kr [15] ?_
 obtain ⟨x1,hx,h⟩:=bind_some h
 refine qc (AC.g9 (jc _ _ hx) [0] [0]) ?_
 refine kr [15] ?_
 refine za (fun hb=> ?_) (fun hb=> ?_)
 ·replace h:=qy hb h
  refine kr [15] ?_
  obtain ⟨x2,hx,h⟩:=bind_some h
  refine qp (qfy _ _ hx) ?_
  refine kr [15] ?_
  refine qf (fun hb=> ?_) (fun hb=> ?_)
  ·replace h:=qx hb h
   refine kr [15] ?_
   obtain ⟨x3,hx,h⟩:=bind_some h
   rcases x3 with ee | x3
   ·replace h:some (.error ee)=some r:=h
    cases h
    exact q7 (FC.go (yb _ _ hx) [0] [0] rfl rfl rfl rfl rfl rfl)
   refine qc (AC.g9 (yb _ _ hx) [0] [0]) ?_
   refine kr [15] ?_
   exact qr (by kernel_rfl) rfl lQ (Qc _ _ _ _ _ _ _ h)
  replace h:=qy hb h
  refine kr [15] ?_
  exact qr (by kernel_rfl) rfl lQ (Qc _ _ _ _ _ _ _ h)
 replace h:=qx hb h
 refine kr [15] ?_
 obtain ⟨x4,hx,h⟩:=bind_some h
 rcases x4 with ee | x4
 ·replace h:some (.error ee)=some r:=h
  cases h
  exact q7 (FC.go (yb _ _ hx) [0] [0] rfl rfl rfl rfl rfl rfl)
 refine qc (AC.g9 (yb _ _ hx) [0] [0]) ?_
 refine kr [15] ?_
 exact qr (by kernel_rfl) rfl lQ (Qc _ _ _ _ _ _ _ h)
def zf (a0:Int) (a2:BA) (a3:LB) (a4:LN) (a1:Node):Option LN:=
 app 72 a4 [a1] >>=fun x1=>
 some x1
@[reducible] def qky (a0:Int) (a2:BA) (a3:LB) (a4:LN) (a1:Node) (r:LN):Prop:=
  AC Tryz.prog G 82 [(.ptr 0 0 0),(.agg (zq a1))] 3 [(0, .var 45 [(.int .i64 a0),(.str a2),(.bs 1 1 1 0 a3.length),(.bs 4 2 2 0 a4.length)]),(1, .row 9 (a3.map sc).flatten),(2, .row 45 (a4.map Node.cells).flatten)] (.tup []) 4 [(0, .var 45 [(.int .i64 a0),(.str a2),(.bs 1 1 1 0 a3.length),(.bs 4 2 3 0 r.length)]),(1, .row 9 (a3.map sc).flatten),(3, .row 45 (r.map Node.cells).flatten)]
theorem zg:PC5 qky zf:=fun a0 a2 a3 a4 a1 r h=>by
 rw [zf.eq_def] at h
 refine ⟨?_,(kv rfl rfl (Z5 y8 rfl (Z5 zd rfl kh))),(zr (kj y8 (kj zd zn))),(ku rfl (Z3 y8 (Z3 zd kg))),(zr (kj y8 (kj zd zn))),rfl,rfl,rfl,rfl⟩
 refine Z2 (T:=tt) (N:=15) (rs:= []) (fun vs w=>by simp) Tryz.func82 rfl rfl rfl (by kernel_rfl) (by kernel_rfl) ?_
 refine kr [] ?_
 obtain ⟨x1,hx,h⟩:=bind_some h
 have hz_x1:=hx
 refine qs9 (C:=Node.cells) env hx rfl rfl Node.cells_len rfl rfl rfl rfl rfl (by decide) rfl rfl rfl ?_
 refine kr [] ?_
 refine qj0 env rfl rfl rfl rfl (Int.natCast_nonneg _) (qs2 hz_x1) ?_
 refine kr [] ?_
 refine qpc hz_x1 zd rfl rfl (Node.cells_eq a1).symm rfl rfl rfl ?_
 refine kr [] ?_
 cases h
 exact qbm env rfl (tS [some 0,some 1,some 2] (sV (lS (lS (lS (lS lN)))) (sR y8 (sR zd zt))) (qdc qbh))
def wm (a0:Reader):Option (Except Int (Node × Reader)):=
 zp a0 (5:Int) (⟨#[]⟩) ([]:LB) ([]:LN) >>=fun x1=>
 match x1 with
 | .error ee=>some (.error ee)
 | .ok x1=>
 some (.ok ((Node.mk (5:Int) x1.2.1 x1.2.2 ([]:LN)),x1.1))
@[reducible] def qdy (a0:Reader) (r:Except Int (Node × Reader)):Prop:=
  exq (fun (r:Node × Reader)=>AC Tryz.prog G 123 [(.ptr 0 0 0)] 1 [(0, .var 130 (Reader.cells a0))] (.agg (zq r.1)) 1 [(0, .var 130 (Reader.cells r.2))]) (fun e=>FC Tryz.prog G 123 [(.ptr 0 0 0)] 1 [(0, .var 130 (Reader.cells a0))] (flt e)) r
theorem vi:PC1 qdy wm:=fun a0 r h=>by
 rw [wm.eq_def] at h
 refine Y7 (T:=tt) (N:=8) (rs:= [.cell 2 45]) (fun vs w=>by simp) Tryz.func123 rfl rfl rfl (by kernel_rfl) (by kernel_rfl) (kv rfl rfl kh) (zr zn) (fun r=>(ku rfl kg)) (fun r=>(zr zn)) (fun _=>rfl) (fun _=>rfl) rfl (fun _=>rfl) ?_
 refine kr [] ?_
 obtain ⟨x1,hx,h⟩:=bind_some h
 rcases x1 with ee | x1
 ·replace h:some (.error ee)=some r:=h
  cases h
  exact q7 (FCalls.ghost (e:=9) (FCalls.ghost (e:=45) (FCalls.wkg (FC.go (objs:= [(0, .var 130 (Reader.cells a0)),(1, .var 45 [(.int .i64 0),(.str ⟨#[]⟩),(.sl 0 true []),(.sl 0 true [])]),(2, .var 45 [(.int .i64 (5:Int)),(.str ⟨#[]⟩),(.bs 1 3 3 0 ([]:LB).length),(.bs 4 4 4 0 ([]:LN).length)]),(3, .row 9 (([]:LB).map sc).flatten),(4, .row 45 (([]:LN).map Node.cells).flatten)]) (xs:= [(.ptr 0 0 0),(.ptr 2 2 0)]) (q8 _ _ _ _ _ _ hx) [0,2,3,4] [0,2,3,4] rfl rfl rfl rfl rfl rfl) (qg (qq _) (qg (qq _) z6)) (qe (qe (jb (qd (qw _) (qd (qw _) (qd (zb rfl) (qd (zb rfl) jt)))) (zj _)))))))
 refine qc (ACalls.ghost (e:=9) (ACalls.ghost (e:=45) (ACalls.wkg (AC.go (objs:= [(0, .var 130 (Reader.cells a0)),(1, .var 45 [(.int .i64 0),(.str ⟨#[]⟩),(.sl 0 true []),(.sl 0 true [])]),(2, .var 45 [(.int .i64 (5:Int)),(.str ⟨#[]⟩),(.bs 1 3 3 0 ([]:LB).length),(.bs 4 4 4 0 ([]:LN).length)]),(3, .row 9 (([]:LB).map sc).flatten),(4, .row 45 (([]:LN).map Node.cells).flatten)]) (xs:= [(.ptr 0 0 0),(.ptr 2 2 0)]) (q8 _ _ _ _ _ _ hx) [0,2,3,4] [0,2,3,4] rfl rfl rfl rfl rfl rfl rfl rfl rfl) (qg (qq _) (qg (qq _) z6)) (qe (qe (jb (qd (qw _) (qd (qw _) (qd (zb rfl) (qd (zb rfl) jt)))) (zj _))))))) ?_
 refine kr [] ?_
 cases h
 exact ya env rfl rfl (tS [some 0] (sV (lS (lS lN)) zt) (j4 (yn (qi (qh (zm rfl) rfl) (qi (qh (jw rfl) rfl) (qi (qh (jd y8 rfl) rfl) (qi (qh (jd zd rfl) rfl) ym))))) (by simp)))
def jk (a0:Reader) (a1:Int):Option (Node × Reader):=
 zl a0 >>=fun x1=>
 some ((Node.mk a1 x1.Text ([x1.Lead]) ([]:LN)),(Reader.mk a0.l_ (IntKind.i64.wrap (a0.at_+(1:Int)))))
@[reducible] def qdu (a0:Reader) (a1:Int) (r:Node × Reader):Prop:=
  AC Tryz.prog G 156 [(.ptr 0 0 0),(.int .i64 a1)] 2 [(0, .var 130 (Reader.cells a0)),(1, .row 45 [])] (.agg [(.int .i64 r.1.kind),(.str r.1.text),(.sl 1 false (r.1.gaps.map sc)),(.bs 4 1 2 0 r.1.kids.length)]) 3 [(0, .var 130 (Reader.cells r.2)),(2, .row 45 (r.1.kids.map Node.cells).flatten)]
theorem yt:PC2 qdu jk:=fun a0 a1 r h=>by
 rw [jk.eq_def] at h
 refine ⟨?_,(kv rfl rfl (qqi rfl kh)),(zr (qgh zn)),(ku rfl (Z3 zd kg)),(zr (kj zd zn)),rfl,rfl,rfl,rfl⟩
 refine Z2 (T:=tt) (N:=22) (rs:= [.cell 4 45]) (fun vs w=>by simp) Tryz.func156 rfl rfl rfl (by kernel_rfl) (by kernel_rfl) ?_
 refine kr [] ?_
 obtain ⟨x1,hx,h⟩:=bind_some h
 refine qc (AC.g9 (jc _ _ hx) [0] [0]) ?_
 refine kr [] ?_
 cases h
 exact ya env rfl rfl (tS [some 0,none] (sV (lS (lS lN)) (qdb rfl rfl zt)) (j4 (yn (qi (qh (zm rfl) rfl) (qi (qh (jw rfl) rfl) (qi (qh (wg (.inl rfl)) rfl) (qi (qyk rfl rfl) ym))))) (by simp)))
def Qg (a0:Int) (a2:BA) (a3:LB) (a4:LN) (a1:Node):Option LN:=
 app 72 a4 [a1] >>=fun x1=>
 some x1
@[reducible] def qkx (a0:Int) (a2:BA) (a3:LB) (a4:LN) (a1:Node) (r:LN):Prop:=
  AC Tryz.prog G 82 [(.ptr 0 0 0),(.agg (zq a1))] 2 [(0, .var 45 [(.int .i64 a0),(.str a2),(.sl 1 false (a3.map sc)),(.bs 4 1 1 0 a4.length)]),(1, .row 45 (a4.map Node.cells).flatten)] (.tup []) 3 [(0, .var 45 [(.int .i64 a0),(.str a2),(.sl 1 false (a3.map sc)),(.bs 4 1 2 0 r.length)]),(2, .row 45 (r.map Node.cells).flatten)]
theorem Yv:PC5 qkx Qg:=fun a0 a2 a3 a4 a1 r h=>by
 rw [Qg.eq_def] at h
 refine ⟨?_,(kv rfl rfl (Z5 zd rfl kh)),(zr (kj zd zn)),(ku rfl (Z3 zd kg)),(zr (kj zd zn)),rfl,rfl,rfl,rfl⟩
 refine Z2 (T:=tt) (N:=15) (rs:= []) (fun vs w=>by simp) Tryz.func82 rfl rfl rfl (by kernel_rfl) (by kernel_rfl) ?_
 refine kr [] ?_
 obtain ⟨x1,hx,h⟩:=bind_some h
 have hz_x1:=hx
 refine qs9 (C:=Node.cells) env hx rfl rfl Node.cells_len rfl rfl rfl rfl rfl (by decide) rfl rfl rfl ?_
 refine kr [] ?_
 refine qj0 env rfl rfl rfl rfl (Int.natCast_nonneg _) (qs2 hz_x1) ?_
 refine kr [] ?_
 refine qpc hz_x1 zd rfl rfl (Node.cells_eq a1).symm rfl rfl rfl ?_
 refine kr [] ?_
 cases h
 exact qbm env rfl (tS [some 0,some 1] (sV (lS (lS (lS (lS lN)))) (sR zd zt)) (qdc qbh))
def yj (o0:Reader) (o3_0:Int) (o3_1:BA) (o3_2:LB) (o3_3:LN):Option (Except Int (Node × Reader)):=
 some (.ok ((Node.mk o3_0 o3_1 o3_2 o3_3),o0))
@[reducible] def Wr (o0:Reader) (o3_0:Int) (o3_1:BA) (o3_2:LB) (o3_3:LN) (r:Except Int (Node × Reader)):Prop:=
  Ok Tryz.prog G tt 61 1 (exq (fun (r:Node × Reader)=>Ret Tryz.prog [.cell 2 45] (fun y H=>Qw Tryz.prog G 1 H y (.agg (zq r.1)) ⟨1, [(0, .var 130 (Reader.cells r.2))]⟩)) (fun e=>Z8 (flt e)) r) (.go [] (w9 [56] Tryz.f178 56) [] (.n .undef .z (.n (.ptr 1 1 0) .z (.n (.ptr 3 3 0) .z .z))) 9 [(0, .var 130 (Reader.cells o0)),(1, .var 45 [(.int .i64 0),(.str ⟨#[]⟩),(.sl 0 true []),(.sl 0 true [])]),(2, .dead),(3, .var 45 [(.int .i64 o3_0),(.str o3_1),(.bs 1 4 7 0 o3_2.length),(.bs 4 5 8 0 o3_3.length)]),(7, .row 9 (o3_2.map sc).flatten),(8, .row 45 (o3_3.map Node.cells).flatten)])
theorem Zq:PC5 Wr yj:=fun o0 o3_0 o3_1 o3_2 o3_3 r h=>by
 rw [yj.eq_def] at h
 refine kr [56] ?_
 cases h
 exact ya env rfl rfl (tS [some 0] (sV (lS (lS lN)) zt) (j4 (yn (qi (qh (zm rfl) rfl) (qi (qh (jw rfl) rfl) (qi (qh (jd y8 rfl) rfl) (qi (qh (jd zd rfl) rfl) ym))))) (by simp)))
def yw (o0:Reader) (o2:Node):Option (Except Int (Node × Reader)):=
 some (.ok (o2,o0))
@[reducible] def qar (o0:Reader) (o2:Node) (r:Except Int (Node × Reader)):Prop:=
  Ok Tryz.prog G tt 33 1 (exq (fun (r:Node × Reader)=>Ret Tryz.prog [.cell 4 45] (fun y H=>Qw Tryz.prog G 1 H y (.agg (zq r.1)) ⟨1, [(0, .var 130 (Reader.cells r.2))]⟩)) (fun e=>Z8 (flt e)) r) (.go [] (qiz [1000000] Tryz.f125 0) [] (.n .undef (.n .undef .z (.n (.ptr 2 2 0) .z .z)) (.n .undef (.n (.ptr 1 1 0) .z .z) .z)) 8 [(0, .var 130 (Reader.cells o0)),(1, .var 45 [(.int .i64 0),(.str ⟨#[]⟩),(.sl 0 true []),(.sl 0 true [])]),(2, .var 45 (zq o2))])
theorem Z7:PC2 qar yw:=fun o0 o2 r h=>by
 rw [yw.eq_def] at h
 refine kr [1000000] ?_
 cases h
 exact ya env rfl rfl (tS [some 0] (sV (lS (lS lN)) zt) (j4 (yn (qi (qh (zm rfl) rfl) (qi (qh (jw rfl) rfl) (qi (qh (wg (.inl rfl)) rfl) (qi (qh (wg (.inl rfl)) rfl) ym))))) (by simp)))
mutual
def qz (a0:Reader) (a1:Int):Option (Except Int (Node × Reader)):=
 if (decide ((5:Int) < a1))=true then
  jr (qa a0) >>=fun x1=>
  match x1 with
  | .error ee=>some (.error ee)
  | .ok x1=>
  some (.ok (x1.1,x1.2))
 else
  qz (qa a0) (IntKind.i64.wrap (a1+(1:Int))) >>=fun x2=>
  match x2 with
  | .error ee=>some (.error ee)
  | .ok x2=>
  jf (qa a1) x2.2 x2.1
 partial_fixpoint
def jr (a0:Reader):Option (Except Int (Node × Reader)):=
 q4 (qa a0) (⟨#[45]⟩:BA) >>=fun x3=>
 if x3=true then
  jk (qa a0) (25:Int) >>=fun x9=>
  jr x9.2 >>=fun x10=>
  match x10 with
  | .error ee=>some (.error ee)
  | .ok x10=>
  Qg x9.1.kind x9.1.text x9.1.gaps x9.1.kids x10.1 >>=fun x11=>
  some (.ok ((Node.mk x9.1.kind x9.1.text x9.1.gaps x11),x10.2))
 else
  q4 (qa a0) (⟨#[33]⟩:BA) >>=fun x4=>
  if x4=true then
   jk (qa a0) (25:Int) >>=fun x5=>
   jr x5.2 >>=fun x6=>
   match x6 with
   | .error ee=>some (.error ee)
   | .ok x6=>
   Qg x5.1.kind x5.1.text x5.1.gaps x5.1.kids x6.1 >>=fun x7=>
   some (.ok ((Node.mk x5.1.kind x5.1.text x5.1.gaps x7),x6.2))
  else
   yl (qa a0) >>=fun x8=>
   match x8 with
   | .error ee=>some (.error ee)
   | .ok x8=>
   ja x8.2 x8.1
 partial_fixpoint
def yl (a0:Reader):Option (Except Int (Node × Reader)):=
 zl (qa a0) >>=fun x12=>
 if (decide (x12.Kind=(2:Int)))=true then
  jk (qa a0) (17:Int) >>=fun x13=>
  some (.ok ((Node.mk x13.1.kind x13.1.text x13.1.gaps x13.1.kids),x13.2))
 else
  q4 (qa a0) (⟨#[116,114,117,101]⟩:BA) >>=fun x14=>
  if x14=true then
   jk (qa a0) (18:Int) >>=fun x15=>
   some (.ok ((Node.mk x15.1.kind x15.1.text x15.1.gaps x15.1.kids),x15.2))
  else
   q4 (qa a0) (⟨#[102,97,108,115,101]⟩:BA) >>=fun x16=>
   if x16=true then
    jk (qa a0) (18:Int) >>=fun x17=>
    some (.ok ((Node.mk x17.1.kind x17.1.text x17.1.gaps x17.1.kids),x17.2))
   else
    q4 (qa a0) (⟨#[115,101,108,102]⟩:BA) >>=fun x18=>
    if x18=true then
     jk (qa a0) (23:Int) >>=fun x19=>
     some (.ok ((Node.mk x19.1.kind x19.1.text x19.1.gaps x19.1.kids),x19.2))
    else
     q4 (qa a0) (⟨#[110,101,119]⟩:BA) >>=fun x20=>
     if x20=true then
      qj (qa a0) (22:Int) (⟨#[]⟩) ([]:LB) ([]:LN) (⟨#[110,101,119]⟩:BA) >>=fun x21=>
      match x21 with
      | .error ee=>some (.error ee)
      | .ok x21=>
      zp x21.1 (22:Int) (⟨#[]⟩) x21.2 ([]:LN) >>=fun x22=>
      match x22 with
      | .error ee=>some (.error ee)
      | .ok x22=>
      qj x22.1 (22:Int) x22.2.1 x22.2.2 ([]:LN) (⟨#[40]⟩:BA) >>=fun x23=>
      match x23 with
      | .error ee=>some (.error ee)
      | .ok x23=>
      qj x23.1 (22:Int) x22.2.1 x23.2 ([]:LN) (⟨#[41]⟩:BA) >>=fun x24=>
      match x24 with
      | .error ee=>some (.error ee)
      | .ok x24=>
      some (.ok ((Node.mk (22:Int) x22.2.1 x24.2 ([]:LN)),x24.1))
     else
      q4 (qa a0) (⟨#[40]⟩:BA) >>=fun x25=>
      if x25=true then
       qj (qa a0) (26:Int) (⟨#[]⟩) ([]:LB) ([]:LN) (⟨#[40]⟩:BA) >>=fun x26=>
       match x26 with
       | .error ee=>some (.error ee)
       | .ok x26=>
       qz x26.1 (1:Int) >>=fun x27=>
       match x27 with
       | .error ee=>some (.error ee)
       | .ok x27=>
       zf (26:Int) (⟨#[]⟩) x26.2 ([]:LN) x27.1 >>=fun x28=>
       qj x27.2 (26:Int) (⟨#[]⟩) x26.2 (qa x28) (⟨#[41]⟩:BA) >>=fun x29=>
       match x29 with
       | .error ee=>some (.error ee)
       | .ok x29=>
       some (.ok ((Node.mk (26:Int) (⟨#[]⟩) x29.2 x28),x29.1))
      else
       zp (qa a0) (19:Int) (⟨#[]⟩) ([]:LB) ([]:LN) >>=fun x30=>
       match x30 with
       | .error ee=>some (.error ee)
       | .ok x30=>
       q4 x30.1 (⟨#[40]⟩:BA) >>=fun x31=>
       if x31=true then
        zx x30.1 (20:Int) x30.2.1 x30.2.2 ([]:LN) >>=fun x32=>
        match x32 with
        | .error ee=>some (.error ee)
        | .ok x32=>
        yj x32.1 (20:Int) x30.2.1 x32.2.1 x32.2.2
       else
        yj x30.1 (19:Int) x30.2.1 x30.2.2 ([]:LN)
 partial_fixpoint
def zx (a0:Reader) (a1:Int) (a2:BA) (a3:LB) (a4:LN):Option (Except Int (Reader × LB × LN)):=
 qj (qa a0) (qa a1) (qa a2) (qa a3) (qa a4) (⟨#[40]⟩:BA) >>=fun x33=>
 match x33 with
 | .error ee=>some (.error ee)
 | .ok x33=>
 zv (qa true) x33.1 (qa a1) (qa a2) x33.2 (qa a4)
 partial_fixpoint
def jf (t1:Int) (o0:Reader) (o2:Node):Option (Except Int (Node × Reader)):=
 zl (qa o0) >>=fun x34=>
 Yq (qa x34) >>=fun x35=>
 if (decide (x35=t1))=true then
  jk (qa o0) (24:Int) >>=fun x36=>
  Qg x36.1.kind x36.1.text x36.1.gaps x36.1.kids (qa o2) >>=fun x37=>
  qz x36.2 (IntKind.i64.wrap (t1+(1:Int))) >>=fun x38=>
  match x38 with
  | .error ee=>some (.error ee)
  | .ok x38=>
  Qg x36.1.kind x36.1.text x36.1.gaps (qa x37) x38.1 >>=fun x39=>
  if (decide (t1=(3:Int)))=true then
   yw x38.2 (Node.mk x36.1.kind x36.1.text x36.1.gaps x39)
  else
   jf (qa t1) x38.2 (Node.mk x36.1.kind x36.1.text x36.1.gaps x39)
 else
  yw (qa o0) (qa o2)
 partial_fixpoint
def ja (o0:Reader) (o2:Node):Option (Except Int (Node × Reader)):=
 q4 (qa o0) (⟨#[46]⟩:BA) >>=fun x40=>
 if x40=true then
  qj (qa o0) (21:Int) (⟨#[]⟩) ([]:LB) ([o2]:LN) (⟨#[46]⟩:BA) >>=fun x41=>
  match x41 with
  | .error ee=>some (.error ee)
  | .ok x41=>
  zp x41.1 (21:Int) (⟨#[]⟩) x41.2 ([o2]:LN) >>=fun x42=>
  match x42 with
  | .error ee=>some (.error ee)
  | .ok x42=>
  zx x42.1 (21:Int) x42.2.1 x42.2.2 ([o2]:LN) >>=fun x43=>
  match x43 with
  | .error ee=>some (.error ee)
  | .ok x43=>
  ja x43.1 (Node.mk (21:Int) x42.2.1 x43.2.1 x43.2.2)
 else
  some (.ok (o2,o0))
 partial_fixpoint
def zv (t4:Bool) (o0:Reader) (o1_0:Int) (o1_1:BA) (o1_2:LB) (o1_3:LN):Option (Except Int (Reader × LB × LN)):=
 q4 (qa o0) (⟨#[41]⟩:BA) >>=fun x44=>
 if (!x44)=true then
  if (!t4)=true then
   qj (qa o0) (qa o1_0) (qa o1_1) (qa o1_2) (qa o1_3) (⟨#[44]⟩:BA) >>=fun x45=>
   match x45 with
   | .error ee=>some (.error ee)
   | .ok x45=>
   jp x45.1 (qa o1_0) (qa o1_1) x45.2 (qa o1_3)
  else
   jp (qa o0) (qa o1_0) (qa o1_1) (qa o1_2) (qa o1_3)
 else
  qj (qa o0) (qa o1_0) (qa o1_1) (qa o1_2) (qa o1_3) (⟨#[41]⟩:BA) >>=fun x46=>
  match x46 with
  | .error ee=>some (.error ee)
  | .ok x46=>
  some (.ok (x46.1,x46.2,o1_3))
 partial_fixpoint
def jp (o0:Reader) (o1_0:Int) (o1_1:BA) (o1_2:LB) (o1_3:LN):Option (Except Int (Reader × LB × LN)):=
 qz (qa o0) (1:Int) >>=fun x47=>
 match x47 with
 | .error ee=>some (.error ee)
 | .ok x47=>
 zf (qa o1_0) (qa o1_1) (qa o1_2) (qa o1_3) x47.1 >>=fun x48=>
 zv (qa false) x47.2 (qa o1_0) (qa o1_1) (qa o1_2) (qa x48)
 partial_fixpoint
end
@[reducible] def Qy (a0:Reader) (a1:Int) (r:Except Int (Node × Reader)):Prop:=
  exq (fun (r:Node × Reader)=>AC Tryz.prog G 125 [(.ptr 0 0 0),(.int .i64 a1)] 1 [(0, .var 130 (Reader.cells a0))] (.agg (zq r.1)) 1 [(0, .var 130 (Reader.cells r.2))]) (fun e=>FC Tryz.prog G 125 [(.ptr 0 0 0),(.int .i64 a1)] 1 [(0, .var 130 (Reader.cells a0))] (flt e)) r
@[reducible] def Zf (a0:Reader) (r:Except Int (Node × Reader)):Prop:=
  exq (fun (r:Node × Reader)=>AC Tryz.prog G 154 [(.ptr 0 0 0)] 1 [(0, .var 130 (Reader.cells a0))] (.agg (zq r.1)) 1 [(0, .var 130 (Reader.cells r.2))]) (fun e=>FC Tryz.prog G 154 [(.ptr 0 0 0)] 1 [(0, .var 130 (Reader.cells a0))] (flt e)) r
@[reducible] def Ql (a0:Reader) (r:Except Int (Node × Reader)):Prop:=
  exq (fun (r:Node × Reader)=>AC Tryz.prog G 178 [(.ptr 0 0 0)] 1 [(0, .var 130 (Reader.cells a0))] (.agg (zq r.1)) 1 [(0, .var 130 (Reader.cells r.2))]) (fun e=>FC Tryz.prog G 178 [(.ptr 0 0 0)] 1 [(0, .var 130 (Reader.cells a0))] (flt e)) r
@[reducible] def vp (a0:Reader) (a1:Int) (a2:BA) (a3:LB) (a4:LN) (r:Except Int (Reader × LB × LN)):Prop:=
  exq (fun (r:Reader × LB × LN)=>AC Tryz.prog G 179 [(.ptr 0 0 0),(.ptr 1 1 0)] 4 [(0, .var 130 (Reader.cells a0)),(1, .var 45 [(.int .i64 a1),(.str a2),(.bs 1 2 2 0 a3.length),(.bs 4 3 3 0 a4.length)]),(2, .row 9 (a3.map sc).flatten),(3, .row 45 (a4.map Node.cells).flatten)] (.tup []) 6 [(0, .var 130 (Reader.cells r.1)),(1, .var 45 [(.int .i64 a1),(.str a2),(.bs 1 2 4 0 r.2.1.length),(.bs 4 3 5 0 r.2.2.length)]),(4, .row 9 (r.2.1.map sc).flatten),(5, .row 45 (r.2.2.map Node.cells).flatten)]) (fun e=>FC Tryz.prog G 179 [(.ptr 0 0 0),(.ptr 1 1 0)] 4 [(0, .var 130 (Reader.cells a0)),(1, .var 45 [(.int .i64 a1),(.str a2),(.bs 1 2 2 0 a3.length),(.bs 4 3 3 0 a4.length)]),(2, .row 9 (a3.map sc).flatten),(3, .row 45 (a4.map Node.cells).flatten)] (flt e)) r
@[reducible] def vo (t1:Int) (o0:Reader) (o2:Node) (r:Except Int (Node × Reader)):Prop:=
  Ok Tryz.prog G tt 33 1 (exq (fun (r:Node × Reader)=>Ret Tryz.prog [.cell 4 45] (fun y H=>Qw Tryz.prog G 1 H y (.agg (zq r.1)) ⟨1, [(0, .var 130 (Reader.cells r.2))]⟩)) (fun e=>Z8 (flt e)) r) (.again (jj [1000000] Tryz.f125 0).1 (jj [1000000] Tryz.f125 0).2 (.n (.ptr 0 0 0) (.n (.int .i64 t1) .z (.n (.ptr 2 2 0) .z .z)) (.n .undef (.n (.ptr 1 1 0) .z .z) .z)) 3 [(0, .var 130 (Reader.cells o0)),(1, .var 45 [(.int .i64 0),(.str ⟨#[]⟩),(.sl 0 true []),(.sl 0 true [])]),(2, .var 45 (zq o2))])
@[reducible] def v6 (o0:Reader) (o2:Node) (r:Except Int (Node × Reader)):Prop:=
  Ok Tryz.prog G tt 33 1 (exq (fun (r:Node × Reader)=>Ret Tryz.prog [.cell 2 45] (fun y H=>Qw Tryz.prog G 1 H y (.agg (zq r.1)) ⟨1, [(0, .var 130 (Reader.cells r.2))]⟩)) (fun e=>Z8 (flt e)) r) (.again (jj [3000023] Tryz.f154 0).1 (jj [3000023] Tryz.f154 0).2 (.n (.ptr 0 0 0) .z (.n (.ptr 1 1 0) (.n (.ptr 2 2 0) .z .z) .z)) 3 [(0, .var 130 (Reader.cells o0)),(1, .var 45 [(.int .i64 0),(.str ⟨#[]⟩),(.sl 0 true []),(.sl 0 true [])]),(2, .var 45 (zq o2))])
@[reducible] def um (t4:Bool) (o0:Reader) (o1_0:Int) (o1_1:BA) (o1_2:LB) (o1_3:LN) (r:Except Int (Reader × LB × LN)):Prop:=
  Ok Tryz.prog G tt 23 4 (exq (fun (r:Reader × LB × LN)=>Ret Tryz.prog [] (fun y H=>Qw Tryz.prog G 4 H y (.tup []) ⟨6, [(0, .var 130 (Reader.cells r.1)),(1, .var 45 [(.int .i64 o1_0),(.str o1_1),(.bs 1 2 4 0 r.2.1.length),(.bs 4 3 5 0 r.2.2.length)]),(4, .row 9 (r.2.1.map sc).flatten),(5, .row 45 (r.2.2.map Node.cells).flatten)]⟩)) (fun e=>Z8 (flt e)) r) (.again (jj [12] Tryz.f179 0).1 (jj [12] Tryz.f179 0).2 (.n (.ptr 0 0 0) (.n (.ptr 1 1 0) .z .z) (.n .undef (.n (.bool t4) .z .z) .z)) 7 [(0, .var 130 (Reader.cells o0)),(1, .var 45 [(.int .i64 o1_0),(.str o1_1),(.bs 1 2 5 0 o1_2.length),(.bs 4 3 6 0 o1_3.length)]),(5, .row 9 (o1_2.map sc).flatten),(6, .row 45 (o1_3.map Node.cells).flatten)])
@[reducible] def uc (o0:Reader) (o1_0:Int) (o1_1:BA) (o1_2:LB) (o1_3:LN) (r:Except Int (Reader × LB × LN)):Prop:=
  Ok Tryz.prog G tt 23 4 (exq (fun (r:Reader × LB × LN)=>Ret Tryz.prog [] (fun y H=>Qw Tryz.prog G 4 H y (.tup []) ⟨6, [(0, .var 130 (Reader.cells r.1)),(1, .var 45 [(.int .i64 o1_0),(.str o1_1),(.bs 1 2 4 0 r.2.1.length),(.bs 4 3 5 0 r.2.2.length)]),(4, .row 9 (r.2.1.map sc).flatten),(5, .row 45 (r.2.2.map Node.cells).flatten)]⟩)) (fun e=>Z8 (flt e)) r) (.go [] (w9 [12] Tryz.f179 12) [] (.n (.ptr 0 0 0) (.n (.ptr 1 1 0) .z .z) .z) 10 [(0, .var 130 (Reader.cells o0)),(1, .var 45 [(.int .i64 o1_0),(.str o1_1),(.bs 1 2 8 0 o1_2.length),(.bs 4 3 9 0 o1_3.length)]),(8, .row 9 (o1_2.map sc).flatten),(9, .row 45 (o1_3.map Node.cells).flatten)])
theorem jm:PC2 Qy qz∧PC3 vo jf∧PC1 Zf jr∧PC2 v6 ja∧PC5 vp zx∧PC6 um zv∧PC5 uc jp∧PC1 Ql yl:=by
 refine qz.mutual_partial_correctness Qy vo Zf v6 vp um uc Ql (fun qz jf jr qt wt j8 a0 a1 r h=> ?_) (fun qz jf qt wt t1 o0 o2 r h=> ?_) (fun jr ja yl j8 wy Qn a0 r h=> ?_) (fun ja zx wy yh o0 o2 r h=> ?_) (fun zv kq a0 a1 a2 a3 a4 r h=> ?_) (fun jp ue t4 o0 o1_0 o1_1 o1_2 o1_3 r h=> ?_) (fun qz zv qt kq o0 o1_0 o1_1 o1_2 o1_3 r h=> ?_) (fun qz zx qt yh a0 r h=> ?_)
 ·unfold qa at h
  refine Y7 (T:=tt) (N:=33) (rs:= [.cell 4 45]) (fun vs w=>by simp) Tryz.func125 rfl rfl rfl (by kernel_rfl) (by kernel_rfl) (kv rfl rfl kh) (zr zn) (fun r=>(ku rfl kg)) (fun r=>(zr zn)) (fun _=>rfl) (fun _=>rfl) rfl (fun _=>rfl) ?_
  refine kr [1000000] ?_
  refine qf (fun hb=> ?_) (fun hb=> ?_)
  ·replace h:=qx hb h
   refine kr [1000000] ?_
   obtain ⟨x1,hx,h⟩:=bind_some h
   rcases x1 with ee | x1
   ·replace h:some (.error ee)=some r:=h
    cases h
    exact q7 (FC.go (j8 _ _ hx) [0] [0] rfl rfl rfl rfl rfl rfl)
   refine qc (AC.g9 (j8 _ _ hx) [0] [0]) ?_
   refine kr [1000000] ?_
   cases h
   exact ya env rfl rfl (tS [some 0] (sV (lS (lS lN)) zt) (j4 (yn (qi (qh (zm rfl) rfl) (qi (qh (jw rfl) rfl) (qi (qh (wg (.inl rfl)) rfl) (qi (qh (wg (.inl rfl)) rfl) ym))))) (by simp)))
  replace h:=qy hb h
  refine kr [1000000] ?_
  obtain ⟨x2,hx,h⟩:=bind_some h
  rcases x2 with ee | x2
  ·replace h:some (.error ee)=some r:=h
   cases h
   exact q7 (FC.go (qt _ _ _ hx) [0] [0] rfl rfl rfl rfl rfl rfl)
  refine qc (AC.g9 (qt _ _ _ hx) [0] [0]) ?_
  refine kr [1000000] ?_
  exact jh (by kernel_rfl) lQ (wt _ _ _ _ h)
 ·unfold qa at h
  refine j7 ?_
  refine kr [1000000] ?_
  obtain ⟨x34,hx,h⟩:=bind_some h
  refine qc (AC.g9 (jc _ _ hx) [0] [0]) ?_
  refine kr [1000000] ?_
  obtain ⟨x35,hx,h⟩:=bind_some h
  refine qp (qk2 _ _ hx) ?_
  refine kr [1000000] ?_
  refine qf (fun hb=> ?_) (fun hb=> ?_)
  ·replace h:=qx hb h
   refine kr [1000000] ?_
   obtain ⟨x36,hx,h⟩:=bind_some h
   refine qc (ACalls.ghost (e:=45) (AC.g9 (yt _ _ _ hx) [0,3] [0,3])) ?_
   refine kr [1000000] ?_
   obtain ⟨x37,hx,h⟩:=bind_some h
   refine qc (AC.g9 (Yv _ _ _ _ _ _ hx) [4,3] [5,4]) ?_
   refine kr [1000000] ?_
   obtain ⟨x38,hx,h⟩:=bind_some h
   rcases x38 with ee | x38
   ·replace h:some (.error ee)=some r:=h
    cases h
    exact q7 (FC.go (qt _ _ _ hx) [0] [0] rfl rfl rfl rfl rfl rfl)
   refine qc (AC.g9 (qt _ _ _ hx) [0] [0]) ?_
   refine kr [1000000] ?_
   obtain ⟨x39,hx,h⟩:=bind_some h
   refine qc (AC.g9 (Yv _ _ _ _ _ _ hx) [4,3] [5,6]) ?_
   refine kr [1000000] ?_
   refine qf (fun hb=> ?_) (fun hb=> ?_)
   ·replace h:=qx hb h
    refine kr [1000000] ?_
    refine Ya 2 3 3 zd rfl rfl rfl rfl rfl rfl ?_
    exact qr (by kernel_rfl) rfl lQ (Z7 _ _ _ h)
   replace h:=qy hb h
   refine kr [1000000] ?_
   refine qjy 2 3 3 zd rfl rfl rfl rfl rfl ?_
   exact zy (by kernel_rfl) lQ (wt _ _ _ _ h)
  replace h:=qy hb h
  refine kr [1000000] ?_
  exact qr (by kernel_rfl) rfl lQ (Z7 _ _ _ h)
 ·unfold qa at h
  refine Y7 (T:=tt) (N:=33) (rs:= [.cell 2 45]) (fun vs w=>by simp) Tryz.func154 rfl rfl rfl (by kernel_rfl) (by kernel_rfl) (kv rfl rfl kh) (zr zn) (fun r=>(ku rfl kg)) (fun r=>(zr zn)) (fun _=>rfl) (fun _=>rfl) rfl (fun _=>rfl) ?_
  refine kr [3000023] ?_
  obtain ⟨x3,hx,h⟩:=bind_some h
  refine qc (AC.g9 (q6 _ _ _ hx) [0] [0]) ?_
  refine kr [3000023] ?_
  refine za (fun hb=> ?_) (fun hb=> ?_)
  ·replace h:=qy hb h
   refine kr [3000023] ?_
   obtain ⟨x4,hx,h⟩:=bind_some h
   refine qc (AC.g9 (q6 _ _ _ hx) [0] [0]) ?_
   refine kr [3000023] ?_
   refine qf (fun hb=> ?_) (fun hb=> ?_)
   ·replace h:=qx hb h
    refine kr [3000023] ?_
    obtain ⟨x5,hx,h⟩:=bind_some h
    refine qc (ACalls.ghost (e:=45) (AC.g9 (yt _ _ _ hx) [0,2] [0,2])) ?_
    refine kr [3000023] ?_
    obtain ⟨x6,hx,h⟩:=bind_some h
    rcases x6 with ee | x6
    ·replace h:some (.error ee)=some r:=h
     cases h
     exact q7 (FC.go (j8 _ _ hx) [0] [0] rfl rfl rfl rfl rfl rfl)
    refine qc (AC.g9 (j8 _ _ hx) [0] [0]) ?_
    refine kr [3000023] ?_
    obtain ⟨x7,hx,h⟩:=bind_some h
    refine qc (AC.g9 (Yv _ _ _ _ _ _ hx) [3,2] [4,3]) ?_
    refine kr [3000023] ?_
    cases h
    exact ya env rfl rfl (tS [some 0] (sV (lS (lS lN)) zt) (j4 (yn (qi (qh (zm rfl) rfl) (qi (qh (jw rfl) rfl) (qi (qh (wg (.inl rfl)) rfl) (qi (qh (jd zd rfl) rfl) ym))))) (by simp)))
   replace h:=qy hb h
   refine kr [3000023] ?_
   obtain ⟨x8,hx,h⟩:=bind_some h
   rcases x8 with ee | x8
   ·replace h:some (.error ee)=some r:=h
    cases h
    exact q7 (FC.go (Qn _ _ hx) [0] [0] rfl rfl rfl rfl rfl rfl)
   refine qc (AC.g9 (Qn _ _ hx) [0] [0]) ?_
   refine kr [3000023] ?_
   exact jh (by kernel_rfl) lQ (wy _ _ _ h)
  replace h:=qx hb h
  refine kr [3000023] ?_
  obtain ⟨x9,hx,h⟩:=bind_some h
  refine qc (ACalls.ghost (e:=45) (AC.g9 (yt _ _ _ hx) [0,2] [0,2])) ?_
  refine kr [3000023] ?_
  obtain ⟨x10,hx,h⟩:=bind_some h
  rcases x10 with ee | x10
  ·replace h:some (.error ee)=some r:=h
   cases h
   exact q7 (FC.go (j8 _ _ hx) [0] [0] rfl rfl rfl rfl rfl rfl)
  refine qc (AC.g9 (j8 _ _ hx) [0] [0]) ?_
  refine kr [3000023] ?_
  obtain ⟨x11,hx,h⟩:=bind_some h
  refine qc (AC.g9 (Yv _ _ _ _ _ _ hx) [3,2] [4,3]) ?_
  refine kr [3000023] ?_
  cases h
  exact ya env rfl rfl (tS [some 0] (sV (lS (lS lN)) zt) (j4 (yn (qi (qh (zm rfl) rfl) (qi (qh (jw rfl) rfl) (qi (qh (wg (.inl rfl)) rfl) (qi (qh (jd zd rfl) rfl) ym))))) (by simp)))
 ·unfold qa at h
  refine j7 ?_
  refine kr [3000023] ?_
  obtain ⟨x40,hx,h⟩:=bind_some h
  refine qc (AC.g9 (q6 _ _ _ hx) [0] [0]) ?_
  refine kr [3000023] ?_
  refine qf (fun hb=> ?_) (fun hb=> ?_)
  ·replace h:=qx hb h
   refine kr [3000023] ?_
   refine qxs (l:= [o2]) (C:=Node.cells) env rfl rfl rfl rfl rfl rfl (by simp only [List.map_cons,List.map_nil,Node.cells_eq];rfl) (by simp only [List.map_cons,List.map_nil,Node.cells_eq];rfl) rfl ?_
   refine kr [3000023] ?_
   obtain ⟨x41,hx,h⟩:=bind_some h
   rcases x41 with ee | x41
   ·replace h:some (.error ee)=some r:=h
    cases h
    exact q7 (FCalls.ghost (e:=9) (FCalls.wkg (FC.go (objs:= [(0, .var 130 (Reader.cells o0)),(1, .var 45 [(.int .i64 0),(.str ⟨#[]⟩),(.sl 0 true []),(.sl 0 true [])]),(2, .var 45 (zq o2)),(3, .row 45 (([o2]:LN).map Node.cells).flatten),(4, .var 45 [(.int .i64 (21:Int)),(.str ⟨#[]⟩),(.bs 1 5 5 0 ([]:LB).length),(.bs 4 3 3 0 ([o2]:LN).length)]),(5, .row 9 (([]:LB).map sc).flatten)]) (xs:= [(.ptr 0 0 0),(.ptr 4 4 0),(.str (⟨#[46]⟩:BA))]) (qb _ _ _ _ _ _ _ hx) [0,4,5,3] [0,4,5,3] rfl rfl rfl rfl rfl rfl) (qg (qq _) (qg (qq _) (qg (qq _) z6))) (qe (qe (qe (qe (jb (qd (qw _) (qd (qw _) (qd (zb rfl) (qd (qw _) jt)))) (zj _))))))))
   refine qc (ACalls.ghost (e:=9) (ACalls.wkg (AC.go (objs:= [(0, .var 130 (Reader.cells o0)),(1, .var 45 [(.int .i64 0),(.str ⟨#[]⟩),(.sl 0 true []),(.sl 0 true [])]),(2, .var 45 (zq o2)),(3, .row 45 (([o2]:LN).map Node.cells).flatten),(4, .var 45 [(.int .i64 (21:Int)),(.str ⟨#[]⟩),(.bs 1 5 5 0 ([]:LB).length),(.bs 4 3 3 0 ([o2]:LN).length)]),(5, .row 9 (([]:LB).map sc).flatten)]) (xs:= [(.ptr 0 0 0),(.ptr 4 4 0),(.str (⟨#[46]⟩:BA))]) (qb _ _ _ _ _ _ _ hx) [0,4,5,3] [0,4,5,3] rfl rfl rfl rfl rfl rfl rfl rfl rfl) (qg (qq _) (qg (qq _) (qg (qq _) z6))) (qe (qe (qe (qe (jb (qd (qw _) (qd (qw _) (qd (zb rfl) (qd (qw _) jt)))) (zj _)))))))) ?_
   refine kr [3000023] ?_
   obtain ⟨x42,hx,h⟩:=bind_some h
   rcases x42 with ee | x42
   ·replace h:some (.error ee)=some r:=h
    cases h
    exact q7 (FC.go (q8 _ _ _ _ _ _ hx) [0,4,5,3] [0,4,6,3] rfl rfl rfl rfl rfl rfl)
   refine qc (AC.g9 (q8 _ _ _ _ _ _ hx) [0,4,5,3] [0,4,6,3]) ?_
   refine kr [3000023] ?_
   obtain ⟨x43,hx,h⟩:=bind_some h
   rcases x43 with ee | x43
   ·replace h:some (.error ee)=some r:=h
    cases h
    exact q7 (FC.go (yh _ _ _ _ _ _ hx) [0,4,5,3] [0,4,7,3] rfl rfl rfl rfl rfl rfl)
   refine qc (AC.g9 (yh _ _ _ _ _ _ hx) [0,4,5,3] [0,4,7,3]) ?_
   refine kr [3000023] ?_
   refine qjy 2 2 5 y8 rfl rfl rfl rfl rfl ?_
   refine qjy 2 3 3 zd rfl rfl rfl rfl rfl ?_
   exact zy (by kernel_rfl) lQ (wy _ _ _ h)
  replace h:=qy hb h
  refine kr [3000023] ?_
  cases h
  exact ya env rfl rfl (tS [some 0] (sV (lS (lS lN)) zt) (j4 (yn (qi (qh (zm rfl) rfl) (qi (qh (jw rfl) rfl) (qi (qh (wg (.inl rfl)) rfl) (qi (qh (wg (.inl rfl)) rfl) ym))))) (by simp)))
 ·unfold qa at h
  refine Y7 (T:=tt) (N:=23) (rs:= []) (fun vs w=>by simp) Tryz.func179 rfl rfl rfl (by kernel_rfl) (by kernel_rfl) (kv rfl rfl (kv rfl rfl (Z5 y8 rfl (Z5 zd rfl kh)))) (zr (zr (kj y8 (kj zd zn)))) (fun r=>(ku rfl (ku rfl (Z3 y8 (Z3 zd kg))))) (fun r=>(zr (zr (kj y8 (kj zd zn))))) (fun _=>rfl) (fun _=>rfl) rfl (fun _=>rfl) ?_
  refine kr [12] ?_
  obtain ⟨x33,hx,h⟩:=bind_some h
  rcases x33 with ee | x33
  ·replace h:some (.error ee)=some r:=h
   cases h
   exact q7 (FC.go (qb _ _ _ _ _ _ _ hx) [0,1,2,3] [0,1,2,3] rfl rfl rfl rfl rfl rfl)
  refine qc (AC.g9 (qb _ _ _ _ _ _ _ hx) [0,1,2,3] [0,1,2,3]) ?_
  refine kr [12] ?_
  exact jh (by kernel_rfl) lQ (kq _ _ _ _ _ _ _ h)
 ·unfold qa at h
  refine j7 ?_
  refine kr [12] ?_
  obtain ⟨x44,hx,h⟩:=bind_some h
  refine qc (AC.g9 (q6 _ _ _ hx) [0] [0]) ?_
  refine kr [12] ?_
  refine qf (fun hb=> ?_) (fun hb=> ?_)
  ·replace h:=qx hb h
   refine kr [12] ?_
   refine qf (fun hb=> ?_) (fun hb=> ?_)
   ·replace h:=qx hb h
    refine kr [12] ?_
    obtain ⟨x45,hx,h⟩:=bind_some h
    rcases x45 with ee | x45
    ·replace h:some (.error ee)=some r:=h
     cases h
     exact q7 (FC.go (qb _ _ _ _ _ _ _ hx) [0,1,2,3] [0,1,5,6] rfl rfl rfl rfl rfl rfl)
    refine qc (AC.g9 (qb _ _ _ _ _ _ _ hx) [0,1,2,3] [0,1,5,6]) ?_
    refine kr [12] ?_
    exact qr (by kernel_rfl) rfl lQ (ue _ _ _ _ _ _ h)
   replace h:=qy hb h
   refine kr [12] ?_
   exact qr (by kernel_rfl) rfl lQ (ue _ _ _ _ _ _ h)
  replace h:=qy hb h
  refine kr [12] ?_
  obtain ⟨x46,hx,h⟩:=bind_some h
  rcases x46 with ee | x46
  ·replace h:some (.error ee)=some r:=h
   cases h
   exact q7 (FC.go (qb _ _ _ _ _ _ _ hx) [0,1,2,3] [0,1,5,6] rfl rfl rfl rfl rfl rfl)
  refine qc (AC.g9 (qb _ _ _ _ _ _ _ hx) [0,1,2,3] [0,1,5,6]) ?_
  refine kr [12] ?_
  cases h
  exact qbm env rfl (tS [some 0,some 1,some 2,some 3] (sV (lS (lS lN)) (sV (lS (lS (lS (lS lN)))) (sR y8 (sR zd zt)))) (qdc qbh))
 ·unfold qa at h
  refine kr [12] ?_
  obtain ⟨x47,hx,h⟩:=bind_some h
  rcases x47 with ee | x47
  ·replace h:some (.error ee)=some r:=h
   cases h
   exact q7 (FC.go (qt _ _ _ hx) [0] [0] rfl rfl rfl rfl rfl rfl)
  refine qc (AC.g9 (qt _ _ _ hx) [0] [0]) ?_
  refine kr [12] ?_
  obtain ⟨x48,hx,h⟩:=bind_some h
  refine qc (AC.g9 (zg _ _ _ _ _ _ hx) [1,2,3] [1,8,9]) ?_
  refine kr [12] ?_
  exact zy (by kernel_rfl) lQ (kq _ _ _ _ _ _ _ h)
 unfold qa at h
 refine Y7 (T:=tt) (N:=61) (rs:= [.cell 2 45]) (fun vs w=>by simp) Tryz.func178 rfl rfl rfl (by kernel_rfl) (by kernel_rfl) (kv rfl rfl kh) (zr zn) (fun r=>(ku rfl kg)) (fun r=>(zr zn)) (fun _=>rfl) (fun _=>rfl) rfl (fun _=>rfl) ?_
 refine kr [56] ?_
 obtain ⟨x12,hx,h⟩:=bind_some h
 refine qc (AC.g9 (jc _ _ hx) [0] [0]) ?_
 refine kr [56] ?_
 refine qf (fun hb=> ?_) (fun hb=> ?_)
 ·replace h:=qx hb h
  refine kr [56] ?_
  obtain ⟨x13,hx,h⟩:=bind_some h
  refine qc (ACalls.ghost (e:=45) (AC.g9 (yt _ _ _ hx) [0,3] [0,3])) ?_
  refine kr [56] ?_
  cases h
  exact ya env rfl rfl (tS [some 0] (sV (lS (lS lN)) zt) (j4 (yn (qi (qh (zm rfl) rfl) (qi (qh (jw rfl) rfl) (qi (qh (wg (.inl rfl)) rfl) (qi (qh (jd zd rfl) rfl) ym))))) (by simp)))
 replace h:=qy hb h
 refine kr [56] ?_
 obtain ⟨x14,hx,h⟩:=bind_some h
 refine qc (AC.g9 (q6 _ _ _ hx) [0] [0]) ?_
 refine kr [56] ?_
 refine qf (fun hb=> ?_) (fun hb=> ?_)
 ·replace h:=qx hb h
  refine kr [56] ?_
  obtain ⟨x15,hx,h⟩:=bind_some h
  refine qc (ACalls.ghost (e:=45) (AC.g9 (yt _ _ _ hx) [0,3] [0,3])) ?_
  refine kr [56] ?_
  cases h
  exact ya env rfl rfl (tS [some 0] (sV (lS (lS lN)) zt) (j4 (yn (qi (qh (zm rfl) rfl) (qi (qh (jw rfl) rfl) (qi (qh (wg (.inl rfl)) rfl) (qi (qh (jd zd rfl) rfl) ym))))) (by simp)))
 replace h:=qy hb h
 refine kr [56] ?_
 obtain ⟨x16,hx,h⟩:=bind_some h
 refine qc (AC.g9 (q6 _ _ _ hx) [0] [0]) ?_
 refine kr [56] ?_
 refine qf (fun hb=> ?_) (fun hb=> ?_)
 ·replace h:=qx hb h
  refine kr [56] ?_
  obtain ⟨x17,hx,h⟩:=bind_some h
  refine qc (ACalls.ghost (e:=45) (AC.g9 (yt _ _ _ hx) [0,3] [0,3])) ?_
  refine kr [56] ?_
  cases h
  exact ya env rfl rfl (tS [some 0] (sV (lS (lS lN)) zt) (j4 (yn (qi (qh (zm rfl) rfl) (qi (qh (jw rfl) rfl) (qi (qh (wg (.inl rfl)) rfl) (qi (qh (jd zd rfl) rfl) ym))))) (by simp)))
 replace h:=qy hb h
 refine kr [56] ?_
 obtain ⟨x18,hx,h⟩:=bind_some h
 refine qc (AC.g9 (q6 _ _ _ hx) [0] [0]) ?_
 refine kr [56] ?_
 refine qf (fun hb=> ?_) (fun hb=> ?_)
 ·replace h:=qx hb h
  refine kr [56] ?_
  obtain ⟨x19,hx,h⟩:=bind_some h
  refine qc (ACalls.ghost (e:=45) (AC.g9 (yt _ _ _ hx) [0,3] [0,3])) ?_
  refine kr [56] ?_
  cases h
  exact ya env rfl rfl (tS [some 0] (sV (lS (lS lN)) zt) (j4 (yn (qi (qh (zm rfl) rfl) (qi (qh (jw rfl) rfl) (qi (qh (wg (.inl rfl)) rfl) (qi (qh (jd zd rfl) rfl) ym))))) (by simp)))
 replace h:=qy hb h
 refine kr [56] ?_
 obtain ⟨x20,hx,h⟩:=bind_some h
 refine qc (AC.g9 (q6 _ _ _ hx) [0] [0]) ?_
 refine kr [56] ?_
 refine qf (fun hb=> ?_) (fun hb=> ?_)
 ·replace h:=qx hb h
  refine kr [56] ?_
  obtain ⟨x21,hx,h⟩:=bind_some h
  rcases x21 with ee | x21
  ·replace h:some (.error ee)=some r:=h
   cases h
   exact q7 (FCalls.ghost (e:=9) (FCalls.ghost (e:=45) (FCalls.wkg (FC.go (objs:= [(0, .var 130 (Reader.cells a0)),(1, .var 45 [(.int .i64 0),(.str ⟨#[]⟩),(.sl 0 true []),(.sl 0 true [])]),(2, .var 118 (Token.cells x12)),(3, .var 45 [(.int .i64 (22:Int)),(.str ⟨#[]⟩),(.bs 1 4 4 0 ([]:LB).length),(.bs 4 5 5 0 ([]:LN).length)]),(4, .row 9 (([]:LB).map sc).flatten),(5, .row 45 (([]:LN).map Node.cells).flatten)]) (xs:= [(.ptr 0 0 0),(.ptr 3 3 0),(.str (⟨#[110,101,119]⟩:BA))]) (qb _ _ _ _ _ _ _ hx) [0,3,4,5] [0,3,4,5] rfl rfl rfl rfl rfl rfl) (qg (qq _) (qg (qq _) (qg (qq _) z6))) (qe (qe (qe (jb (qd (qw _) (qd (qw _) (qd (zb rfl) (qd (zb rfl) jt)))) (zj _))))))))
  refine qc (ACalls.ghost (e:=9) (ACalls.ghost (e:=45) (ACalls.wkg (AC.go (objs:= [(0, .var 130 (Reader.cells a0)),(1, .var 45 [(.int .i64 0),(.str ⟨#[]⟩),(.sl 0 true []),(.sl 0 true [])]),(2, .var 118 (Token.cells x12)),(3, .var 45 [(.int .i64 (22:Int)),(.str ⟨#[]⟩),(.bs 1 4 4 0 ([]:LB).length),(.bs 4 5 5 0 ([]:LN).length)]),(4, .row 9 (([]:LB).map sc).flatten),(5, .row 45 (([]:LN).map Node.cells).flatten)]) (xs:= [(.ptr 0 0 0),(.ptr 3 3 0),(.str (⟨#[110,101,119]⟩:BA))]) (qb _ _ _ _ _ _ _ hx) [0,3,4,5] [0,3,4,5] rfl rfl rfl rfl rfl rfl rfl rfl rfl) (qg (qq _) (qg (qq _) (qg (qq _) z6))) (qe (qe (qe (jb (qd (qw _) (qd (qw _) (qd (zb rfl) (qd (zb rfl) jt)))) (zj _)))))))) ?_
  refine kr [56] ?_
  obtain ⟨x22,hx,h⟩:=bind_some h
  rcases x22 with ee | x22
  ·replace h:some (.error ee)=some r:=h
   cases h
   exact q7 (FC.go (q8 _ _ _ _ _ _ hx) [0,3,4,5] [0,3,6,5] rfl rfl rfl rfl rfl rfl)
  refine qc (AC.g9 (q8 _ _ _ _ _ _ hx) [0,3,4,5] [0,3,6,5]) ?_
  refine kr [56] ?_
  obtain ⟨x23,hx,h⟩:=bind_some h
  rcases x23 with ee | x23
  ·replace h:some (.error ee)=some r:=h
   cases h
   exact q7 (FC.go (qb _ _ _ _ _ _ _ hx) [0,3,4,5] [0,3,7,5] rfl rfl rfl rfl rfl rfl)
  refine qc (AC.g9 (qb _ _ _ _ _ _ _ hx) [0,3,4,5] [0,3,7,5]) ?_
  refine kr [56] ?_
  obtain ⟨x24,hx,h⟩:=bind_some h
  rcases x24 with ee | x24
  ·replace h:some (.error ee)=some r:=h
   cases h
   exact q7 (FC.go (qb _ _ _ _ _ _ _ hx) [0,3,4,5] [0,3,8,5] rfl rfl rfl rfl rfl rfl)
  refine qc (AC.g9 (qb _ _ _ _ _ _ _ hx) [0,3,4,5] [0,3,8,5]) ?_
  refine kr [56] ?_
  cases h
  exact ya env rfl rfl (tS [some 0] (sV (lS (lS lN)) zt) (j4 (yn (qi (qh (zm rfl) rfl) (qi (qh (jw rfl) rfl) (qi (qh (jd y8 rfl) rfl) (qi (qh (jd zd rfl) rfl) ym))))) (by simp)))
 replace h:=qy hb h
 refine kr [56] ?_
 obtain ⟨x25,hx,h⟩:=bind_some h
 refine qc (AC.g9 (q6 _ _ _ hx) [0] [0]) ?_
 refine kr [56] ?_
 refine qf (fun hb=> ?_) (fun hb=> ?_)
 ·replace h:=qx hb h
  refine kr [56] ?_
  obtain ⟨x26,hx,h⟩:=bind_some h
  rcases x26 with ee | x26
  ·replace h:some (.error ee)=some r:=h
   cases h
   exact q7 (FCalls.ghost (e:=9) (FCalls.ghost (e:=45) (FCalls.wkg (FC.go (objs:= [(0, .var 130 (Reader.cells a0)),(1, .var 45 [(.int .i64 0),(.str ⟨#[]⟩),(.sl 0 true []),(.sl 0 true [])]),(2, .var 118 (Token.cells x12)),(3, .var 45 [(.int .i64 (26:Int)),(.str ⟨#[]⟩),(.bs 1 4 4 0 ([]:LB).length),(.bs 4 5 5 0 ([]:LN).length)]),(4, .row 9 (([]:LB).map sc).flatten),(5, .row 45 (([]:LN).map Node.cells).flatten)]) (xs:= [(.ptr 0 0 0),(.ptr 3 3 0),(.str (⟨#[40]⟩:BA))]) (qb _ _ _ _ _ _ _ hx) [0,3,4,5] [0,3,4,5] rfl rfl rfl rfl rfl rfl) (qg (qq _) (qg (qq _) (qg (qq _) z6))) (qe (qe (qe (jb (qd (qw _) (qd (qw _) (qd (zb rfl) (qd (zb rfl) jt)))) (zj _))))))))
  refine qc (ACalls.ghost (e:=9) (ACalls.ghost (e:=45) (ACalls.wkg (AC.go (objs:= [(0, .var 130 (Reader.cells a0)),(1, .var 45 [(.int .i64 0),(.str ⟨#[]⟩),(.sl 0 true []),(.sl 0 true [])]),(2, .var 118 (Token.cells x12)),(3, .var 45 [(.int .i64 (26:Int)),(.str ⟨#[]⟩),(.bs 1 4 4 0 ([]:LB).length),(.bs 4 5 5 0 ([]:LN).length)]),(4, .row 9 (([]:LB).map sc).flatten),(5, .row 45 (([]:LN).map Node.cells).flatten)]) (xs:= [(.ptr 0 0 0),(.ptr 3 3 0),(.str (⟨#[40]⟩:BA))]) (qb _ _ _ _ _ _ _ hx) [0,3,4,5] [0,3,4,5] rfl rfl rfl rfl rfl rfl rfl rfl rfl) (qg (qq _) (qg (qq _) (qg (qq _) z6))) (qe (qe (qe (jb (qd (qw _) (qd (qw _) (qd (zb rfl) (qd (zb rfl) jt)))) (zj _)))))))) ?_
  refine kr [56] ?_
  obtain ⟨x27,hx,h⟩:=bind_some h
  rcases x27 with ee | x27
  ·replace h:some (.error ee)=some r:=h
   cases h
   exact q7 (FC.go (qt _ _ _ hx) [0] [0] rfl rfl rfl rfl rfl rfl)
  refine qc (AC.g9 (qt _ _ _ hx) [0] [0]) ?_
  refine kr [56] ?_
  obtain ⟨x28,hx,h⟩:=bind_some h
  refine qc (AC.g9 (zg _ _ _ _ _ _ hx) [3,4,5] [3,6,5]) ?_
  refine kr [56] ?_
  obtain ⟨x29,hx,h⟩:=bind_some h
  rcases x29 with ee | x29
  ·replace h:some (.error ee)=some r:=h
   cases h
   exact q7 (FC.go (qb _ _ _ _ _ _ _ hx) [0,3,4,5] [0,3,6,7] rfl rfl rfl rfl rfl rfl)
  refine qc (AC.g9 (qb _ _ _ _ _ _ _ hx) [0,3,4,5] [0,3,6,7]) ?_
  refine kr [56] ?_
  cases h
  exact ya env rfl rfl (tS [some 0] (sV (lS (lS lN)) zt) (j4 (yn (qi (qh (zm rfl) rfl) (qi (qh (jw rfl) rfl) (qi (qh (jd y8 rfl) rfl) (qi (qh (jd zd rfl) rfl) ym))))) (by simp)))
 replace h:=qy hb h
 refine kr [56] ?_
 obtain ⟨x30,hx,h⟩:=bind_some h
 rcases x30 with ee | x30
 ·replace h:some (.error ee)=some r:=h
  cases h
  exact q7 (FCalls.ghost (e:=9) (FCalls.ghost (e:=45) (FCalls.wkg (FC.go (objs:= [(0, .var 130 (Reader.cells a0)),(1, .var 45 [(.int .i64 0),(.str ⟨#[]⟩),(.sl 0 true []),(.sl 0 true [])]),(2, .var 118 (Token.cells x12)),(3, .var 45 [(.int .i64 (19:Int)),(.str ⟨#[]⟩),(.bs 1 4 4 0 ([]:LB).length),(.bs 4 5 5 0 ([]:LN).length)]),(4, .row 9 (([]:LB).map sc).flatten),(5, .row 45 (([]:LN).map Node.cells).flatten)]) (xs:= [(.ptr 0 0 0),(.ptr 3 3 0)]) (q8 _ _ _ _ _ _ hx) [0,3,4,5] [0,3,4,5] rfl rfl rfl rfl rfl rfl) (qg (qq _) (qg (qq _) z6)) (qe (qe (qe (jb (qd (qw _) (qd (qw _) (qd (zb rfl) (qd (zb rfl) jt)))) (zj _))))))))
 refine qc (ACalls.ghost (e:=9) (ACalls.ghost (e:=45) (ACalls.wkg (AC.go (objs:= [(0, .var 130 (Reader.cells a0)),(1, .var 45 [(.int .i64 0),(.str ⟨#[]⟩),(.sl 0 true []),(.sl 0 true [])]),(2, .var 118 (Token.cells x12)),(3, .var 45 [(.int .i64 (19:Int)),(.str ⟨#[]⟩),(.bs 1 4 4 0 ([]:LB).length),(.bs 4 5 5 0 ([]:LN).length)]),(4, .row 9 (([]:LB).map sc).flatten),(5, .row 45 (([]:LN).map Node.cells).flatten)]) (xs:= [(.ptr 0 0 0),(.ptr 3 3 0)]) (q8 _ _ _ _ _ _ hx) [0,3,4,5] [0,3,4,5] rfl rfl rfl rfl rfl rfl rfl rfl rfl) (qg (qq _) (qg (qq _) z6)) (qe (qe (qe (jb (qd (qw _) (qd (qw _) (qd (zb rfl) (qd (zb rfl) jt)))) (zj _)))))))) ?_
 refine kr [56] ?_
 obtain ⟨x31,hx,h⟩:=bind_some h
 refine qc (AC.g9 (q6 _ _ _ hx) [0] [0]) ?_
 refine kr [56] ?_
 refine qf (fun hb=> ?_) (fun hb=> ?_)
 ·replace h:=qx hb h
  refine kr [56] ?_
  obtain ⟨x32,hx,h⟩:=bind_some h
  rcases x32 with ee | x32
  ·replace h:some (.error ee)=some r:=h
   cases h
   exact q7 (FC.go (yh _ _ _ _ _ _ hx) [0,3,4,5] [0,3,6,5] rfl rfl rfl rfl rfl rfl)
  refine qc (AC.g9 (yh _ _ _ _ _ _ hx) [0,3,4,5] [0,3,6,5]) ?_
  refine kr [56] ?_
  exact qr (by kernel_rfl) rfl lQ (Zq _ _ _ _ _ _ h)
 replace h:=qy hb h
 refine kr [56] ?_
 exact qr (by kernel_rfl) rfl lQ (Zq _ _ _ _ _ _ h)
theorem qt:PC2 Qy qz:=jm.1
theorem wt:PC3 vo jf:=jm.2.1
theorem j8:PC1 Zf jr:=jm.2.2.1
theorem wy:PC2 v6 ja:=jm.2.2.2.1
theorem yh:PC5 vp zx:=jm.2.2.2.2.1
theorem kq:PC6 um zv:=jm.2.2.2.2.2.1
theorem ue:PC5 uc jp:=jm.2.2.2.2.2.2.1
theorem Qn:PC1 Ql yl:=jm.2.2.2.2.2.2.2
def wc (a0:Reader) (a1:Int) (a2:BA):Option (Except Int (Node × Reader)):=
 qj a0 a1 (⟨#[]⟩) ([]:LB) ([]:LN) a2 >>=fun x1=>
 match x1 with
 | .error ee=>some (.error ee)
 | .ok x1=>
 zp x1.1 a1 (⟨#[]⟩) x1.2 ([]:LN) >>=fun x2=>
 match x2 with
 | .error ee=>some (.error ee)
 | .ok x2=>
 qj x2.1 a1 x2.2.1 x2.2.2 ([]:LN) (⟨#[61]⟩:BA) >>=fun x3=>
 match x3 with
 | .error ee=>some (.error ee)
 | .ok x3=>
 qz x3.1 (1:Int) >>=fun x4=>
 match x4 with
 | .error ee=>some (.error ee)
 | .ok x4=>
 zf a1 x2.2.1 x3.2 ([]:LN) x4.1 >>=fun x5=>
 qj x4.2 a1 x2.2.1 x3.2 x5 (⟨#[59]⟩:BA) >>=fun x6=>
 match x6 with
 | .error ee=>some (.error ee)
 | .ok x6=>
 some (.ok ((Node.mk a1 x2.2.1 x6.2 x5),x6.1))
@[reducible] def qc5 (a0:Reader) (a1:Int) (a2:BA) (r:Except Int (Node × Reader)):Prop:=
  exq (fun (r:Node × Reader)=>AC Tryz.prog G 85 [(.ptr 0 0 0),(.int .i64 a1),(.str a2)] 1 [(0, .var 130 (Reader.cells a0))] (.agg (zq r.1)) 1 [(0, .var 130 (Reader.cells r.2))]) (fun e=>FC Tryz.prog G 85 [(.ptr 0 0 0),(.int .i64 a1),(.str a2)] 1 [(0, .var 130 (Reader.cells a0))] (flt e)) r
theorem u4:PC3 qc5 wc:=fun a0 a1 a2 r h=>by
 rw [wc.eq_def] at h
 refine Y7 (T:=tt) (N:=23) (rs:= [.cell 6 45]) (fun vs w=>by simp) Tryz.func85 rfl rfl rfl (by kernel_rfl) (by kernel_rfl) (kv rfl rfl kh) (zr zn) (fun r=>(ku rfl kg)) (fun r=>(zr zn)) (fun _=>rfl) (fun _=>rfl) rfl (fun _=>rfl) ?_
 refine kr [] ?_
 obtain ⟨x1,hx,h⟩:=bind_some h
 rcases x1 with ee | x1
 ·replace h:some (.error ee)=some r:=h
  cases h
  exact q7 (FCalls.ghost (e:=9) (FCalls.ghost (e:=45) (FCalls.wkg (FC.go (objs:= [(0, .var 130 (Reader.cells a0)),(1, .var 45 [(.int .i64 0),(.str ⟨#[]⟩),(.sl 0 true []),(.sl 0 true [])]),(2, .var 45 [(.int .i64 a1),(.str ⟨#[]⟩),(.bs 1 3 3 0 ([]:LB).length),(.bs 4 4 4 0 ([]:LN).length)]),(3, .row 9 (([]:LB).map sc).flatten),(4, .row 45 (([]:LN).map Node.cells).flatten)]) (xs:= [(.ptr 0 0 0),(.ptr 2 2 0),(.str a2)]) (qb _ _ _ _ _ _ _ hx) [0,2,3,4] [0,2,3,4] rfl rfl rfl rfl rfl rfl) (qg (qq _) (qg (qq _) (qg (qq _) z6))) (qe (qe (jb (qd (qw _) (qd (qw _) (qd (zb rfl) (qd (zb rfl) jt)))) (zj _)))))))
 refine qc (ACalls.ghost (e:=9) (ACalls.ghost (e:=45) (ACalls.wkg (AC.go (objs:= [(0, .var 130 (Reader.cells a0)),(1, .var 45 [(.int .i64 0),(.str ⟨#[]⟩),(.sl 0 true []),(.sl 0 true [])]),(2, .var 45 [(.int .i64 a1),(.str ⟨#[]⟩),(.bs 1 3 3 0 ([]:LB).length),(.bs 4 4 4 0 ([]:LN).length)]),(3, .row 9 (([]:LB).map sc).flatten),(4, .row 45 (([]:LN).map Node.cells).flatten)]) (xs:= [(.ptr 0 0 0),(.ptr 2 2 0),(.str a2)]) (qb _ _ _ _ _ _ _ hx) [0,2,3,4] [0,2,3,4] rfl rfl rfl rfl rfl rfl rfl rfl rfl) (qg (qq _) (qg (qq _) (qg (qq _) z6))) (qe (qe (jb (qd (qw _) (qd (qw _) (qd (zb rfl) (qd (zb rfl) jt)))) (zj _))))))) ?_
 refine kr [] ?_
 obtain ⟨x2,hx,h⟩:=bind_some h
 rcases x2 with ee | x2
 ·replace h:some (.error ee)=some r:=h
  cases h
  exact q7 (FC.go (q8 _ _ _ _ _ _ hx) [0,2,3,4] [0,2,5,4] rfl rfl rfl rfl rfl rfl)
 refine qc (AC.g9 (q8 _ _ _ _ _ _ hx) [0,2,3,4] [0,2,5,4]) ?_
 refine kr [] ?_
 obtain ⟨x3,hx,h⟩:=bind_some h
 rcases x3 with ee | x3
 ·replace h:some (.error ee)=some r:=h
  cases h
  exact q7 (FC.go (qb _ _ _ _ _ _ _ hx) [0,2,3,4] [0,2,6,4] rfl rfl rfl rfl rfl rfl)
 refine qc (AC.g9 (qb _ _ _ _ _ _ _ hx) [0,2,3,4] [0,2,6,4]) ?_
 refine kr [] ?_
 obtain ⟨x4,hx,h⟩:=bind_some h
 rcases x4 with ee | x4
 ·replace h:some (.error ee)=some r:=h
  cases h
  exact q7 (FC.go (qt _ _ _ hx) [0] [0] rfl rfl rfl rfl rfl rfl)
 refine qc (AC.g9 (qt _ _ _ hx) [0] [0]) ?_
 refine kr [] ?_
 obtain ⟨x5,hx,h⟩:=bind_some h
 refine qc (AC.g9 (zg _ _ _ _ _ _ hx) [2,3,4] [2,7,4]) ?_
 refine kr [] ?_
 obtain ⟨x6,hx,h⟩:=bind_some h
 rcases x6 with ee | x6
 ·replace h:some (.error ee)=some r:=h
  cases h
  exact q7 (FC.go (qb _ _ _ _ _ _ _ hx) [0,2,3,4] [0,2,7,8] rfl rfl rfl rfl rfl rfl)
 refine qc (AC.g9 (qb _ _ _ _ _ _ _ hx) [0,2,3,4] [0,2,7,8]) ?_
 refine kr [] ?_
 cases h
 exact ya env rfl rfl (tS [some 0] (sV (lS (lS lN)) zt) (j4 (yn (qi (qh (zm rfl) rfl) (qi (qh (jw rfl) rfl) (qi (qh (jd y8 rfl) rfl) (qi (qh (jd zd rfl) rfl) ym))))) (by simp)))
def j9 (o0:Reader) (o2_0:Int) (o2_1:BA) (o2_2:LB) (o2_3:LN) (o5:Node):Option (Except Int (Node × Reader)):=
 zf o2_0 o2_1 o2_2 o2_3 o5 >>=fun x37=>
 some (.ok ((Node.mk o2_0 o2_1 o2_2 x37),o0))
@[reducible] def Kz (o0:Reader) (o2_0:Int) (o2_1:BA) (o2_2:LB) (o2_3:LN) (o5:Node) (r:Except Int (Node × Reader)):Prop:=
  Ok Tryz.prog G tt 106 1 (exq (fun (r:Node × Reader)=>Ret Tryz.prog [.cell 2 45] (fun y H=>Qw Tryz.prog G 1 H y (.agg (zq r.1)) ⟨1, [(0, .var 130 (Reader.cells r.2))]⟩)) (fun e=>Z8 (flt e)) r) (.go [] (w9 [41,87] Tryz.f153 41) [] (.n .undef (.n .undef .z (.n (.ptr 5 8 0) .z .z)) (.n (.ptr 1 1 0) (.n (.ptr 2 2 0) .z .z) .z)) 13 [(0, .var 130 (Reader.cells o0)),(1, .var 45 [(.int .i64 0),(.str ⟨#[]⟩),(.sl 0 true []),(.sl 0 true [])]),(2, .var 45 [(.int .i64 o2_0),(.str o2_1),(.bs 1 3 5 0 o2_2.length),(.bs 4 4 7 0 o2_3.length)]),(5, .row 9 (o2_2.map sc).flatten),(7, .row 45 (o2_3.map Node.cells).flatten),(8, .var 45 (zq o5))])
theorem Za:PC6 Kz j9:=fun o0 o2_0 o2_1 o2_2 o2_3 o5 r h=>by
 rw [j9.eq_def] at h
 refine kr [41,87] ?_
 obtain ⟨x37,hx,h⟩:=bind_some h
 refine qc (AC.g9 (zg _ _ _ _ _ _ hx) [2,3,4] [2,5,7]) ?_
 refine kr [41,87] ?_
 cases h
 exact ya env rfl rfl (tS [some 0] (sV (lS (lS lN)) zt) (j4 (yn (qi (qh (zm rfl) rfl) (qi (qh (jw rfl) rfl) (qi (qh (jd y8 rfl) rfl) (qi (qh (jd zd rfl) rfl) ym))))) (by simp)))
def jo (o0:Reader):Option (Except Int (Node × Reader)):=
 qz o0 (1:Int) >>=fun x38=>
 match x38 with
 | .error ee=>some (.error ee)
 | .ok x38=>
 zf (16:Int) (⟨#[]⟩) ([]:LB) ([]:LN) x38.1 >>=fun x39=>
 qj x38.2 (16:Int) (⟨#[]⟩) ([]:LB) x39 (⟨#[59]⟩:BA) >>=fun x40=>
 match x40 with
 | .error ee=>some (.error ee)
 | .ok x40=>
 some (.ok ((Node.mk (16:Int) (⟨#[]⟩) x40.2 x39),x40.1))
@[reducible] def Ky (o0:Reader) (r:Except Int (Node × Reader)):Prop:=
  Ok Tryz.prog G tt 106 1 (exq (fun (r:Node × Reader)=>Ret Tryz.prog [.cell 2 45] (fun y H=>Qw Tryz.prog G 1 H y (.agg (zq r.1)) ⟨1, [(0, .var 130 (Reader.cells r.2))]⟩)) (fun e=>Z8 (flt e)) r) (.go [] (w9 [41,87] Tryz.f153 87) [] (.n (.ptr 0 0 0) .z (.n (.ptr 1 1 0) .z .z)) 3 [(0, .var 130 (Reader.cells o0)),(1, .var 45 [(.int .i64 0),(.str ⟨#[]⟩),(.sl 0 true []),(.sl 0 true [])])])
theorem ud:PC1 Ky jo:=fun o0 r h=>by
 rw [jo.eq_def] at h
 refine kr [41,87] ?_
 obtain ⟨x38,hx,h⟩:=bind_some h
 rcases x38 with ee | x38
 ·replace h:some (.error ee)=some r:=h
  cases h
  exact q7 (FC.go (qt _ _ _ hx) [0] [0] rfl rfl rfl rfl rfl rfl)
 refine qc (AC.g9 (qt _ _ _ hx) [0] [0]) ?_
 refine kr [41,87] ?_
 obtain ⟨x39,hx,h⟩:=bind_some h
 refine qc (ACalls.ghost (e:=9) (ACalls.ghost (e:=45) (ACalls.wkg (AC.go (objs:= [(0, .var 130 (Reader.cells x38.2)),(1, .var 45 [(.int .i64 0),(.str ⟨#[]⟩),(.sl 0 true []),(.sl 0 true [])]),(3, .var 45 [(.int .i64 (16:Int)),(.str ⟨#[]⟩),(.bs 1 3 4 0 ([]:LB).length),(.bs 4 4 5 0 ([]:LN).length)]),(4, .row 9 (([]:LB).map sc).flatten),(5, .row 45 (([]:LN).map Node.cells).flatten)]) (xs:= [(.ptr 2 3 0),(.agg (zq x38.1))]) (zg _ _ _ _ _ _ hx) [2,3,4] [3,4,5] rfl rfl rfl rfl rfl rfl rfl rfl rfl) (qg (qq _) (qg (qq _) z6)) (qe (qe (jb (qd (qw _) (qd (qw _) (qd (zb rfl) (qd (zb rfl) jt)))) (zj _))))))) ?_
 refine kr [41,87] ?_
 obtain ⟨x40,hx,h⟩:=bind_some h
 rcases x40 with ee | x40
 ·replace h:some (.error ee)=some r:=h
  cases h
  exact q7 (FC.go (qb _ _ _ _ _ _ _ hx) [0,2,3,4] [0,3,4,6] rfl rfl rfl rfl rfl rfl)
 refine qc (AC.g9 (qb _ _ _ _ _ _ _ hx) [0,2,3,4] [0,3,4,6]) ?_
 refine kr [41,87] ?_
 cases h
 exact ya env rfl rfl (tS [some 0] (sV (lS (lS lN)) zt) (j4 (yn (qi (qh (zm rfl) rfl) (qi (qh (jw rfl) rfl) (qi (qh (jd y8 rfl) rfl) (qi (qh (jd zd rfl) rfl) ym))))) (by simp)))
mutual
def zu (a0:Reader):Option (Except Int (Node × Reader)):=
 qj (qa a0) (6:Int) (⟨#[]⟩) ([]:LB) ([]:LN) (⟨#[123]⟩:BA) >>=fun x1=>
 match x1 with
 | .error ee=>some (.error ee)
 | .ok x1=>
 ji x1.1 (6:Int) (⟨#[]⟩) x1.2 ([]:LN)
 partial_fixpoint
def ju (a0:Reader):Option (Except Int (Node × Reader)):=
 q4 (qa a0) (⟨#[108,101,116]⟩:BA) >>=fun x2=>
 if x2=true then
  wc (qa a0) (10:Int) (⟨#[108,101,116]⟩:BA) >>=fun x3=>
  match x3 with
  | .error ee=>some (.error ee)
  | .ok x3=>
  some (.ok (x3.1,x3.2))
 else
  q4 (qa a0) (⟨#[114,101,116,117,114,110]⟩:BA) >>=fun x4=>
  if x4=true then
   qj (qa a0) (12:Int) (⟨#[]⟩) ([]:LB) ([]:LN) (⟨#[114,101,116,117,114,110]⟩:BA) >>=fun x5=>
   match x5 with
   | .error ee=>some (.error ee)
   | .ok x5=>
   qz x5.1 (1:Int) >>=fun x6=>
   match x6 with
   | .error ee=>some (.error ee)
   | .ok x6=>
   zf (12:Int) (⟨#[]⟩) x5.2 ([]:LN) x6.1 >>=fun x7=>
   qj x6.2 (12:Int) (⟨#[]⟩) x5.2 (qa x7) (⟨#[59]⟩:BA) >>=fun x8=>
   match x8 with
   | .error ee=>some (.error ee)
   | .ok x8=>
   some (.ok ((Node.mk (12:Int) (⟨#[]⟩) x8.2 x7),x8.1))
  else
   q4 (qa a0) (⟨#[105,102]⟩:BA) >>=fun x9=>
   if x9=true then
    qj (qa a0) (13:Int) (⟨#[]⟩) ([]:LB) ([]:LN) (⟨#[105,102]⟩:BA) >>=fun x10=>
    match x10 with
    | .error ee=>some (.error ee)
    | .ok x10=>
    qz x10.1 (1:Int) >>=fun x11=>
    match x11 with
    | .error ee=>some (.error ee)
    | .ok x11=>
    zf (13:Int) (⟨#[]⟩) x10.2 ([]:LN) x11.1 >>=fun x12=>
    zu x11.2 >>=fun x13=>
    match x13 with
    | .error ee=>some (.error ee)
    | .ok x13=>
    zf (13:Int) (⟨#[]⟩) x10.2 (qa x12) x13.1 >>=fun x14=>
    q4 x13.2 (⟨#[101,108,115,101]⟩:BA) >>=fun x15=>
    if x15=true then
     qj x13.2 (14:Int) (⟨#[]⟩) ([]:LB) ([]:LN) (⟨#[101,108,115,101]⟩:BA) >>=fun x16=>
     match x16 with
     | .error ee=>some (.error ee)
     | .ok x16=>
     zu x16.1 >>=fun x17=>
     match x17 with
     | .error ee=>some (.error ee)
     | .ok x17=>
     zf (14:Int) (⟨#[]⟩) x16.2 ([]:LN) x17.1 >>=fun x18=>
     j9 x17.2 (13:Int) (⟨#[]⟩) x10.2 (qa x14) (Node.mk (14:Int) (⟨#[]⟩) x16.2 x18)
    else
     j9 x13.2 (13:Int) (⟨#[]⟩) x10.2 (qa x14) (Node.mk (14:Int) (⟨#[]⟩) ([]:LB) ([]:LN))
   else
    q4 (qa a0) (⟨#[119,104,105,108,101]⟩:BA) >>=fun x19=>
    if x19=true then
     qj (qa a0) (15:Int) (⟨#[]⟩) ([]:LB) ([]:LN) (⟨#[119,104,105,108,101]⟩:BA) >>=fun x20=>
     match x20 with
     | .error ee=>some (.error ee)
     | .ok x20=>
     qz x20.1 (1:Int) >>=fun x21=>
     match x21 with
     | .error ee=>some (.error ee)
     | .ok x21=>
     zf (15:Int) (⟨#[]⟩) x20.2 ([]:LN) x21.1 >>=fun x22=>
     zu x21.2 >>=fun x23=>
     match x23 with
     | .error ee=>some (.error ee)
     | .ok x23=>
     zf (15:Int) (⟨#[]⟩) x20.2 (qa x22) x23.1 >>=fun x24=>
     some (.ok ((Node.mk (15:Int) (⟨#[]⟩) x20.2 x24),x23.2))
    else
     zl (qa a0) >>=fun x25=>
     if (decide (x25.Kind=(1:Int)))=true then
      Wa x25.Text >>=fun x26=>
      if x26=true then
       ix a0.l_ (IntKind.i64.wrap (a0.at_+(1:Int))) >>=fun x27=>
       if (decide (x27.Text=(⟨#[61]⟩:BA)))=true then
        zp (qa a0) (11:Int) (⟨#[]⟩) ([]:LB) ([]:LN) >>=fun x28=>
        match x28 with
        | .error ee=>some (.error ee)
        | .ok x28=>
        qj x28.1 (11:Int) x28.2.1 x28.2.2 ([]:LN) (⟨#[61]⟩:BA) >>=fun x29=>
        match x29 with
        | .error ee=>some (.error ee)
        | .ok x29=>
        qz x29.1 (1:Int) >>=fun x30=>
        match x30 with
        | .error ee=>some (.error ee)
        | .ok x30=>
        zf (11:Int) x28.2.1 x29.2 ([]:LN) x30.1 >>=fun x31=>
        qj x30.2 (11:Int) x28.2.1 x29.2 (qa x31) (⟨#[59]⟩:BA) >>=fun x32=>
        match x32 with
        | .error ee=>some (.error ee)
        | .ok x32=>
        some (.ok ((Node.mk (11:Int) x28.2.1 x32.2 x31),x32.1))
       else
        jo (qa a0)
      else
       jo (qa a0)
     else
      jo (qa a0)
 partial_fixpoint
def ji (o0:Reader) (o2_0:Int) (o2_1:BA) (o2_2:LB) (o2_3:LN):Option (Except Int (Node × Reader)):=
 q4 (qa o0) (⟨#[125]⟩:BA) >>=fun x33=>
 if (!x33)=true then
  ju (qa o0) >>=fun x34=>
  match x34 with
  | .error ee=>some (.error ee)
  | .ok x34=>
  zf (qa o2_0) (qa o2_1) (qa o2_2) (qa o2_3) x34.1 >>=fun x35=>
  ji x34.2 (qa o2_0) (qa o2_1) (qa o2_2) (qa x35)
 else
  qj (qa o0) (qa o2_0) (qa o2_1) (qa o2_2) (qa o2_3) (⟨#[125]⟩:BA) >>=fun x36=>
  match x36 with
  | .error ee=>some (.error ee)
  | .ok x36=>
  some (.ok ((Node.mk o2_0 o2_1 x36.2 o2_3),x36.1))
 partial_fixpoint
end
@[reducible] def Zg (a0:Reader) (r:Except Int (Node × Reader)):Prop:=
  exq (fun (r:Node × Reader)=>AC Tryz.prog G 124 [(.ptr 0 0 0)] 1 [(0, .var 130 (Reader.cells a0))] (.agg (zq r.1)) 1 [(0, .var 130 (Reader.cells r.2))]) (fun e=>FC Tryz.prog G 124 [(.ptr 0 0 0)] 1 [(0, .var 130 (Reader.cells a0))] (flt e)) r
@[reducible] def vn (a0:Reader) (r:Except Int (Node × Reader)):Prop:=
  exq (fun (r:Node × Reader)=>AC Tryz.prog G 153 [(.ptr 0 0 0)] 1 [(0, .var 130 (Reader.cells a0))] (.agg (zq r.1)) 1 [(0, .var 130 (Reader.cells r.2))]) (fun e=>FC Tryz.prog G 153 [(.ptr 0 0 0)] 1 [(0, .var 130 (Reader.cells a0))] (flt e)) r
@[reducible] def Qb (o0:Reader) (o2_0:Int) (o2_1:BA) (o2_2:LB) (o2_3:LN) (r:Except Int (Node × Reader)):Prop:=
  Ok Tryz.prog G tt 16 1 (exq (fun (r:Node × Reader)=>Ret Tryz.prog [.cell 2 45] (fun y H=>Qw Tryz.prog G 1 H y (.agg (zq r.1)) ⟨1, [(0, .var 130 (Reader.cells r.2))]⟩)) (fun e=>Z8 (flt e)) r) (.again (jj [] Tryz.f124 0).1 (jj [] Tryz.f124 0).2 (.n (.ptr 0 0 0) (.n .undef (.n (.ptr 2 2 0) .z .z) .z) (.n (.ptr 1 1 0) .z .z)) 6 [(0, .var 130 (Reader.cells o0)),(1, .var 45 [(.int .i64 0),(.str ⟨#[]⟩),(.sl 0 true []),(.sl 0 true [])]),(2, .var 45 [(.int .i64 o2_0),(.str o2_1),(.bs 1 3 5 0 o2_2.length),(.bs 4 4 4 0 o2_3.length)]),(5, .row 9 (o2_2.map sc).flatten),(4, .row 45 (o2_3.map Node.cells).flatten)])
theorem Qq:PC1 Zg zu∧PC5 Qb ji∧PC1 vn ju:=by
 refine zu.mutual_partial_correctness Zg Qb vn (fun ji w5 a0 r h=> ?_) (fun ji ju w5 vq o0 o2_0 o2_1 o2_2 o2_3 r h=> ?_) (fun zu jq a0 r h=> ?_)
 ·unfold qa at h
  refine Y7 (T:=tt) (N:=16) (rs:= [.cell 2 45]) (fun vs w=>by simp) Tryz.func124 rfl rfl rfl (by kernel_rfl) (by kernel_rfl) (kv rfl rfl kh) (zr zn) (fun r=>(ku rfl kg)) (fun r=>(zr zn)) (fun _=>rfl) (fun _=>rfl) rfl (fun _=>rfl) ?_
  refine kr [] ?_
  obtain ⟨x1,hx,h⟩:=bind_some h
  rcases x1 with ee | x1
  ·replace h:some (.error ee)=some r:=h
   cases h
   exact q7 (FCalls.ghost (e:=9) (FCalls.ghost (e:=45) (FCalls.wkg (FC.go (objs:= [(0, .var 130 (Reader.cells a0)),(1, .var 45 [(.int .i64 0),(.str ⟨#[]⟩),(.sl 0 true []),(.sl 0 true [])]),(2, .var 45 [(.int .i64 (6:Int)),(.str ⟨#[]⟩),(.bs 1 3 3 0 ([]:LB).length),(.bs 4 4 4 0 ([]:LN).length)]),(3, .row 9 (([]:LB).map sc).flatten),(4, .row 45 (([]:LN).map Node.cells).flatten)]) (xs:= [(.ptr 0 0 0),(.ptr 2 2 0),(.str (⟨#[123]⟩:BA))]) (qb _ _ _ _ _ _ _ hx) [0,2,3,4] [0,2,3,4] rfl rfl rfl rfl rfl rfl) (qg (qq _) (qg (qq _) (qg (qq _) z6))) (qe (qe (jb (qd (qw _) (qd (qw _) (qd (zb rfl) (qd (zb rfl) jt)))) (zj _)))))))
  refine qc (ACalls.ghost (e:=9) (ACalls.ghost (e:=45) (ACalls.wkg (AC.go (objs:= [(0, .var 130 (Reader.cells a0)),(1, .var 45 [(.int .i64 0),(.str ⟨#[]⟩),(.sl 0 true []),(.sl 0 true [])]),(2, .var 45 [(.int .i64 (6:Int)),(.str ⟨#[]⟩),(.bs 1 3 3 0 ([]:LB).length),(.bs 4 4 4 0 ([]:LN).length)]),(3, .row 9 (([]:LB).map sc).flatten),(4, .row 45 (([]:LN).map Node.cells).flatten)]) (xs:= [(.ptr 0 0 0),(.ptr 2 2 0),(.str (⟨#[123]⟩:BA))]) (qb _ _ _ _ _ _ _ hx) [0,2,3,4] [0,2,3,4] rfl rfl rfl rfl rfl rfl rfl rfl rfl) (qg (qq _) (qg (qq _) (qg (qq _) z6))) (qe (qe (jb (qd (qw _) (qd (qw _) (qd (zb rfl) (qd (zb rfl) jt)))) (zj _))))))) ?_
  refine kr [] ?_
  exact jh (by kernel_rfl) lQ (w5 _ _ _ _ _ _ h)
 ·unfold qa at h
  refine j7 ?_
  refine kr [] ?_
  obtain ⟨x33,hx,h⟩:=bind_some h
  refine qc (AC.g9 (q6 _ _ _ hx) [0] [0]) ?_
  refine kr [] ?_
  refine qf (fun hb=> ?_) (fun hb=> ?_)
  ·replace h:=qx hb h
   refine kr [] ?_
   obtain ⟨x34,hx,h⟩:=bind_some h
   rcases x34 with ee | x34
   ·replace h:some (.error ee)=some r:=h
    cases h
    exact q7 (FC.go (vq _ _ hx) [0] [0] rfl rfl rfl rfl rfl rfl)
   refine qc (AC.g9 (vq _ _ hx) [0] [0]) ?_
   refine kr [] ?_
   obtain ⟨x35,hx,h⟩:=bind_some h
   refine qc (AC.g9 (zg _ _ _ _ _ _ hx) [2,3,4] [2,5,4]) ?_
   refine kr [] ?_
   exact zy (by kernel_rfl) lQ (w5 _ _ _ _ _ _ h)
  replace h:=qy hb h
  refine kr [] ?_
  obtain ⟨x36,hx,h⟩:=bind_some h
  rcases x36 with ee | x36
  ·replace h:some (.error ee)=some r:=h
   cases h
   exact q7 (FC.go (qb _ _ _ _ _ _ _ hx) [0,2,3,4] [0,2,5,4] rfl rfl rfl rfl rfl rfl)
  refine qc (AC.g9 (qb _ _ _ _ _ _ _ hx) [0,2,3,4] [0,2,5,4]) ?_
  refine kr [] ?_
  cases h
  exact ya env rfl rfl (tS [some 0] (sV (lS (lS lN)) zt) (j4 (yn (qi (qh (zm rfl) rfl) (qi (qh (jw rfl) rfl) (qi (qh (jd y8 rfl) rfl) (qi (qh (jd zd rfl) rfl) ym))))) (by simp)))
 unfold qa at h
 refine Y7 (T:=tt) (N:=106) (rs:= [.cell 2 45]) (fun vs w=>by simp) Tryz.func153 rfl rfl rfl (by kernel_rfl) (by kernel_rfl) (kv rfl rfl kh) (zr zn) (fun r=>(ku rfl kg)) (fun r=>(zr zn)) (fun _=>rfl) (fun _=>rfl) rfl (fun _=>rfl) ?_
 refine kr [41,87] ?_
 obtain ⟨x2,hx,h⟩:=bind_some h
 refine qc (AC.g9 (q6 _ _ _ hx) [0] [0]) ?_
 refine kr [41,87] ?_
 refine qf (fun hb=> ?_) (fun hb=> ?_)
 ·replace h:=qx hb h
  refine kr [41,87] ?_
  obtain ⟨x3,hx,h⟩:=bind_some h
  rcases x3 with ee | x3
  ·replace h:some (.error ee)=some r:=h
   cases h
   exact q7 (FC.go (u4 _ _ _ _ hx) [0] [0] rfl rfl rfl rfl rfl rfl)
  refine qc (AC.g9 (u4 _ _ _ _ hx) [0] [0]) ?_
  refine kr [41,87] ?_
  cases h
  exact ya env rfl rfl (tS [some 0] (sV (lS (lS lN)) zt) (j4 (yn (qi (qh (zm rfl) rfl) (qi (qh (jw rfl) rfl) (qi (qh (wg (.inl rfl)) rfl) (qi (qh (wg (.inl rfl)) rfl) ym))))) (by simp)))
 replace h:=qy hb h
 refine kr [41,87] ?_
 obtain ⟨x4,hx,h⟩:=bind_some h
 refine qc (AC.g9 (q6 _ _ _ hx) [0] [0]) ?_
 refine kr [41,87] ?_
 refine qf (fun hb=> ?_) (fun hb=> ?_)
 ·replace h:=qx hb h
  refine kr [41,87] ?_
  obtain ⟨x5,hx,h⟩:=bind_some h
  rcases x5 with ee | x5
  ·replace h:some (.error ee)=some r:=h
   cases h
   exact q7 (FCalls.ghost (e:=9) (FCalls.ghost (e:=45) (FCalls.wkg (FC.go (objs:= [(0, .var 130 (Reader.cells a0)),(1, .var 45 [(.int .i64 0),(.str ⟨#[]⟩),(.sl 0 true []),(.sl 0 true [])]),(2, .var 45 [(.int .i64 (12:Int)),(.str ⟨#[]⟩),(.bs 1 3 3 0 ([]:LB).length),(.bs 4 4 4 0 ([]:LN).length)]),(3, .row 9 (([]:LB).map sc).flatten),(4, .row 45 (([]:LN).map Node.cells).flatten)]) (xs:= [(.ptr 0 0 0),(.ptr 2 2 0),(.str (⟨#[114,101,116,117,114,110]⟩:BA))]) (qb _ _ _ _ _ _ _ hx) [0,2,3,4] [0,2,3,4] rfl rfl rfl rfl rfl rfl) (qg (qq _) (qg (qq _) (qg (qq _) z6))) (qe (qe (jb (qd (qw _) (qd (qw _) (qd (zb rfl) (qd (zb rfl) jt)))) (zj _)))))))
  refine qc (ACalls.ghost (e:=9) (ACalls.ghost (e:=45) (ACalls.wkg (AC.go (objs:= [(0, .var 130 (Reader.cells a0)),(1, .var 45 [(.int .i64 0),(.str ⟨#[]⟩),(.sl 0 true []),(.sl 0 true [])]),(2, .var 45 [(.int .i64 (12:Int)),(.str ⟨#[]⟩),(.bs 1 3 3 0 ([]:LB).length),(.bs 4 4 4 0 ([]:LN).length)]),(3, .row 9 (([]:LB).map sc).flatten),(4, .row 45 (([]:LN).map Node.cells).flatten)]) (xs:= [(.ptr 0 0 0),(.ptr 2 2 0),(.str (⟨#[114,101,116,117,114,110]⟩:BA))]) (qb _ _ _ _ _ _ _ hx) [0,2,3,4] [0,2,3,4] rfl rfl rfl rfl rfl rfl rfl rfl rfl) (qg (qq _) (qg (qq _) (qg (qq _) z6))) (qe (qe (jb (qd (qw _) (qd (qw _) (qd (zb rfl) (qd (zb rfl) jt)))) (zj _))))))) ?_
  refine kr [41,87] ?_
  obtain ⟨x6,hx,h⟩:=bind_some h
  rcases x6 with ee | x6
  ·replace h:some (.error ee)=some r:=h
   cases h
   exact q7 (FC.go (qt _ _ _ hx) [0] [0] rfl rfl rfl rfl rfl rfl)
  refine qc (AC.g9 (qt _ _ _ hx) [0] [0]) ?_
  refine kr [41,87] ?_
  obtain ⟨x7,hx,h⟩:=bind_some h
  refine qc (AC.g9 (zg _ _ _ _ _ _ hx) [2,3,4] [2,5,4]) ?_
  refine kr [41,87] ?_
  obtain ⟨x8,hx,h⟩:=bind_some h
  rcases x8 with ee | x8
  ·replace h:some (.error ee)=some r:=h
   cases h
   exact q7 (FC.go (qb _ _ _ _ _ _ _ hx) [0,2,3,4] [0,2,5,6] rfl rfl rfl rfl rfl rfl)
  refine qc (AC.g9 (qb _ _ _ _ _ _ _ hx) [0,2,3,4] [0,2,5,6]) ?_
  refine kr [41,87] ?_
  cases h
  exact ya env rfl rfl (tS [some 0] (sV (lS (lS lN)) zt) (j4 (yn (qi (qh (zm rfl) rfl) (qi (qh (jw rfl) rfl) (qi (qh (jd y8 rfl) rfl) (qi (qh (jd zd rfl) rfl) ym))))) (by simp)))
 replace h:=qy hb h
 refine kr [41,87] ?_
 obtain ⟨x9,hx,h⟩:=bind_some h
 refine qc (AC.g9 (q6 _ _ _ hx) [0] [0]) ?_
 refine kr [41,87] ?_
 refine qf (fun hb=> ?_) (fun hb=> ?_)
 ·replace h:=qx hb h
  refine kr [41,87] ?_
  obtain ⟨x10,hx,h⟩:=bind_some h
  rcases x10 with ee | x10
  ·replace h:some (.error ee)=some r:=h
   cases h
   exact q7 (FCalls.ghost (e:=9) (FCalls.ghost (e:=45) (FCalls.wkg (FC.go (objs:= [(0, .var 130 (Reader.cells a0)),(1, .var 45 [(.int .i64 0),(.str ⟨#[]⟩),(.sl 0 true []),(.sl 0 true [])]),(2, .var 45 [(.int .i64 (13:Int)),(.str ⟨#[]⟩),(.bs 1 3 3 0 ([]:LB).length),(.bs 4 4 4 0 ([]:LN).length)]),(3, .row 9 (([]:LB).map sc).flatten),(4, .row 45 (([]:LN).map Node.cells).flatten)]) (xs:= [(.ptr 0 0 0),(.ptr 2 2 0),(.str (⟨#[105,102]⟩:BA))]) (qb _ _ _ _ _ _ _ hx) [0,2,3,4] [0,2,3,4] rfl rfl rfl rfl rfl rfl) (qg (qq _) (qg (qq _) (qg (qq _) z6))) (qe (qe (jb (qd (qw _) (qd (qw _) (qd (zb rfl) (qd (zb rfl) jt)))) (zj _)))))))
  refine qc (ACalls.ghost (e:=9) (ACalls.ghost (e:=45) (ACalls.wkg (AC.go (objs:= [(0, .var 130 (Reader.cells a0)),(1, .var 45 [(.int .i64 0),(.str ⟨#[]⟩),(.sl 0 true []),(.sl 0 true [])]),(2, .var 45 [(.int .i64 (13:Int)),(.str ⟨#[]⟩),(.bs 1 3 3 0 ([]:LB).length),(.bs 4 4 4 0 ([]:LN).length)]),(3, .row 9 (([]:LB).map sc).flatten),(4, .row 45 (([]:LN).map Node.cells).flatten)]) (xs:= [(.ptr 0 0 0),(.ptr 2 2 0),(.str (⟨#[105,102]⟩:BA))]) (qb _ _ _ _ _ _ _ hx) [0,2,3,4] [0,2,3,4] rfl rfl rfl rfl rfl rfl rfl rfl rfl) (qg (qq _) (qg (qq _) (qg (qq _) z6))) (qe (qe (jb (qd (qw _) (qd (qw _) (qd (zb rfl) (qd (zb rfl) jt)))) (zj _))))))) ?_
  refine kr [41,87] ?_
  obtain ⟨x11,hx,h⟩:=bind_some h
  rcases x11 with ee | x11
  ·replace h:some (.error ee)=some r:=h
   cases h
   exact q7 (FC.go (qt _ _ _ hx) [0] [0] rfl rfl rfl rfl rfl rfl)
  refine qc (AC.g9 (qt _ _ _ hx) [0] [0]) ?_
  refine kr [41,87] ?_
  obtain ⟨x12,hx,h⟩:=bind_some h
  refine qc (AC.g9 (zg _ _ _ _ _ _ hx) [2,3,4] [2,5,4]) ?_
  refine kr [41,87] ?_
  obtain ⟨x13,hx,h⟩:=bind_some h
  rcases x13 with ee | x13
  ·replace h:some (.error ee)=some r:=h
   cases h
   exact q7 (FC.go (jq _ _ hx) [0] [0] rfl rfl rfl rfl rfl rfl)
  refine qc (AC.g9 (jq _ _ hx) [0] [0]) ?_
  refine kr [41,87] ?_
  obtain ⟨x14,hx,h⟩:=bind_some h
  refine qc (AC.g9 (zg _ _ _ _ _ _ hx) [2,3,4] [2,5,6]) ?_
  refine kr [41,87] ?_
  obtain ⟨x15,hx,h⟩:=bind_some h
  refine qc (AC.g9 (q6 _ _ _ hx) [0] [0]) ?_
  refine kr [41,87] ?_
  refine qf (fun hb=> ?_) (fun hb=> ?_)
  ·replace h:=qx hb h
   refine kr [41,87] ?_
   obtain ⟨x16,hx,h⟩:=bind_some h
   rcases x16 with ee | x16
   ·replace h:some (.error ee)=some r:=h
    cases h
    exact q7 (FCalls.ghost (e:=9) (FCalls.ghost (e:=45) (FCalls.wkg (FC.go (objs:= [(0, .var 130 (Reader.cells x13.2)),(1, .var 45 [(.int .i64 0),(.str ⟨#[]⟩),(.sl 0 true []),(.sl 0 true [])]),(2, .var 45 [(.int .i64 (13:Int)),(.str ⟨#[]⟩),(.bs 1 3 5 0 x10.2.length),(.bs 4 4 7 0 x14.length)]),(5, .row 9 (x10.2.map sc).flatten),(7, .row 45 (x14.map Node.cells).flatten),(8, .var 45 [(.int .i64 (14:Int)),(.str ⟨#[]⟩),(.bs 1 6 9 0 ([]:LB).length),(.bs 4 7 10 0 ([]:LN).length)]),(9, .row 9 (([]:LB).map sc).flatten),(10, .row 45 (([]:LN).map Node.cells).flatten)]) (xs:= [(.ptr 0 0 0),(.ptr 5 8 0),(.str (⟨#[101,108,115,101]⟩:BA))]) (qb _ _ _ _ _ _ _ hx) [0,5,6,7] [0,8,9,10] rfl rfl rfl rfl rfl rfl) (qg (qq _) (qg (qq _) (qg (qq _) z6))) (qe (qe (qe (qe (qe (jb (qd (qw _) (qd (qw _) (qd (zb rfl) (qd (zb rfl) jt)))) (zj _))))))))))
   refine qc (ACalls.ghost (e:=9) (ACalls.ghost (e:=45) (ACalls.wkg (AC.go (objs:= [(0, .var 130 (Reader.cells x13.2)),(1, .var 45 [(.int .i64 0),(.str ⟨#[]⟩),(.sl 0 true []),(.sl 0 true [])]),(2, .var 45 [(.int .i64 (13:Int)),(.str ⟨#[]⟩),(.bs 1 3 5 0 x10.2.length),(.bs 4 4 7 0 x14.length)]),(5, .row 9 (x10.2.map sc).flatten),(7, .row 45 (x14.map Node.cells).flatten),(8, .var 45 [(.int .i64 (14:Int)),(.str ⟨#[]⟩),(.bs 1 6 9 0 ([]:LB).length),(.bs 4 7 10 0 ([]:LN).length)]),(9, .row 9 (([]:LB).map sc).flatten),(10, .row 45 (([]:LN).map Node.cells).flatten)]) (xs:= [(.ptr 0 0 0),(.ptr 5 8 0),(.str (⟨#[101,108,115,101]⟩:BA))]) (qb _ _ _ _ _ _ _ hx) [0,5,6,7] [0,8,9,10] rfl rfl rfl rfl rfl rfl rfl rfl rfl) (qg (qq _) (qg (qq _) (qg (qq _) z6))) (qe (qe (qe (qe (qe (jb (qd (qw _) (qd (qw _) (qd (zb rfl) (qd (zb rfl) jt)))) (zj _)))))))))) ?_
   refine kr [41,87] ?_
   obtain ⟨x17,hx,h⟩:=bind_some h
   rcases x17 with ee | x17
   ·replace h:some (.error ee)=some r:=h
    cases h
    exact q7 (FC.go (jq _ _ hx) [0] [0] rfl rfl rfl rfl rfl rfl)
   refine qc (AC.g9 (jq _ _ hx) [0] [0]) ?_
   refine kr [41,87] ?_
   obtain ⟨x18,hx,h⟩:=bind_some h
   refine qc (AC.g9 (zg _ _ _ _ _ _ hx) [5,6,7] [8,11,10]) ?_
   refine kr [41,87] ?_
   refine Ya 5 2 6 y8 rfl rfl rfl rfl rfl rfl ?_
   refine Ya 5 3 7 zd rfl rfl rfl rfl rfl rfl ?_
   exact qr (by kernel_rfl) rfl lQ (Za _ _ _ _ _ _ _ h)
  replace h:=qy hb h
  refine kr [41,87] ?_
  exact qr (by kernel_rfl) rfl lQ (Za _ _ _ _ _ _ _ h)
 replace h:=qy hb h
 refine kr [41,87] ?_
 obtain ⟨x19,hx,h⟩:=bind_some h
 refine qc (AC.g9 (q6 _ _ _ hx) [0] [0]) ?_
 refine kr [41,87] ?_
 refine qf (fun hb=> ?_) (fun hb=> ?_)
 ·replace h:=qx hb h
  refine kr [41,87] ?_
  obtain ⟨x20,hx,h⟩:=bind_some h
  rcases x20 with ee | x20
  ·replace h:some (.error ee)=some r:=h
   cases h
   exact q7 (FCalls.ghost (e:=9) (FCalls.ghost (e:=45) (FCalls.wkg (FC.go (objs:= [(0, .var 130 (Reader.cells a0)),(1, .var 45 [(.int .i64 0),(.str ⟨#[]⟩),(.sl 0 true []),(.sl 0 true [])]),(2, .var 45 [(.int .i64 (15:Int)),(.str ⟨#[]⟩),(.bs 1 3 3 0 ([]:LB).length),(.bs 4 4 4 0 ([]:LN).length)]),(3, .row 9 (([]:LB).map sc).flatten),(4, .row 45 (([]:LN).map Node.cells).flatten)]) (xs:= [(.ptr 0 0 0),(.ptr 2 2 0),(.str (⟨#[119,104,105,108,101]⟩:BA))]) (qb _ _ _ _ _ _ _ hx) [0,2,3,4] [0,2,3,4] rfl rfl rfl rfl rfl rfl) (qg (qq _) (qg (qq _) (qg (qq _) z6))) (qe (qe (jb (qd (qw _) (qd (qw _) (qd (zb rfl) (qd (zb rfl) jt)))) (zj _)))))))
  refine qc (ACalls.ghost (e:=9) (ACalls.ghost (e:=45) (ACalls.wkg (AC.go (objs:= [(0, .var 130 (Reader.cells a0)),(1, .var 45 [(.int .i64 0),(.str ⟨#[]⟩),(.sl 0 true []),(.sl 0 true [])]),(2, .var 45 [(.int .i64 (15:Int)),(.str ⟨#[]⟩),(.bs 1 3 3 0 ([]:LB).length),(.bs 4 4 4 0 ([]:LN).length)]),(3, .row 9 (([]:LB).map sc).flatten),(4, .row 45 (([]:LN).map Node.cells).flatten)]) (xs:= [(.ptr 0 0 0),(.ptr 2 2 0),(.str (⟨#[119,104,105,108,101]⟩:BA))]) (qb _ _ _ _ _ _ _ hx) [0,2,3,4] [0,2,3,4] rfl rfl rfl rfl rfl rfl rfl rfl rfl) (qg (qq _) (qg (qq _) (qg (qq _) z6))) (qe (qe (jb (qd (qw _) (qd (qw _) (qd (zb rfl) (qd (zb rfl) jt)))) (zj _))))))) ?_
  refine kr [41,87] ?_
  obtain ⟨x21,hx,h⟩:=bind_some h
  rcases x21 with ee | x21
  ·replace h:some (.error ee)=some r:=h
   cases h
   exact q7 (FC.go (qt _ _ _ hx) [0] [0] rfl rfl rfl rfl rfl rfl)
  refine qc (AC.g9 (qt _ _ _ hx) [0] [0]) ?_
  refine kr [41,87] ?_
  obtain ⟨x22,hx,h⟩:=bind_some h
  refine qc (AC.g9 (zg _ _ _ _ _ _ hx) [2,3,4] [2,5,4]) ?_
  refine kr [41,87] ?_
  obtain ⟨x23,hx,h⟩:=bind_some h
  rcases x23 with ee | x23
  ·replace h:some (.error ee)=some r:=h
   cases h
   exact q7 (FC.go (jq _ _ hx) [0] [0] rfl rfl rfl rfl rfl rfl)
  refine qc (AC.g9 (jq _ _ hx) [0] [0]) ?_
  refine kr [41,87] ?_
  obtain ⟨x24,hx,h⟩:=bind_some h
  refine qc (AC.g9 (zg _ _ _ _ _ _ hx) [2,3,4] [2,5,6]) ?_
  refine kr [41,87] ?_
  cases h
  exact ya env rfl rfl (tS [some 0] (sV (lS (lS lN)) zt) (j4 (yn (qi (qh (zm rfl) rfl) (qi (qh (jw rfl) rfl) (qi (qh (jd y8 rfl) rfl) (qi (qh (jd zd rfl) rfl) ym))))) (by simp)))
 replace h:=qy hb h
 refine kr [41,87] ?_
 obtain ⟨x25,hx,h⟩:=bind_some h
 refine qc (AC.g9 (jc _ _ hx) [0] [0]) ?_
 refine kr [41,87] ?_
 refine qo (fun hb=> ?_) (fun hb=> ?_)
 ·replace h:=qx hb h
  refine kr [41,87] ?_
  obtain ⟨x26,hx,h⟩:=bind_some h
  refine qp (qfy _ _ hx) ?_
  refine kr [41,87] ?_
  refine qo (fun hb=> ?_) (fun hb=> ?_)
  ·replace h:=qx hb h
   refine kr [41,87] ?_
   obtain ⟨x27,hx,h⟩:=bind_some h
   refine wo env hx rfl rfl rfl rfl rfl ?_
   refine kr [41,87] ?_
   refine qf (fun hb=> ?_) (fun hb=> ?_)
   ·replace h:=qx hb h
    refine kr [41,87] ?_
    obtain ⟨x28,hx,h⟩:=bind_some h
    rcases x28 with ee | x28
    ·replace h:some (.error ee)=some r:=h
     cases h
     exact q7 (FCalls.ghost (e:=9) (FCalls.ghost (e:=45) (FCalls.wkg (FC.go (objs:= [(0, .var 130 (Reader.cells a0)),(1, .var 45 [(.int .i64 0),(.str ⟨#[]⟩),(.sl 0 true []),(.sl 0 true [])]),(2, .var 118 (Token.cells x25)),(3, .var 45 [(.int .i64 (11:Int)),(.str ⟨#[]⟩),(.bs 1 4 4 0 ([]:LB).length),(.bs 4 5 5 0 ([]:LN).length)]),(4, .row 9 (([]:LB).map sc).flatten),(5, .row 45 (([]:LN).map Node.cells).flatten)]) (xs:= [(.ptr 0 0 0),(.ptr 3 3 0)]) (q8 _ _ _ _ _ _ hx) [0,3,4,5] [0,3,4,5] rfl rfl rfl rfl rfl rfl) (qg (qq _) (qg (qq _) z6)) (qe (qe (qe (jb (qd (qw _) (qd (qw _) (qd (zb rfl) (qd (zb rfl) jt)))) (zj _))))))))
    refine qc (ACalls.ghost (e:=9) (ACalls.ghost (e:=45) (ACalls.wkg (AC.go (objs:= [(0, .var 130 (Reader.cells a0)),(1, .var 45 [(.int .i64 0),(.str ⟨#[]⟩),(.sl 0 true []),(.sl 0 true [])]),(2, .var 118 (Token.cells x25)),(3, .var 45 [(.int .i64 (11:Int)),(.str ⟨#[]⟩),(.bs 1 4 4 0 ([]:LB).length),(.bs 4 5 5 0 ([]:LN).length)]),(4, .row 9 (([]:LB).map sc).flatten),(5, .row 45 (([]:LN).map Node.cells).flatten)]) (xs:= [(.ptr 0 0 0),(.ptr 3 3 0)]) (q8 _ _ _ _ _ _ hx) [0,3,4,5] [0,3,4,5] rfl rfl rfl rfl rfl rfl rfl rfl rfl) (qg (qq _) (qg (qq _) z6)) (qe (qe (qe (jb (qd (qw _) (qd (qw _) (qd (zb rfl) (qd (zb rfl) jt)))) (zj _)))))))) ?_
    refine kr [41,87] ?_
    obtain ⟨x29,hx,h⟩:=bind_some h
    rcases x29 with ee | x29
    ·replace h:some (.error ee)=some r:=h
     cases h
     exact q7 (FC.go (qb _ _ _ _ _ _ _ hx) [0,3,4,5] [0,3,6,5] rfl rfl rfl rfl rfl rfl)
    refine qc (AC.g9 (qb _ _ _ _ _ _ _ hx) [0,3,4,5] [0,3,6,5]) ?_
    refine kr [41,87] ?_
    obtain ⟨x30,hx,h⟩:=bind_some h
    rcases x30 with ee | x30
    ·replace h:some (.error ee)=some r:=h
     cases h
     exact q7 (FC.go (qt _ _ _ hx) [0] [0] rfl rfl rfl rfl rfl rfl)
    refine qc (AC.g9 (qt _ _ _ hx) [0] [0]) ?_
    refine kr [41,87] ?_
    obtain ⟨x31,hx,h⟩:=bind_some h
    refine qc (AC.g9 (zg _ _ _ _ _ _ hx) [3,4,5] [3,7,5]) ?_
    refine kr [41,87] ?_
    obtain ⟨x32,hx,h⟩:=bind_some h
    rcases x32 with ee | x32
    ·replace h:some (.error ee)=some r:=h
     cases h
     exact q7 (FC.go (qb _ _ _ _ _ _ _ hx) [0,3,4,5] [0,3,7,8] rfl rfl rfl rfl rfl rfl)
    refine qc (AC.g9 (qb _ _ _ _ _ _ _ hx) [0,3,4,5] [0,3,7,8]) ?_
    refine kr [41,87] ?_
    cases h
    exact ya env rfl rfl (tS [some 0] (sV (lS (lS lN)) zt) (j4 (yn (qi (qh (zm rfl) rfl) (qi (qh (jw rfl) rfl) (qi (qh (jd y8 rfl) rfl) (qi (qh (jd zd rfl) rfl) ym))))) (by simp)))
   replace h:=qy hb h
   refine kr [41,87] ?_
   exact qr (by kernel_rfl) rfl lQ (ud _ _ h)
  replace h:=qy hb h
  refine kr [41,87] ?_
  exact qr (by kernel_rfl) rfl lQ (ud _ _ h)
 replace h:=qy hb h
 refine kr [41,87] ?_
 exact qr (by kernel_rfl) rfl lQ (ud _ _ h)
theorem jq:PC1 Zg zu:=Qq.1
theorem w5:PC5 Qb ji:=Qq.2.1
theorem vq:PC1 vn ju:=Qq.2.2
mutual
def jg (o0:Reader) (o2_0:Int) (o2_1:BA) (o2_2:LB) (o2_3:LN) (o5_0:Int) (o5_1:BA) (o5_2:LB) (o5_3:LN):Option (Except Int (Node × Reader)):=
 q4 (qa o0) (⟨#[41]⟩:BA) >>=fun x4=>
 if (!x4)=true then
  if (decide ((0:Int) < (o5_3.length:Int)))=true then
   qj (qa o0) (qa o5_0) (qa o5_1) (qa o5_2) (qa o5_3) (⟨#[44]⟩:BA) >>=fun x5=>
   match x5 with
   | .error ee=>some (.error ee)
   | .ok x5=>
   jv x5.1 (qa o2_0) (qa o2_1) (qa o2_2) (qa o2_3) (qa o5_0) (qa o5_1) x5.2 (qa o5_3)
  else
   jv (qa o0) (qa o2_0) (qa o2_1) (qa o2_2) (qa o2_3) (qa o5_0) (qa o5_1) (qa o5_2) (qa o5_3)
 else
  qj (qa o0) (qa o5_0) (qa o5_1) (qa o5_2) (qa o5_3) (⟨#[41]⟩:BA) >>=fun x6=>
  match x6 with
  | .error ee=>some (.error ee)
  | .ok x6=>
  zf (qa o2_0) (qa o2_1) (qa o2_2) (qa o2_3) (Node.mk o5_0 o5_1 x6.2 o5_3) >>=fun x7=>
  wm x6.1 >>=fun x8=>
  match x8 with
  | .error ee=>some (.error ee)
  | .ok x8=>
  zf (qa o2_0) (qa o2_1) (qa o2_2) (qa x7) x8.1 >>=fun x9=>
  zu x8.2 >>=fun x10=>
  match x10 with
  | .error ee=>some (.error ee)
  | .ok x10=>
  zf (qa o2_0) (qa o2_1) (qa o2_2) (qa x9) x10.1 >>=fun x11=>
  some (.ok ((Node.mk o2_0 o2_1 o2_2 x11),x10.2))
 partial_fixpoint
def jv (o0:Reader) (o2_0:Int) (o2_1:BA) (o2_2:LB) (o2_3:LN) (o5_0:Int) (o5_1:BA) (o5_2:LB) (o5_3:LN):Option (Except Int (Node × Reader)):=
 zp (qa o0) (4:Int) (⟨#[]⟩) ([]:LB) ([]:LN) >>=fun x12=>
 match x12 with
 | .error ee=>some (.error ee)
 | .ok x12=>
 wm x12.1 >>=fun x13=>
 match x13 with
 | .error ee=>some (.error ee)
 | .ok x13=>
 zf (4:Int) x12.2.1 x12.2.2 ([]:LN) x13.1 >>=fun x14=>
 zf (qa o5_0) (qa o5_1) (qa o5_2) (qa o5_3) (Node.mk (4:Int) x12.2.1 x12.2.2 x14) >>=fun x15=>
 jg x13.2 (qa o2_0) (qa o2_1) (qa o2_2) (qa o2_3) (qa o5_0) (qa o5_1) (qa o5_2) (qa x15)
 partial_fixpoint
end
@[reducible] def uz (o0:Reader) (o2_0:Int) (o2_1:BA) (o2_2:LB) (o2_3:LN) (o5_0:Int) (o5_1:BA) (o5_2:LB) (o5_3:LN) (r:Except Int (Node × Reader)):Prop:=
  Ok Tryz.prog G tt 42 1 (exq (fun (r:Node × Reader)=>Ret Tryz.prog [.cell 2 45] (fun y H=>Qw Tryz.prog G 1 H y (.agg (zq r.1)) ⟨1, [(0, .var 130 (Reader.cells r.2))]⟩)) (fun e=>Z8 (flt e)) r) (.again (jj [20,2000011,2000013] Tryz.f83 0).1 (jj [20,2000011,2000013] Tryz.f83 0).2 (.n (.ptr 0 0 0) (.n .undef (.n (.ptr 2 2 0) .z .z) .z) (.n (.ptr 1 1 0) (.n (.ptr 5 7 0) .z .z) .z)) 11 [(0, .var 130 (Reader.cells o0)),(1, .var 45 [(.int .i64 0),(.str ⟨#[]⟩),(.sl 0 true []),(.sl 0 true [])]),(2, .var 45 [(.int .i64 o2_0),(.str o2_1),(.bs 1 3 6 0 o2_2.length),(.bs 4 4 4 0 o2_3.length)]),(6, .row 9 (o2_2.map sc).flatten),(4, .row 45 (o2_3.map Node.cells).flatten),(7, .var 45 [(.int .i64 o5_0),(.str o5_1),(.bs 1 6 10 0 o5_2.length),(.bs 4 7 9 0 o5_3.length)]),(10, .row 9 (o5_2.map sc).flatten),(9, .row 45 (o5_3.map Node.cells).flatten)])
@[reducible] def uk (o0:Reader) (o2_0:Int) (o2_1:BA) (o2_2:LB) (o2_3:LN) (o5_0:Int) (o5_1:BA) (o5_2:LB) (o5_3:LN) (r:Except Int (Node × Reader)):Prop:=
  Ok Tryz.prog G tt 42 1 (exq (fun (r:Node × Reader)=>Ret Tryz.prog [.cell 2 45] (fun y H=>Qw Tryz.prog G 1 H y (.agg (zq r.1)) ⟨1, [(0, .var 130 (Reader.cells r.2))]⟩)) (fun e=>Z8 (flt e)) r) (.go [] (w9 [20,2000011,2000013] Tryz.f83 20) [] (.n (.ptr 0 0 0) (.n .undef (.n (.ptr 2 2 0) .z .z) .z) (.n (.ptr 1 1 0) (.n (.ptr 5 7 0) .z .z) .z)) 12 [(0, .var 130 (Reader.cells o0)),(1, .var 45 [(.int .i64 0),(.str ⟨#[]⟩),(.sl 0 true []),(.sl 0 true [])]),(2, .var 45 [(.int .i64 o2_0),(.str o2_1),(.bs 1 3 6 0 o2_2.length),(.bs 4 4 4 0 o2_3.length)]),(6, .row 9 (o2_2.map sc).flatten),(4, .row 45 (o2_3.map Node.cells).flatten),(7, .var 45 [(.int .i64 o5_0),(.str o5_1),(.bs 1 6 11 0 o5_2.length),(.bs 4 7 9 0 o5_3.length)]),(11, .row 9 (o5_2.map sc).flatten),(9, .row 45 (o5_3.map Node.cells).flatten)])
theorem Zd:PC9 uz jg∧PC9 uk jv:=by
 refine jg.mutual_partial_correctness uz uk (fun jv uq o0 o2_0 o2_1 o2_2 o2_3 o5_0 o5_1 o5_2 o5_3 r h=> ?_) (fun jg u0 o0 o2_0 o2_1 o2_2 o2_3 o5_0 o5_1 o5_2 o5_3 r h=> ?_)
 ·unfold qa at h
  refine j7 ?_
  refine kr [20,2000011,2000013] ?_
  obtain ⟨x4,hx,h⟩:=bind_some h
  refine qc (AC.g9 (q6 _ _ _ hx) [0] [0]) ?_
  refine kr [20,2000011,2000013] ?_
  refine qf (fun hb=> ?_) (fun hb=> ?_)
  ·replace h:=qx hb h
   refine kr [20,2000011,2000013] ?_
   refine qf (fun hb=> ?_) (fun hb=> ?_)
   ·replace h:=qx hb h
    refine kr [20,2000011,2000013] ?_
    obtain ⟨x5,hx,h⟩:=bind_some h
    rcases x5 with ee | x5
    ·replace h:some (.error ee)=some r:=h
     cases h
     exact q7 (FC.go (qb _ _ _ _ _ _ _ hx) [0,5,6,7] [0,7,10,9] rfl rfl rfl rfl rfl rfl)
    refine qc (AC.g9 (qb _ _ _ _ _ _ _ hx) [0,5,6,7] [0,7,10,9]) ?_
    refine kr [20,2000011,2000013] ?_
    exact qr (by kernel_rfl) rfl lQ (uq _ _ _ _ _ _ _ _ _ _ h)
   replace h:=qy hb h
   refine kr [20,2000011,2000013] ?_
   exact qr (by kernel_rfl) rfl lQ (uq _ _ _ _ _ _ _ _ _ _ h)
  replace h:=qy hb h
  refine kr [20,2000011,2000013] ?_
  obtain ⟨x6,hx,h⟩:=bind_some h
  rcases x6 with ee | x6
  ·replace h:some (.error ee)=some r:=h
   cases h
   exact q7 (FC.go (qb _ _ _ _ _ _ _ hx) [0,5,6,7] [0,7,10,9] rfl rfl rfl rfl rfl rfl)
  refine qc (AC.g9 (qb _ _ _ _ _ _ _ hx) [0,5,6,7] [0,7,10,9]) ?_
  refine kr [20,2000011,2000013] ?_
  refine Ya 5 2 6 y8 rfl rfl rfl rfl rfl rfl ?_
  refine Ya 5 3 7 zd rfl rfl rfl rfl rfl rfl ?_
  refine qbn ?_
  refine kr [20,2000011,2000013] ?_
  obtain ⟨x7,hx,h⟩:=bind_some h
  refine qc (AC.g9 (zg _ _ _ _ _ _ hx) [2,3,4] [2,6,4]) ?_
  refine kr [20,2000011,2000013] ?_
  obtain ⟨x8,hx,h⟩:=bind_some h
  rcases x8 with ee | x8
  ·replace h:some (.error ee)=some r:=h
   cases h
   exact q7 (FC.go (vi _ _ hx) [0] [0] rfl rfl rfl rfl rfl rfl)
  refine qc (AC.g9 (vi _ _ hx) [0] [0]) ?_
  refine kr [20,2000011,2000013] ?_
  obtain ⟨x9,hx,h⟩:=bind_some h
  refine qc (AC.g9 (zg _ _ _ _ _ _ hx) [2,3,4] [2,6,12]) ?_
  refine kr [20,2000011,2000013] ?_
  obtain ⟨x10,hx,h⟩:=bind_some h
  rcases x10 with ee | x10
  ·replace h:some (.error ee)=some r:=h
   cases h
   exact q7 (FC.go (jq _ _ hx) [0] [0] rfl rfl rfl rfl rfl rfl)
  refine qc (AC.g9 (jq _ _ hx) [0] [0]) ?_
  refine kr [20,2000011,2000013] ?_
  obtain ⟨x11,hx,h⟩:=bind_some h
  refine qc (AC.g9 (zg _ _ _ _ _ _ hx) [2,3,4] [2,6,13]) ?_
  refine kr [20,2000011,2000013] ?_
  cases h
  exact ya env rfl rfl (tS [some 0] (sV (lS (lS lN)) zt) (j4 (yn (qi (qh (zm rfl) rfl) (qi (qh (jw rfl) rfl) (qi (qh (jd y8 rfl) rfl) (qi (qh (jd zd rfl) rfl) ym))))) (by simp)))
 unfold qa at h
 refine kr [20,2000011,2000013] ?_
 obtain ⟨x12,hx,h⟩:=bind_some h
 rcases x12 with ee | x12
 ·replace h:some (.error ee)=some r:=h
  cases h
  exact q7 (FCalls.ghost (e:=9) (FCalls.ghost (e:=45) (FCalls.wkg (FC.go (objs:= [(0, .var 130 (Reader.cells o0)),(1, .var 45 [(.int .i64 0),(.str ⟨#[]⟩),(.sl 0 true []),(.sl 0 true [])]),(2, .var 45 [(.int .i64 o2_0),(.str o2_1),(.bs 1 3 6 0 o2_2.length),(.bs 4 4 4 0 o2_3.length)]),(6, .row 9 (o2_2.map sc).flatten),(4, .row 45 (o2_3.map Node.cells).flatten),(7, .var 45 [(.int .i64 o5_0),(.str o5_1),(.bs 1 6 11 0 o5_2.length),(.bs 4 7 9 0 o5_3.length)]),(11, .row 9 (o5_2.map sc).flatten),(9, .row 45 (o5_3.map Node.cells).flatten),(12, .var 45 [(.int .i64 (4:Int)),(.str ⟨#[]⟩),(.bs 1 9 13 0 ([]:LB).length),(.bs 4 10 14 0 ([]:LN).length)]),(13, .row 9 (([]:LB).map sc).flatten),(14, .row 45 (([]:LN).map Node.cells).flatten)]) (xs:= [(.ptr 0 0 0),(.ptr 8 12 0)]) (q8 _ _ _ _ _ _ hx) [0,8,9,10] [0,12,13,14] rfl rfl rfl rfl rfl rfl) (qg (qq _) (qg (qq _) z6)) (qe (qe (qe (qe (qe (qe (qe (qe (jb (qd (qw _) (qd (qw _) (qd (zb rfl) (qd (zb rfl) jt)))) (zj _)))))))))))))
 refine qc (ACalls.ghost (e:=9) (ACalls.ghost (e:=45) (ACalls.wkg (AC.go (objs:= [(0, .var 130 (Reader.cells o0)),(1, .var 45 [(.int .i64 0),(.str ⟨#[]⟩),(.sl 0 true []),(.sl 0 true [])]),(2, .var 45 [(.int .i64 o2_0),(.str o2_1),(.bs 1 3 6 0 o2_2.length),(.bs 4 4 4 0 o2_3.length)]),(6, .row 9 (o2_2.map sc).flatten),(4, .row 45 (o2_3.map Node.cells).flatten),(7, .var 45 [(.int .i64 o5_0),(.str o5_1),(.bs 1 6 11 0 o5_2.length),(.bs 4 7 9 0 o5_3.length)]),(11, .row 9 (o5_2.map sc).flatten),(9, .row 45 (o5_3.map Node.cells).flatten),(12, .var 45 [(.int .i64 (4:Int)),(.str ⟨#[]⟩),(.bs 1 9 13 0 ([]:LB).length),(.bs 4 10 14 0 ([]:LN).length)]),(13, .row 9 (([]:LB).map sc).flatten),(14, .row 45 (([]:LN).map Node.cells).flatten)]) (xs:= [(.ptr 0 0 0),(.ptr 8 12 0)]) (q8 _ _ _ _ _ _ hx) [0,8,9,10] [0,12,13,14] rfl rfl rfl rfl rfl rfl rfl rfl rfl) (qg (qq _) (qg (qq _) z6)) (qe (qe (qe (qe (qe (qe (qe (qe (jb (qd (qw _) (qd (qw _) (qd (zb rfl) (qd (zb rfl) jt)))) (zj _))))))))))))) ?_
 refine kr [20,2000011,2000013] ?_
 obtain ⟨x13,hx,h⟩:=bind_some h
 rcases x13 with ee | x13
 ·replace h:some (.error ee)=some r:=h
  cases h
  exact q7 (FC.go (vi _ _ hx) [0] [0] rfl rfl rfl rfl rfl rfl)
 refine qc (AC.g9 (vi _ _ hx) [0] [0]) ?_
 refine kr [20,2000011,2000013] ?_
 obtain ⟨x14,hx,h⟩:=bind_some h
 refine qc (AC.g9 (zg _ _ _ _ _ _ hx) [8,9,10] [12,15,14]) ?_
 refine kr [20,2000011,2000013] ?_
 refine Ya 8 2 9 y8 rfl rfl rfl rfl rfl rfl ?_
 refine Ya 8 3 10 zd rfl rfl rfl rfl rfl rfl ?_
 refine qbn ?_
 refine kr [20,2000011,2000013] ?_
 obtain ⟨x15,hx,h⟩:=bind_some h
 refine qc (AC.g9 (zg _ _ _ _ _ _ hx) [5,6,7] [7,11,9]) ?_
 refine kr [20,2000011,2000013] ?_
 exact zy (by kernel_rfl) lQ (u0 _ _ _ _ _ _ _ _ _ _ h)
theorem u0:PC9 uz jg:=Zd.1
theorem uq:PC9 uk jv:=Zd.2
def ye (a0:Reader):Option (Except Int (Node × Reader)):=
 qj a0 (2:Int) (⟨#[]⟩) ([]:LB) ([]:LN) (⟨#[102,110]⟩:BA) >>=fun x1=>
 match x1 with
 | .error ee=>some (.error ee)
 | .ok x1=>
 zp x1.1 (2:Int) (⟨#[]⟩) x1.2 ([]:LN) >>=fun x2=>
 match x2 with
 | .error ee=>some (.error ee)
 | .ok x2=>
 qj x2.1 (3:Int) (⟨#[]⟩) ([]:LB) ([]:LN) (⟨#[40]⟩:BA) >>=fun x3=>
 match x3 with
 | .error ee=>some (.error ee)
 | .ok x3=>
 jg x3.1 (2:Int) x2.2.1 x2.2.2 ([]:LN) (3:Int) (⟨#[]⟩) x3.2 ([]:LN)
@[reducible] def qbd (a0:Reader) (r:Except Int (Node × Reader)):Prop:=
  exq (fun (r:Node × Reader)=>AC Tryz.prog G 83 [(.ptr 0 0 0)] 1 [(0, .var 130 (Reader.cells a0))] (.agg (zq r.1)) 1 [(0, .var 130 (Reader.cells r.2))]) (fun e=>FC Tryz.prog G 83 [(.ptr 0 0 0)] 1 [(0, .var 130 (Reader.cells a0))] (flt e)) r
theorem wz:PC1 qbd ye:=fun a0 r h=>by
 rw [ye.eq_def] at h
 refine Y7 (T:=tt) (N:=42) (rs:= [.cell 2 45]) (fun vs w=>by simp) Tryz.func83 rfl rfl rfl (by kernel_rfl) (by kernel_rfl) (kv rfl rfl kh) (zr zn) (fun r=>(ku rfl kg)) (fun r=>(zr zn)) (fun _=>rfl) (fun _=>rfl) rfl (fun _=>rfl) ?_
 refine kr [20,2000011,2000013] ?_
 obtain ⟨x1,hx,h⟩:=bind_some h
 rcases x1 with ee | x1
 ·replace h:some (.error ee)=some r:=h
  cases h
  exact q7 (FCalls.ghost (e:=9) (FCalls.ghost (e:=45) (FCalls.wkg (FC.go (objs:= [(0, .var 130 (Reader.cells a0)),(1, .var 45 [(.int .i64 0),(.str ⟨#[]⟩),(.sl 0 true []),(.sl 0 true [])]),(2, .var 45 [(.int .i64 (2:Int)),(.str ⟨#[]⟩),(.bs 1 3 3 0 ([]:LB).length),(.bs 4 4 4 0 ([]:LN).length)]),(3, .row 9 (([]:LB).map sc).flatten),(4, .row 45 (([]:LN).map Node.cells).flatten)]) (xs:= [(.ptr 0 0 0),(.ptr 2 2 0),(.str (⟨#[102,110]⟩:BA))]) (qb _ _ _ _ _ _ _ hx) [0,2,3,4] [0,2,3,4] rfl rfl rfl rfl rfl rfl) (qg (qq _) (qg (qq _) (qg (qq _) z6))) (qe (qe (jb (qd (qw _) (qd (qw _) (qd (zb rfl) (qd (zb rfl) jt)))) (zj _)))))))
 refine qc (ACalls.ghost (e:=9) (ACalls.ghost (e:=45) (ACalls.wkg (AC.go (objs:= [(0, .var 130 (Reader.cells a0)),(1, .var 45 [(.int .i64 0),(.str ⟨#[]⟩),(.sl 0 true []),(.sl 0 true [])]),(2, .var 45 [(.int .i64 (2:Int)),(.str ⟨#[]⟩),(.bs 1 3 3 0 ([]:LB).length),(.bs 4 4 4 0 ([]:LN).length)]),(3, .row 9 (([]:LB).map sc).flatten),(4, .row 45 (([]:LN).map Node.cells).flatten)]) (xs:= [(.ptr 0 0 0),(.ptr 2 2 0),(.str (⟨#[102,110]⟩:BA))]) (qb _ _ _ _ _ _ _ hx) [0,2,3,4] [0,2,3,4] rfl rfl rfl rfl rfl rfl rfl rfl rfl) (qg (qq _) (qg (qq _) (qg (qq _) z6))) (qe (qe (jb (qd (qw _) (qd (qw _) (qd (zb rfl) (qd (zb rfl) jt)))) (zj _))))))) ?_
 refine kr [20,2000011,2000013] ?_
 obtain ⟨x2,hx,h⟩:=bind_some h
 rcases x2 with ee | x2
 ·replace h:some (.error ee)=some r:=h
  cases h
  exact q7 (FC.go (q8 _ _ _ _ _ _ hx) [0,2,3,4] [0,2,5,4] rfl rfl rfl rfl rfl rfl)
 refine qc (AC.g9 (q8 _ _ _ _ _ _ hx) [0,2,3,4] [0,2,5,4]) ?_
 refine kr [20,2000011,2000013] ?_
 obtain ⟨x3,hx,h⟩:=bind_some h
 rcases x3 with ee | x3
 ·replace h:some (.error ee)=some r:=h
  cases h
  exact q7 (FCalls.ghost (e:=9) (FCalls.ghost (e:=45) (FCalls.wkg (FC.go (objs:= [(0, .var 130 (Reader.cells x2.1)),(1, .var 45 [(.int .i64 0),(.str ⟨#[]⟩),(.sl 0 true []),(.sl 0 true [])]),(2, .var 45 [(.int .i64 (2:Int)),(.str x2.2.1),(.bs 1 3 6 0 x2.2.2.length),(.bs 4 4 4 0 ([]:LN).length)]),(6, .row 9 (x2.2.2.map sc).flatten),(4, .row 45 (([]:LN).map Node.cells).flatten),(7, .var 45 [(.int .i64 (3:Int)),(.str ⟨#[]⟩),(.bs 1 6 8 0 ([]:LB).length),(.bs 4 7 9 0 ([]:LN).length)]),(8, .row 9 (([]:LB).map sc).flatten),(9, .row 45 (([]:LN).map Node.cells).flatten)]) (xs:= [(.ptr 0 0 0),(.ptr 5 7 0),(.str (⟨#[40]⟩:BA))]) (qb _ _ _ _ _ _ _ hx) [0,5,6,7] [0,7,8,9] rfl rfl rfl rfl rfl rfl) (qg (qq _) (qg (qq _) (qg (qq _) z6))) (qe (qe (qe (qe (qe (jb (qd (qw _) (qd (qw _) (qd (zb rfl) (qd (zb rfl) jt)))) (zj _))))))))))
 refine qc (ACalls.ghost (e:=9) (ACalls.ghost (e:=45) (ACalls.wkg (AC.go (objs:= [(0, .var 130 (Reader.cells x2.1)),(1, .var 45 [(.int .i64 0),(.str ⟨#[]⟩),(.sl 0 true []),(.sl 0 true [])]),(2, .var 45 [(.int .i64 (2:Int)),(.str x2.2.1),(.bs 1 3 6 0 x2.2.2.length),(.bs 4 4 4 0 ([]:LN).length)]),(6, .row 9 (x2.2.2.map sc).flatten),(4, .row 45 (([]:LN).map Node.cells).flatten),(7, .var 45 [(.int .i64 (3:Int)),(.str ⟨#[]⟩),(.bs 1 6 8 0 ([]:LB).length),(.bs 4 7 9 0 ([]:LN).length)]),(8, .row 9 (([]:LB).map sc).flatten),(9, .row 45 (([]:LN).map Node.cells).flatten)]) (xs:= [(.ptr 0 0 0),(.ptr 5 7 0),(.str (⟨#[40]⟩:BA))]) (qb _ _ _ _ _ _ _ hx) [0,5,6,7] [0,7,8,9] rfl rfl rfl rfl rfl rfl rfl rfl rfl) (qg (qq _) (qg (qq _) (qg (qq _) z6))) (qe (qe (qe (qe (qe (jb (qd (qw _) (qd (qw _) (qd (zb rfl) (qd (zb rfl) jt)))) (zj _)))))))))) ?_
 refine kr [20,2000011,2000013] ?_
 exact jh (by kernel_rfl) lQ (u0 _ _ _ _ _ _ _ _ _ _ h)
def j3 (o0:Reader) (o2_0:Int) (o2_1:BA) (o2_2:LB) (o2_3:LN):Option (Except Int (Node × Reader)):=
 q4 (qa o0) (⟨#[102,110]⟩:BA) >>=fun x8=>
 if x8=true then
  ye (qa o0) >>=fun x9=>
  match x9 with
  | .error ee=>some (.error ee)
  | .ok x9=>
  zf (qa o2_0) (qa o2_1) (qa o2_2) (qa o2_3) x9.1 >>=fun x10=>
  j3 x9.2 (qa o2_0) (qa o2_1) (qa o2_2) (qa x10)
 else
  qj (qa o0) (qa o2_0) (qa o2_1) (qa o2_2) (qa o2_3) (⟨#[125]⟩:BA) >>=fun x11=>
  match x11 with
  | .error ee=>some (.error ee)
  | .ok x11=>
  some (.ok ((Node.mk o2_0 o2_1 x11.2 o2_3),x11.1))
 partial_fixpoint
@[reducible] def Jm (o0:Reader) (o2_0:Int) (o2_1:BA) (o2_2:LB) (o2_3:LN) (r:Except Int (Node × Reader)):Prop:=
  Ok Tryz.prog G tt 29 1 (exq (fun (r:Node × Reader)=>Ret Tryz.prog [.cell 2 45] (fun y H=>Qw Tryz.prog G 1 H y (.agg (zq r.1)) ⟨1, [(0, .var 130 (Reader.cells r.2))]⟩)) (fun e=>Z8 (flt e)) r) (.again (jj [12] Tryz.f84 0).1 (jj [12] Tryz.f84 0).2 (.n (.ptr 0 0 0) (.n .undef (.n (.ptr 2 2 0) .z .z) .z) (.n (.ptr 1 1 0) .z .z)) 14 [(0, .var 130 (Reader.cells o0)),(1, .var 45 [(.int .i64 0),(.str ⟨#[]⟩),(.sl 0 true []),(.sl 0 true [])]),(2, .var 45 [(.int .i64 o2_0),(.str o2_1),(.bs 1 3 13 0 o2_2.length),(.bs 4 4 12 0 o2_3.length)]),(13, .row 9 (o2_2.map sc).flatten),(12, .row 45 (o2_3.map Node.cells).flatten)])
theorem Qe:PC5 Jm j3:=by
 refine j3.partial_correctness Jm (fun j3 Qe o0 o2_0 o2_1 o2_2 o2_3 r h=> ?_)
 unfold qa at h
 refine j7 ?_
 refine kr [12] ?_
 obtain ⟨x8,hx,h⟩:=bind_some h
 refine qc (AC.g9 (q6 _ _ _ hx) [0] [0]) ?_
 refine kr [12] ?_
 refine qf (fun hb=> ?_) (fun hb=> ?_)
 ·replace h:=qx hb h
  refine kr [12] ?_
  obtain ⟨x9,hx,h⟩:=bind_some h
  rcases x9 with ee | x9
  ·replace h:some (.error ee)=some r:=h
   cases h
   exact q7 (FC.go (wz _ _ hx) [0] [0] rfl rfl rfl rfl rfl rfl)
  refine qc (AC.g9 (wz _ _ hx) [0] [0]) ?_
  refine kr [12] ?_
  obtain ⟨x10,hx,h⟩:=bind_some h
  refine qc (AC.g9 (zg _ _ _ _ _ _ hx) [2,3,4] [2,13,12]) ?_
  refine kr [12] ?_
  exact zy (by kernel_rfl) lQ (Qe _ _ _ _ _ _ h)
 replace h:=qy hb h
 refine kr [12] ?_
 obtain ⟨x11,hx,h⟩:=bind_some h
 rcases x11 with ee | x11
 ·replace h:some (.error ee)=some r:=h
  cases h
  exact q7 (FC.go (qb _ _ _ _ _ _ _ hx) [0,2,3,4] [0,2,13,12] rfl rfl rfl rfl rfl rfl)
 refine qc (AC.g9 (qb _ _ _ _ _ _ _ hx) [0,2,3,4] [0,2,13,12]) ?_
 refine kr [12] ?_
 cases h
 exact ya env rfl rfl (tS [some 0] (sV (lS (lS lN)) zt) (j4 (yn (qi (qh (zm rfl) rfl) (qi (qh (jw rfl) rfl) (qi (qh (jd y8 rfl) rfl) (qi (qh (jd zd rfl) rfl) ym))))) (by simp)))
def yv (o0:Reader) (o2_0:Int) (o2_1:BA) (o2_2:LB) (o2_3:LN) (o5:Node):Option (Except Int (Node × Reader)):=
 zf o2_0 o2_1 o2_2 o2_3 o5 >>=fun x6=>
 qj o0 o2_0 o2_1 o2_2 x6 (⟨#[123]⟩:BA) >>=fun x7=>
 match x7 with
 | .error ee=>some (.error ee)
 | .ok x7=>
 j3 x7.1 o2_0 o2_1 x7.2 x6
@[reducible] def qaq (o0:Reader) (o2_0:Int) (o2_1:BA) (o2_2:LB) (o2_3:LN) (o5:Node) (r:Except Int (Node × Reader)):Prop:=
  Ok Tryz.prog G tt 29 1 (exq (fun (r:Node × Reader)=>Ret Tryz.prog [.cell 2 45] (fun y H=>Qw Tryz.prog G 1 H y (.agg (zq r.1)) ⟨1, [(0, .var 130 (Reader.cells r.2))]⟩)) (fun e=>Z8 (flt e)) r) (.go [] (w9 [12] Tryz.f84 12) [] (.n (.ptr 0 0 0) (.n .undef (.n (.ptr 2 2 0) .z .z) .z) (.n (.ptr 1 1 0) (.n (.ptr 5 7 0) .z .z) .z)) 12 [(0, .var 130 (Reader.cells o0)),(1, .var 45 [(.int .i64 0),(.str ⟨#[]⟩),(.sl 0 true []),(.sl 0 true [])]),(2, .var 45 [(.int .i64 o2_0),(.str o2_1),(.bs 1 3 6 0 o2_2.length),(.bs 4 4 4 0 o2_3.length)]),(6, .row 9 (o2_2.map sc).flatten),(4, .row 45 (o2_3.map Node.cells).flatten),(7, .var 45 (zq o5))])
theorem Z6:PC6 qaq yv:=fun o0 o2_0 o2_1 o2_2 o2_3 o5 r h=>by
 rw [yv.eq_def] at h
 refine kr [12] ?_
 obtain ⟨x6,hx,h⟩:=bind_some h
 refine qc (AC.g9 (zg _ _ _ _ _ _ hx) [2,3,4] [2,6,4]) ?_
 refine kr [12] ?_
 obtain ⟨x7,hx,h⟩:=bind_some h
 rcases x7 with ee | x7
 ·replace h:some (.error ee)=some r:=h
  cases h
  exact q7 (FC.go (qb _ _ _ _ _ _ _ hx) [0,2,3,4] [0,2,6,12] rfl rfl rfl rfl rfl rfl)
 refine qc (AC.g9 (qb _ _ _ _ _ _ _ hx) [0,2,3,4] [0,2,6,12]) ?_
 refine kr [12] ?_
 exact jh (by kernel_rfl) lQ (Qe _ _ _ _ _ _ h)
def wd (a0:Reader):Option (Except Int (Node × Reader)):=
 qj a0 (7:Int) (⟨#[]⟩) ([]:LB) ([]:LN) (⟨#[99,108,97,115,115]⟩:BA) >>=fun x1=>
 match x1 with
 | .error ee=>some (.error ee)
 | .ok x1=>
 zp x1.1 (7:Int) (⟨#[]⟩) x1.2 ([]:LN) >>=fun x2=>
 match x2 with
 | .error ee=>some (.error ee)
 | .ok x2=>
 q4 x2.1 (⟨#[58]⟩:BA) >>=fun x3=>
 if x3=true then
  qj x2.1 (8:Int) (⟨#[]⟩) ([]:LB) ([]:LN) (⟨#[58]⟩:BA) >>=fun x4=>
  match x4 with
  | .error ee=>some (.error ee)
  | .ok x4=>
  zp x4.1 (8:Int) (⟨#[]⟩) x4.2 ([]:LN) >>=fun x5=>
  match x5 with
  | .error ee=>some (.error ee)
  | .ok x5=>
  yv x5.1 (7:Int) x2.2.1 x2.2.2 ([]:LN) (Node.mk (8:Int) x5.2.1 x5.2.2 ([]:LN))
 else
  yv x2.1 (7:Int) x2.2.1 x2.2.2 ([]:LN) (Node.mk (8:Int) (⟨#[]⟩) ([]:LB) ([]:LN))
@[reducible] def qc6 (a0:Reader) (r:Except Int (Node × Reader)):Prop:=
  exq (fun (r:Node × Reader)=>AC Tryz.prog G 84 [(.ptr 0 0 0)] 1 [(0, .var 130 (Reader.cells a0))] (.agg (zq r.1)) 1 [(0, .var 130 (Reader.cells r.2))]) (fun e=>FC Tryz.prog G 84 [(.ptr 0 0 0)] 1 [(0, .var 130 (Reader.cells a0))] (flt e)) r
theorem Yp:PC1 qc6 wd:=fun a0 r h=>by
 rw [wd.eq_def] at h
 refine Y7 (T:=tt) (N:=29) (rs:= [.cell 2 45]) (fun vs w=>by simp) Tryz.func84 rfl rfl rfl (by kernel_rfl) (by kernel_rfl) (kv rfl rfl kh) (zr zn) (fun r=>(ku rfl kg)) (fun r=>(zr zn)) (fun _=>rfl) (fun _=>rfl) rfl (fun _=>rfl) ?_
 refine kr [12] ?_
 obtain ⟨x1,hx,h⟩:=bind_some h
 rcases x1 with ee | x1
 ·replace h:some (.error ee)=some r:=h
  cases h
  exact q7 (FCalls.ghost (e:=9) (FCalls.ghost (e:=45) (FCalls.wkg (FC.go (objs:= [(0, .var 130 (Reader.cells a0)),(1, .var 45 [(.int .i64 0),(.str ⟨#[]⟩),(.sl 0 true []),(.sl 0 true [])]),(2, .var 45 [(.int .i64 (7:Int)),(.str ⟨#[]⟩),(.bs 1 3 3 0 ([]:LB).length),(.bs 4 4 4 0 ([]:LN).length)]),(3, .row 9 (([]:LB).map sc).flatten),(4, .row 45 (([]:LN).map Node.cells).flatten)]) (xs:= [(.ptr 0 0 0),(.ptr 2 2 0),(.str (⟨#[99,108,97,115,115]⟩:BA))]) (qb _ _ _ _ _ _ _ hx) [0,2,3,4] [0,2,3,4] rfl rfl rfl rfl rfl rfl) (qg (qq _) (qg (qq _) (qg (qq _) z6))) (qe (qe (jb (qd (qw _) (qd (qw _) (qd (zb rfl) (qd (zb rfl) jt)))) (zj _)))))))
 refine qc (ACalls.ghost (e:=9) (ACalls.ghost (e:=45) (ACalls.wkg (AC.go (objs:= [(0, .var 130 (Reader.cells a0)),(1, .var 45 [(.int .i64 0),(.str ⟨#[]⟩),(.sl 0 true []),(.sl 0 true [])]),(2, .var 45 [(.int .i64 (7:Int)),(.str ⟨#[]⟩),(.bs 1 3 3 0 ([]:LB).length),(.bs 4 4 4 0 ([]:LN).length)]),(3, .row 9 (([]:LB).map sc).flatten),(4, .row 45 (([]:LN).map Node.cells).flatten)]) (xs:= [(.ptr 0 0 0),(.ptr 2 2 0),(.str (⟨#[99,108,97,115,115]⟩:BA))]) (qb _ _ _ _ _ _ _ hx) [0,2,3,4] [0,2,3,4] rfl rfl rfl rfl rfl rfl rfl rfl rfl) (qg (qq _) (qg (qq _) (qg (qq _) z6))) (qe (qe (jb (qd (qw _) (qd (qw _) (qd (zb rfl) (qd (zb rfl) jt)))) (zj _))))))) ?_
 refine kr [12] ?_
 obtain ⟨x2,hx,h⟩:=bind_some h
 rcases x2 with ee | x2
 ·replace h:some (.error ee)=some r:=h
  cases h
  exact q7 (FC.go (q8 _ _ _ _ _ _ hx) [0,2,3,4] [0,2,5,4] rfl rfl rfl rfl rfl rfl)
 refine qc (AC.g9 (q8 _ _ _ _ _ _ hx) [0,2,3,4] [0,2,5,4]) ?_
 refine kr [12] ?_
 obtain ⟨x3,hx,h⟩:=bind_some h
 refine qc (AC.g9 (q6 _ _ _ hx) [0] [0]) ?_
 refine kr [12] ?_
 refine qf (fun hb=> ?_) (fun hb=> ?_)
 ·replace h:=qx hb h
  refine kr [12] ?_
  obtain ⟨x4,hx,h⟩:=bind_some h
  rcases x4 with ee | x4
  ·replace h:some (.error ee)=some r:=h
   cases h
   exact q7 (FCalls.ghost (e:=9) (FCalls.ghost (e:=45) (FCalls.wkg (FC.go (objs:= [(0, .var 130 (Reader.cells x2.1)),(1, .var 45 [(.int .i64 0),(.str ⟨#[]⟩),(.sl 0 true []),(.sl 0 true [])]),(2, .var 45 [(.int .i64 (7:Int)),(.str x2.2.1),(.bs 1 3 6 0 x2.2.2.length),(.bs 4 4 4 0 ([]:LN).length)]),(6, .row 9 (x2.2.2.map sc).flatten),(4, .row 45 (([]:LN).map Node.cells).flatten),(7, .var 45 [(.int .i64 (8:Int)),(.str ⟨#[]⟩),(.bs 1 6 8 0 ([]:LB).length),(.bs 4 7 9 0 ([]:LN).length)]),(8, .row 9 (([]:LB).map sc).flatten),(9, .row 45 (([]:LN).map Node.cells).flatten)]) (xs:= [(.ptr 0 0 0),(.ptr 5 7 0),(.str (⟨#[58]⟩:BA))]) (qb _ _ _ _ _ _ _ hx) [0,5,6,7] [0,7,8,9] rfl rfl rfl rfl rfl rfl) (qg (qq _) (qg (qq _) (qg (qq _) z6))) (qe (qe (qe (qe (qe (jb (qd (qw _) (qd (qw _) (qd (zb rfl) (qd (zb rfl) jt)))) (zj _))))))))))
  refine qc (ACalls.ghost (e:=9) (ACalls.ghost (e:=45) (ACalls.wkg (AC.go (objs:= [(0, .var 130 (Reader.cells x2.1)),(1, .var 45 [(.int .i64 0),(.str ⟨#[]⟩),(.sl 0 true []),(.sl 0 true [])]),(2, .var 45 [(.int .i64 (7:Int)),(.str x2.2.1),(.bs 1 3 6 0 x2.2.2.length),(.bs 4 4 4 0 ([]:LN).length)]),(6, .row 9 (x2.2.2.map sc).flatten),(4, .row 45 (([]:LN).map Node.cells).flatten),(7, .var 45 [(.int .i64 (8:Int)),(.str ⟨#[]⟩),(.bs 1 6 8 0 ([]:LB).length),(.bs 4 7 9 0 ([]:LN).length)]),(8, .row 9 (([]:LB).map sc).flatten),(9, .row 45 (([]:LN).map Node.cells).flatten)]) (xs:= [(.ptr 0 0 0),(.ptr 5 7 0),(.str (⟨#[58]⟩:BA))]) (qb _ _ _ _ _ _ _ hx) [0,5,6,7] [0,7,8,9] rfl rfl rfl rfl rfl rfl rfl rfl rfl) (qg (qq _) (qg (qq _) (qg (qq _) z6))) (qe (qe (qe (qe (qe (jb (qd (qw _) (qd (qw _) (qd (zb rfl) (qd (zb rfl) jt)))) (zj _)))))))))) ?_
  refine kr [12] ?_
  obtain ⟨x5,hx,h⟩:=bind_some h
  rcases x5 with ee | x5
  ·replace h:some (.error ee)=some r:=h
   cases h
   exact q7 (FC.go (q8 _ _ _ _ _ _ hx) [0,5,6,7] [0,7,10,9] rfl rfl rfl rfl rfl rfl)
  refine qc (AC.g9 (q8 _ _ _ _ _ _ hx) [0,5,6,7] [0,7,10,9]) ?_
  refine kr [12] ?_
  refine Ya 5 2 6 y8 rfl rfl rfl rfl rfl rfl ?_
  refine Ya 5 3 7 zd rfl rfl rfl rfl rfl rfl ?_
  exact qr (by kernel_rfl) rfl lQ (Z6 _ _ _ _ _ _ _ h)
 replace h:=qy hb h
 refine kr [12] ?_
 exact qr (by kernel_rfl) rfl lQ (Z6 _ _ _ _ _ _ _ h)
mutual
def zi (o0:Reader) (o2_0:Int) (o2_1:BA) (o2_2:LB) (o2_3:LN):Option (Except Int (Node × Reader)):=
 zl (qa o0) >>=fun x1=>
 if (!decide (x1.Kind=(4:Int)))=true then
  q4 (qa o0) (⟨#[102,110]⟩:BA) >>=fun x2=>
  if x2=true then
   ye (qa o0) >>=fun x3=>
   match x3 with
   | .error ee=>some (.error ee)
   | .ok x3=>
   zf (qa o2_0) (qa o2_1) (qa o2_2) (qa o2_3) x3.1 >>=fun x4=>
   jz x3.2 (qa o2_0) (qa o2_1) (qa o2_2) (qa x4)
  else
   q4 (qa o0) (⟨#[99,108,97,115,115]⟩:BA) >>=fun x5=>
   if x5=true then
    wd (qa o0) >>=fun x6=>
    match x6 with
    | .error ee=>some (.error ee)
    | .ok x6=>
    zf (qa o2_0) (qa o2_1) (qa o2_2) (qa o2_3) x6.1 >>=fun x7=>
    jy x6.2 (qa o2_0) (qa o2_1) (qa o2_2) (qa x7)
   else
    q4 (qa o0) (⟨#[99,111,110,115,116]⟩:BA) >>=fun x8=>
    if x8=true then
     wc (qa o0) (9:Int) (⟨#[99,111,110,115,116]⟩:BA) >>=fun x9=>
     match x9 with
     | .error ee=>some (.error ee)
     | .ok x9=>
     zf (qa o2_0) (qa o2_1) (qa o2_2) (qa o2_3) x9.1 >>=fun x10=>
     yf x9.2 (qa o2_0) (qa o2_1) (qa o2_2) (qa x10)
    else
     yq (qa o0) >>=fun x11=>
     match x11 with
     | .error ee=>some (.error ee)
     | .ok x11=>
     yf (qa o0) (qa o2_0) (qa o2_1) (qa o2_2) (qa o2_3)
 else
  zl (qa o0) >>=fun x12=>
  app 16 o2_2 ([x12.Lead]) >>=fun x13=>
  some (.ok ((Node.mk o2_0 o2_1 x13 o2_3),o0))
 partial_fixpoint
def jz (o0:Reader) (o2_0:Int) (o2_1:BA) (o2_2:LB) (o2_3:LN):Option (Except Int (Node × Reader)):=
 zi (qa o0) (qa o2_0) (qa o2_1) (qa o2_2) (qa o2_3)
 partial_fixpoint
def jy (o0:Reader) (o2_0:Int) (o2_1:BA) (o2_2:LB) (o2_3:LN):Option (Except Int (Node × Reader)):=
 jz (qa o0) (qa o2_0) (qa o2_1) (qa o2_2) (qa o2_3)
 partial_fixpoint
def yf (o0:Reader) (o2_0:Int) (o2_1:BA) (o2_2:LB) (o2_3:LN):Option (Except Int (Node × Reader)):=
 jy (qa o0) (qa o2_0) (qa o2_1) (qa o2_2) (qa o2_3)
 partial_fixpoint
end
@[reducible] def Qm (o0:Reader) (o2_0:Int) (o2_1:BA) (o2_2:LB) (o2_3:LN) (r:Except Int (Node × Reader)):Prop:=
  Ok Tryz.prog G tt 38 1 (exq (fun (r:Node × Reader)=>Ret Tryz.prog [.cell 2 45] (fun y H=>Qw Tryz.prog G 1 H y (.agg (zq r.1)) ⟨1, [(0, .var 130 (Reader.cells r.2))]⟩)) (fun e=>Z8 (flt e)) r) (.again (jj [11,17,23] Tryz.f55 0).1 (jj [11,17,23] Tryz.f55 0).2 (.n (.ptr 0 0 0) (.n .undef (.n (.ptr 2 2 0) .z .z) .z) (.n (.ptr 1 1 0) .z .z)) 5 [(0, .var 130 (Reader.cells o0)),(1, .var 45 [(.int .i64 0),(.str ⟨#[]⟩),(.sl 0 true []),(.sl 0 true [])]),(2, .var 45 [(.int .i64 o2_0),(.str o2_1),(.bs 1 3 3 0 o2_2.length),(.bs 4 4 4 0 o2_3.length)]),(3, .row 9 (o2_2.map sc).flatten),(4, .row 45 (o2_3.map Node.cells).flatten)])
@[reducible] def Qa (o0:Reader) (o2_0:Int) (o2_1:BA) (o2_2:LB) (o2_3:LN) (r:Except Int (Node × Reader)):Prop:=
  Ok Tryz.prog G tt 38 1 (exq (fun (r:Node × Reader)=>Ret Tryz.prog [.cell 2 45] (fun y H=>Qw Tryz.prog G 1 H y (.agg (zq r.1)) ⟨1, [(0, .var 130 (Reader.cells r.2))]⟩)) (fun e=>Z8 (flt e)) r) (.go [] (w9 [11,17,23] Tryz.f55 11) [] (.n (.ptr 0 0 0) (.n .undef (.n (.ptr 2 2 0) .z .z) .z) (.n (.ptr 1 1 0) .z .z)) 6 [(0, .var 130 (Reader.cells o0)),(1, .var 45 [(.int .i64 0),(.str ⟨#[]⟩),(.sl 0 true []),(.sl 0 true [])]),(2, .var 45 [(.int .i64 o2_0),(.str o2_1),(.bs 1 3 3 0 o2_2.length),(.bs 4 4 5 0 o2_3.length)]),(3, .row 9 (o2_2.map sc).flatten),(5, .row 45 (o2_3.map Node.cells).flatten)])
@[reducible] def v8 (o0:Reader) (o2_0:Int) (o2_1:BA) (o2_2:LB) (o2_3:LN) (r:Except Int (Node × Reader)):Prop:=
  Ok Tryz.prog G tt 38 1 (exq (fun (r:Node × Reader)=>Ret Tryz.prog [.cell 2 45] (fun y H=>Qw Tryz.prog G 1 H y (.agg (zq r.1)) ⟨1, [(0, .var 130 (Reader.cells r.2))]⟩)) (fun e=>Z8 (flt e)) r) (.go [] (w9 [11,17,23] Tryz.f55 17) [] (.n (.ptr 0 0 0) (.n .undef (.n (.ptr 2 2 0) .z .z) .z) (.n (.ptr 1 1 0) .z .z)) 6 [(0, .var 130 (Reader.cells o0)),(1, .var 45 [(.int .i64 0),(.str ⟨#[]⟩),(.sl 0 true []),(.sl 0 true [])]),(2, .var 45 [(.int .i64 o2_0),(.str o2_1),(.bs 1 3 3 0 o2_2.length),(.bs 4 4 5 0 o2_3.length)]),(3, .row 9 (o2_2.map sc).flatten),(5, .row 45 (o2_3.map Node.cells).flatten)])
@[reducible] def v7 (o0:Reader) (o2_0:Int) (o2_1:BA) (o2_2:LB) (o2_3:LN) (r:Except Int (Node × Reader)):Prop:=
  Ok Tryz.prog G tt 38 1 (exq (fun (r:Node × Reader)=>Ret Tryz.prog [.cell 2 45] (fun y H=>Qw Tryz.prog G 1 H y (.agg (zq r.1)) ⟨1, [(0, .var 130 (Reader.cells r.2))]⟩)) (fun e=>Z8 (flt e)) r) (.go [] (w9 [11,17,23] Tryz.f55 23) [] (.n (.ptr 0 0 0) (.n .undef (.n (.ptr 2 2 0) .z .z) .z) (.n (.ptr 1 1 0) .z .z)) 6 [(0, .var 130 (Reader.cells o0)),(1, .var 45 [(.int .i64 0),(.str ⟨#[]⟩),(.sl 0 true []),(.sl 0 true [])]),(2, .var 45 [(.int .i64 o2_0),(.str o2_1),(.bs 1 3 3 0 o2_2.length),(.bs 4 4 5 0 o2_3.length)]),(3, .row 9 (o2_2.map sc).flatten),(5, .row 45 (o2_3.map Node.cells).flatten)])
theorem wv:PC5 Qm zi∧PC5 v7 yf∧PC5 v8 jy∧PC5 Qa jz:=by
 refine zi.mutual_partial_correctness Qm v7 v8 Qa (fun yf jy jz Qd w0 w4 o0 o2_0 o2_1 o2_2 o2_3 r h=> ?_) (fun jy w0 o0 o2_0 o2_1 o2_2 o2_3 r h=> ?_) (fun jz w4 o0 o2_0 o2_1 o2_2 o2_3 r h=> ?_) (fun zi Qo o0 o2_0 o2_1 o2_2 o2_3 r h=> ?_)
 ·unfold qa at h
  refine j7 ?_
  refine kr [11,17,23] ?_
  obtain ⟨x1,hx,h⟩:=bind_some h
  refine qc (AC.g9 (jc _ _ hx) [0] [0]) ?_
  refine kr [11,17,23] ?_
  refine qf (fun hb=> ?_) (fun hb=> ?_)
  ·replace h:=qx hb h
   refine kr [11,17,23] ?_
   obtain ⟨x2,hx,h⟩:=bind_some h
   refine qc (AC.g9 (q6 _ _ _ hx) [0] [0]) ?_
   refine kr [11,17,23] ?_
   refine qf (fun hb=> ?_) (fun hb=> ?_)
   ·replace h:=qx hb h
    refine kr [11,17,23] ?_
    obtain ⟨x3,hx,h⟩:=bind_some h
    rcases x3 with ee | x3
    ·replace h:some (.error ee)=some r:=h
     cases h
     exact q7 (FC.go (wz _ _ hx) [0] [0] rfl rfl rfl rfl rfl rfl)
    refine qc (AC.g9 (wz _ _ hx) [0] [0]) ?_
    refine kr [11,17,23] ?_
    obtain ⟨x4,hx,h⟩:=bind_some h
    refine qc (AC.g9 (zg _ _ _ _ _ _ hx) [2,3,4] [2,3,4]) ?_
    refine kr [11,17,23] ?_
    exact qr (by kernel_rfl) rfl lQ (w4 _ _ _ _ _ _ h)
   replace h:=qy hb h
   refine kr [11,17,23] ?_
   obtain ⟨x5,hx,h⟩:=bind_some h
   refine qc (AC.g9 (q6 _ _ _ hx) [0] [0]) ?_
   refine kr [11,17,23] ?_
   refine qf (fun hb=> ?_) (fun hb=> ?_)
   ·replace h:=qx hb h
    refine kr [11,17,23] ?_
    obtain ⟨x6,hx,h⟩:=bind_some h
    rcases x6 with ee | x6
    ·replace h:some (.error ee)=some r:=h
     cases h
     exact q7 (FC.go (Yp _ _ hx) [0] [0] rfl rfl rfl rfl rfl rfl)
    refine qc (AC.g9 (Yp _ _ hx) [0] [0]) ?_
    refine kr [11,17,23] ?_
    obtain ⟨x7,hx,h⟩:=bind_some h
    refine qc (AC.g9 (zg _ _ _ _ _ _ hx) [2,3,4] [2,3,4]) ?_
    refine kr [11,17,23] ?_
    exact qr (by kernel_rfl) rfl lQ (w0 _ _ _ _ _ _ h)
   replace h:=qy hb h
   refine kr [11,17,23] ?_
   obtain ⟨x8,hx,h⟩:=bind_some h
   refine qc (AC.g9 (q6 _ _ _ hx) [0] [0]) ?_
   refine kr [11,17,23] ?_
   refine qf (fun hb=> ?_) (fun hb=> ?_)
   ·replace h:=qx hb h
    refine kr [11,17,23] ?_
    obtain ⟨x9,hx,h⟩:=bind_some h
    rcases x9 with ee | x9
    ·replace h:some (.error ee)=some r:=h
     cases h
     exact q7 (FC.go (u4 _ _ _ _ hx) [0] [0] rfl rfl rfl rfl rfl rfl)
    refine qc (AC.g9 (u4 _ _ _ _ hx) [0] [0]) ?_
    refine kr [11,17,23] ?_
    obtain ⟨x10,hx,h⟩:=bind_some h
    refine qc (AC.g9 (zg _ _ _ _ _ _ hx) [2,3,4] [2,3,4]) ?_
    refine kr [11,17,23] ?_
    exact qr (by kernel_rfl) rfl lQ (Qd _ _ _ _ _ _ h)
   replace h:=qy hb h
   refine kr [11,17,23] ?_
   obtain ⟨x11,hx,h⟩:=bind_some h
   rcases x11 with ee | x11
   ·replace h:some (.error ee)=some r:=h
    cases h
    exact q7 (FC.go (yb _ _ hx) [0] [0] rfl rfl rfl rfl rfl rfl)
   refine qc (AC.g9 (yb _ _ hx) [0] [0]) ?_
   refine kr [11,17,23] ?_
   exact qr (by kernel_rfl) rfl lQ (Qd _ _ _ _ _ _ h)
  replace h:=qy hb h
  refine kr [11,17,23] ?_
  obtain ⟨x12,hx,h⟩:=bind_some h
  refine qc (AC.g9 (jc _ _ hx) [0] [0]) ?_
  refine kr [11,17,23] ?_
  obtain ⟨x13,hx,h⟩:=bind_some h
  have hp_x13:=W5 hx (by simp)
  refine qcr (C:=sc) env hx rfl rfl (by simp) (fun _=>rfl) rfl rfl rfl rfl rfl (by decide) rfl rfl rfl ?_
  refine kr [11,17,23] ?_
  cases h
  exact ya env rfl rfl (tS [some 0] (sV (lS (lS lN)) zt) (j4 (yn (qi (qh (zm rfl) rfl) (qi (qh (jw rfl) rfl) (qi (qh (jd y8 rfl) rfl) (qi (qh (jd zd rfl) rfl) ym))))) (by simp)))
 ·unfold qa at h
  refine kr [11,17,23] ?_
  exact qr (by kernel_rfl) rfl lQ (w0 _ _ _ _ _ _ h)
 ·unfold qa at h
  refine kr [11,17,23] ?_
  exact qr (by kernel_rfl) rfl lQ (w4 _ _ _ _ _ _ h)
 unfold qa at h
 refine kr [11,17,23] ?_
 exact zy (by kernel_rfl) lQ (Qo _ _ _ _ _ _ h)
theorem Qo:PC5 Qm zi:=wv.1
theorem Qd:PC5 v7 yf:=wv.2.1
theorem w0:PC5 v8 jy:=wv.2.2.1
theorem w4:PC5 Qa jz:=wv.2.2.2
def Qu (a0:Reader):Option (Except Int (Node × Reader)):=
 zi a0 (1:Int) (⟨#[]⟩) ([]:LB) ([]:LN)
@[reducible] def qdz (a0:Reader) (r:Except Int (Node × Reader)):Prop:=
  exq (fun (r:Node × Reader)=>AC Tryz.prog G 55 [(.ptr 0 0 0)] 1 [(0, .var 130 (Reader.cells a0))] (.agg (zq r.1)) 1 [(0, .var 130 (Reader.cells r.2))]) (fun e=>FC Tryz.prog G 55 [(.ptr 0 0 0)] 1 [(0, .var 130 (Reader.cells a0))] (flt e)) r
theorem Kd:PC1 qdz Qu:=fun a0 r h=>by
 rw [Qu.eq_def] at h
 refine Y7 (T:=tt) (N:=38) (rs:= [.cell 2 45]) (fun vs w=>by simp) Tryz.func55 rfl rfl rfl (by kernel_rfl) (by kernel_rfl) (kv rfl rfl kh) (zr zn) (fun r=>(ku rfl kg)) (fun r=>(zr zn)) (fun _=>rfl) (fun _=>rfl) rfl (fun _=>rfl) ?_
 refine kr [11,17,23] ?_
 refine qwd 2 2 1 9 rfl rfl rfl ?_
 refine qwd 2 3 4 45 rfl rfl rfl ?_
 exact jh (by kernel_rfl) lQ (Qo _ _ _ _ _ _ h)
def qb8 (a0:Reader):Option (Except Int (Node × Reader)):=
 Qu a0 >>=fun x1=>
 match x1 with
 | .error ee=>some (.error ee)
 | .ok x1=>
 some (.ok (x1.1,x1.2))
@[reducible] def qus (a0:Reader) (r:Except Int (Node × Reader)):Prop:=
  exq (fun (r:Node × Reader)=>AC Tryz.prog G 54 [(.ptr 0 0 0)] 1 [(0, .var 130 (Reader.cells a0))] (.agg (zq r.1)) 1 [(0, .var 130 (Reader.cells r.2))]) (fun e=>FC Tryz.prog G 54 [(.ptr 0 0 0)] 1 [(0, .var 130 (Reader.cells a0))] (flt e)) r
theorem qnh:PC1 qus qb8:=fun a0 r h=>by
 rw [qb8.eq_def] at h
 refine Y7 (T:=tt) (N:=5) (rs:= [.cell 2 45]) (fun vs w=>by simp) Tryz.func54 rfl rfl rfl (by kernel_rfl) (by kernel_rfl) (kv rfl rfl kh) (zr zn) (fun r=>(ku rfl kg)) (fun r=>(zr zn)) (fun _=>rfl) (fun _=>rfl) rfl (fun _=>rfl) ?_
 refine kr [] ?_
 obtain ⟨x1,hx,h⟩:=bind_some h
 rcases x1 with ee | x1
 ·replace h:some (.error ee)=some r:=h
  cases h
  exact q7 (FC.go (Kd _ _ hx) [0] [0] rfl rfl rfl rfl rfl rfl)
 refine qc (AC.g9 (Kd _ _ hx) [0] [0]) ?_
 refine kr [] ?_
 cases h
 exact ya env rfl rfl (tS [some 0] (sV (lS (lS lN)) zt) (j4 (yn (qi (qh (zm rfl) rfl) (qi (qh (jw rfl) rfl) (qi (qh (wg (.inl rfl)) rfl) (qi (qh (wg (.inl rfl)) rfl) ym))))) (by simp)))
noncomputable def cfst:Code→Code
 | .seq x _=>x
 | c=>c
noncomputable def csnd:Code→Code
 | .seq _ y=>y
 | c=>c
noncomputable def cthen:Code→Code
 | .cond _ x _=>x
 | c=>c
theorem q2q (e:Int) (w:World):(Instr.typeAssert (.iface 127 (.int .i64 e)) 20 127 true).run Tryz.prog w= .ok (.tuple #[.int .i64 e, .bool true]) w:=by kernel_rfl
theorem qyl (x y z:Value) (w:World):CallsD Tryz.prog 79 #[x,y,z] .returning w fun e u' w'=>(∃v,e= .returned v)∧u'= .returning∧w'=w:=by
 refine callsD_of_wpS Tryz.func79 rfl fun c₀ cs hu=> ?_
 apply wpS_seq
 apply wpS_region
 simp [wpOpsS,go_sem,recoverD,hu,Tryz.ntmps79,Exit.thenS]
 apply wpS_seq
 apply wpS_region
 simp [wpOpsS,go_sem,Exit.thenS]
 refine wpS_cond (t:=false) (by simp [Act.eval,Array.replicate]) ?_
 simp only [Bool.false_eq_true,if_false]
 refine wpS_of_wp (wp_skip ?_)
 cases c₀
 simp_all [bodyPostS,results,Tryz.results79]
def qn8:List AV:= [.int .i64 0, .str ⟨#[]⟩, .sl 0 true [], .sl 0 true []]
def ql4 (e:Int):Objs:= [(0, .var 45 qn8),(1, .var 26 [.int .i64 1]),(2, .var 3 [.int .i64 e])]
noncomputable def rec5:Code:=csnd (csnd (cthen (csnd (csnd (qeq Tryz.f79)))))
theorem qym (e c6:Int):Ok Tryz.prog G tt 19 3 (Yr (fun _ H=>H=⟨3,ql4 e⟩) (fun _ _ _=>False)) (.go [(0, .ptr 0 0 0),(1, .ptr 1 1 0),(2, .ptr 2 2 0),(4, .int .i64 e)] [.code rec5] [] .z 3 [(0, .var 45 qn8),(1, .var 26 [.int .i64 0]),(2, .var 3 [.int .i64 c6])]):=by
 refine kr [] ?_
 exact qwe rfl
end Go.Proofs.YtpnkemogepoioaaGreatDoorW.Ex.Gr
