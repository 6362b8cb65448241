/- The grammar of trees in plain words: kinds, shapes, levels, own tokens, and what a tree is as cells of memory. No conditions beside those in each theorem. -/
import Derived.Test.YtpnkemogepoioaaGreatDoorSb
import Derived.Lib.ItoaNum
namespace Go.Proofs.YtpnkemogepoioaaGreatDoorW.Ex.Gr
set_option linter.all false
open Go Go.Proofs.YtpnkemogepoioaaGreatDoorW.Ex Go.Proofs.YtpnkemogepoioaaGreatDoorW.Plain
inductive Node where
 | mk (kind:Int) (text:ByteArray) (gaps:List ByteArray) (kids:List Node)
def Node.kind:Node→Int | .mk k _ _ _=>k
def Node.text:Node→ByteArray | .mk _ t _ _=>t
def Node.gaps:Node→List ByteArray | .mk _ _ g _=>g
def Node.kids:Node→List Node | .mk _ _ _ l=>l
def sc (s:ByteArray):List AV:= [.str s]
mutual
def Node.cells:Node→List AV
 | .mk k t g l=> [.int .i64 k, .str t, .sl 1 false (g.map sc), .sl 4 false (qqo l)]
def qqo:List Node→List (List AV)
 | []=> []
 | n::l=>n.cells::qqo l
end
theorem qm3:∀l:List Node,qqo l=l.map Node.cells
 | []=>rfl
 | n::l=>by rw [qqo,qm3 l,List.map_cons]
theorem cells_eq (n:Node):n.cells= [.int .i64 n.kind, .str n.text, .sl 1 false (n.gaps.map sc), .sl 4 false (n.kids.map Node.cells)]:=by
 cases n with
 | mk k t g l=>rw [Node.cells,qm3];rfl
@[reducible] def zq (n:Node):List AV:= [.int .i64 n.kind, .str n.text, .sl 1 false (n.gaps.map sc), .sl 4 false (n.kids.map Node.cells)]
theorem qjo {n m:Node} {i:Nat} (h:n.kids[i]? =some m):(n.kids.map Node.cells)[i]? =some (zq m):=by
 rw [List.getElem?_map,h,Option.map_some,cells_eq]
theorem q27 {n:Node} {g:ByteArray} {i:Nat} (h:n.gaps[i]? =some g):(n.gaps.map sc)[i]? =some [.str g]:=by
 rw [List.getElem?_map,h];rfl
structure Shape where
 first:List (Int × Int)
 rest:Int × Int
 text:Int
 words:List ByteArray
 own:Int
def qor (p:Int × Int):List AV:= [.int .i64 p.1, .int .i64 p.2]
def Shape.cells (s:Shape):List AV:= [.sl 2 false (s.first.map qor), .int .i64 s.rest.1, .int .i64 s.rest.2, .int .i64 s.text, .sl 1 false (s.words.map sc), .int .i64 s.own]
theorem qok (s:Shape):s.cells.length=6:=rfl
def shapes:List Shape:= [
 ⟨[],(0,0),0, [],0⟩,
 ⟨[],(0,1),0, [],1⟩,
 ⟨[(3,0),(5,0),(6,0)],(0,0),1, [],2⟩,
 ⟨[],(4,0),0, [],2⟩,
 ⟨[(5,0)],(0,0),1, [],1⟩,
 ⟨[],(0,0),1, [],1⟩,
 ⟨[],(0,2),0, [],2⟩,
 ⟨[(8,0)],(2,0),1, [],4⟩,
 ⟨[],(0,0),2, [],2⟩,
 ⟨[(0,3)],(0,0),1, [],4⟩,
 ⟨[(0,3)],(0,0),1, [],4⟩,
 ⟨[(0,3)],(0,0),1, [],3⟩,
 ⟨[(0,3)],(0,0),0, [],2⟩,
 ⟨[(0,3),(6,0),(14,0)],(0,0),0, [],1⟩,
 ⟨[(6,0)],(0,0),0, [],1⟩,
 ⟨[(0,3),(6,0)],(0,0),0, [],1⟩,
 ⟨[(0,3)],(0,0),0, [],1⟩,
 ⟨[],(0,0),3, [],1⟩,
 ⟨[],(0,0),4, [⟨#[116,114,117,101]⟩,⟨#[102,97,108,115,101]⟩],1⟩,
 ⟨[],(0,0),1, [],1⟩,
 ⟨[],(0,3),1, [],3⟩,
 ⟨[(0,3)],(0,3),1, [],4⟩,
 ⟨[],(0,0),1, [],4⟩,
 ⟨[],(0,0),4, [⟨#[115,101,108,102]⟩],1⟩,
 ⟨[(0,3),(0,3)],(0,0),4, [⟨#[124]⟩,⟨#[38]⟩,⟨#[61,61]⟩,⟨#[60]⟩,⟨#[43]⟩,⟨#[45]⟩,⟨#[42]⟩,⟨#[47]⟩],1⟩,
 ⟨[(0,3)],(0,0),4, [⟨#[45]⟩,⟨#[33]⟩],1⟩,
 ⟨[(0,3)],(0,0),0, [],2⟩]
def wx (k:Int):Shape:=shapes.getD k.toNat ⟨[],(0,0),0, [],0⟩
def G:Nat→List AV:=fun g=>if g=0 then (shapes.map Shape.cells).flatten else if g=2 then [.iface 209 .undef] else if g=3 then [.iface 209 .undef] else if g=4 then Lib.pow10Tab.map (fun z=> .int .u64 z) else []
theorem qvu {α:Type} {C:α→List AV} {sz:Nat} (hC:∀a,(C a).length=sz):∀(l:List α) (i:Nat) (a:α),l[i]? =some a→((l.map C).flatten.drop (i*sz)).take sz=C a
 | [],i,a,h=>by simp at h
 | b::l,0,a,h=>by
   simp only [List.getElem?_cons_zero,Option.some.injEq] at h
   subst h
   simp only [List.map_cons,List.flatten_cons,Nat.zero_mul,List.drop_zero]
   exact List.take_left' (hC b)
 | b::l,i+1,a,h=>by
   simp only [List.map_cons,List.flatten_cons]
   rw [show (i+1)*sz=(C b).length+i*sz by rw [hC,Nat.add_mul];omega,List.drop_append,List.drop_of_length_le (by omega),List.nil_append,Nat.add_sub_cancel_left]
   exact qvu hC l i a h
theorem qim (k:Int) (h2:k.toNat < 27):((G 0).drop (k.toNat*6)).take 6=(wx k).cells:=by
 have h3:shapes[k.toNat]? =some (wx k):=by
  unfold wx
  rw [List.getD_eq_getElem?_getD,List.getElem?_eq_getElem (show k.toNat < shapes.length from h2)]
  rfl
 rw [show G 0=(shapes.map Shape.cells).flatten from rfl,qvu qok shapes k.toNat (wx k) h3]
def known (k:Int):Bool:=decide (1≤k) && decide (k < 27)
def qfp (k:Int):Int:=if k=2∨k=7∨k=9 then 1 else if k=10∨k=11∨k=12∨k=13∨k=15∨k=16 then 2 else if 17≤k∧k≤26 then 3 else 0
def free (k:Int):Bool:=decide (k=1) || decide (k=7)
def most (k:Int):Int:=if k=3∨k=20 then 16 else if k=21 then 17 else 200
def qa8 (t:ByteArray):Int:=if t=⟨#[124]⟩ then 1 else if t=⟨#[38]⟩ then 2 else if t=⟨#[61,61]⟩∨t=⟨#[60]⟩ then 3 else if t=⟨#[43]⟩∨t=⟨#[45]⟩ then 4 else if t=⟨#[42]⟩∨t=⟨#[47]⟩ then 5 else 0
def qfl (n:Node):Int:=if n.kind=25 then 6 else if n.kind=24 then qa8 n.text else if qfp n.kind=3 then 7 else 0
def ownN (k:Int):Int:=if k=7∨k=9∨k=10∨k=22∨k=21 then 4 else if k=11∨k=20 then 3 else if k=2∨k=3∨k=6∨k=8∨k=12∨k=26 then 2 else if 1≤k∧k≤26 then 1 else 0
def own (n:Node):Int:=
 if known n.kind=false then 0
 else if n.kind=8 then (if n.text=⟨#[]⟩ then 0 else 2)
 else if n.kind=14 then (if n.kids.length=0 then 0 else 1)
 else if n.kind=3 then IntKind.i64.wrap (2+max 0 ((n.kids.length:Int) - 1))
 else if n.kind=20 then IntKind.i64.wrap (3+max 0 ((n.kids.length:Int) - 1))
 else if n.kind=21 then IntKind.i64.wrap (4+max 0 ((n.kids.length:Int) - 2))
 else ownN n.kind
def qhf (k pos:Int):Int × Int:=if pos < (wx k).first.length then (wx k).first.getD pos.toNat (0,0) else (wx k).rest
def fits (parent pos kid:Int):Bool:=
 known parent && decide (0≤pos) && known kid && (if (qhf parent pos).2=0 then decide ((qhf parent pos).1=kid) else decide ((qhf parent pos).2=qfp kid))
def Zz {α:Type} (p:Nat→α→Bool):Nat→List α→Bool
 | _, []=>true
 | i,m::l=>p i m && Zz p (i+1) l
def qsp (parent:Int) (l:List Node):Bool:=Zz (fun i m=>fits parent i m.kind) 0 l
def qjn (n:Node):Bool:=
 if n.kind=14∧n.kids.length=0 then true
 else if n.kids.length < (wx n.kind).first.length∨(n.kids.length > (wx n.kind).first.length∧(wx n.kind).rest=(0,0)) then false
 else qsp n.kind n.kids
def q3w:Node:= .mk 0 ⟨#[]⟩ [] []
def kid (n:Node) (i:Nat):Node:=n.kids.getD i q3w
def qde (n:Node):Bool:=
 if n.kind=24 then !(decide (qfl (kid n 0) < qfl n) || (decide (qfl (kid n 0)=qfl n) && decide (qfl n=3))) && decide (qfl n < qfl (kid n 1))
 else if n.kind=25 then decide (6≤qfl (kid n 0)) else if n.kind=21 then decide (qfl (kid n 0)=7) else true
def memB (v:ByteArray) (l:List ByteArray):Bool:=l.any fun w=>decide (v=w)
def qga (n:Node):Bool:=if (wx n.kind).text=0 then decide (n.text=⟨#[]⟩) else if (wx n.kind).text=4 then memB n.text (wx n.kind).words else true
def qiw (n:Node):Bool:=
 if (wx n.kind).text=2 then decide (n.text=⟨#[]⟩) || qbv n.text.data.toList else if (wx n.kind).text=1 then qbv n.text.data.toList else if (wx n.kind).text=3 then Q5 n.text.data.toList else true
def qvt (n:Node):Bool:=Zz (fun _ g=>J3 g) 0 n.gaps
def qqh (n:Node):Bool:=decide (n.gaps= []) || (qvt n && decide ((n.gaps.length:Int)=own n))
def qci (n:Node):Bool:=known n.kind && qjn n && qga n && qde n
def Qr (n:Node):Int:=if qci n=false then 7 else if qiw n=false then 4 else if qqh n=false then 7 else 0
mutual
def firstErr:Node→Int
 | .mk k t g l=>if Qr (.mk k t g l)=0 then wl l else Qr (.mk k t g l)
def wl:List Node→Int
 | []=>0
 | n::l=>if firstErr n=0 then wl l else firstErr n
end
theorem Jq (n:Node):firstErr n=if Qr n=0 then wl n.kids else Qr n:=by
 cases n with
 | mk k t g l=>rw [firstErr];rfl
mutual
def size? :Node→Nat→Option Nat
 | .mk k _ _ l,d=>match d with
   | 0=>none
   | d+1=>if most k < (l.length:Int) then none else (sizeL? l d).map (· +1)
def sizeL? :List Node→Nat→Option Nat
 | [],_=>some 0
 | n::l,d=>match size? n d,sizeL? l d with
   | some a,some b=>some (a+b)
   | _,_=>none
end
def checkErr (n:Node):Int:=match size? n 60 with
 | some k=>if k≤4000 then firstErr n else 3
 | none=>3
inductive Wf:Node→Prop
 | mk (n:Node) (hk:n.kids.length≤9223372036854775807) (hg:n.gaps.length≤9223372036854775807) (ht:n.text.size≤9223372036854775807) (hs:∀g∈n.gaps,g.size≤9223372036854775807) (h:∀m∈n.kids,Wf m):Wf n
end Go.Proofs.YtpnkemogepoioaaGreatDoorW.Ex.Gr
