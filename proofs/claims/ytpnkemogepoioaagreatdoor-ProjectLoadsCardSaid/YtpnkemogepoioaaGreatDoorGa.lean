/- The grammar of trees in plain words: kinds, shapes, levels, own tokens, and what a tree is as cells of memory. No conditions beside those in each theorem. -/
import Derived.Test.YtpnkemogepoioaaGreatDoorSb
import Derived.Lib.ItoaNum
namespace Go.Proofs.YtpnkemogepoioaaGreatDoorW.Ex.Gr
set_option linter.all false
open Go Go.Proofs.YtpnkemogepoioaaGreatDoorW.Ex Go.Proofs.YtpnkemogepoioaaGreatDoorW.Plain
inductive Node where
 | mk (kind:Int) (text:ByteArray) (gaps:List ByteArray) (kids:List Node)
def Node.kind:Node→Int | .mk k _ _ _=>k
def Node.text:Node→ByteArray | .mk _ t _ _=>t
def Node.gaps:Node→List ByteArray | .mk _ _ g _=>g
def Node.kids:Node→List Node | .mk _ _ _ l=>l
def sc (s:ByteArray):List AV:= [.str s]
mutual
def Node.cells:Node→List AV
 | .mk k t g l=> [.int .i64 k, .str t, .sl 1 false (g.map sc), .sl 4 false (qul l)]
def qul:List Node→List (List AV)
 | []=> []
 | n::l=>n.cells::qul l
end
theorem qqd:∀l:List Node,qul l=l.map Node.cells
 | []=>rfl
 | n::l=>by rw [qul,qqd l,AX]
theorem cells_eq (n:Node):n.cells= [.int .i64 n.kind, .str n.text, .sl 1 false (n.gaps.map sc), .sl 4 false (n.kids.map Node.cells)]:=by
 cases n with
 | mk k t g l=>rw [Node.cells,qqd];rfl
@[reducible] def z7 (n:Node):List AV:= [.int .i64 n.kind, .str n.text, .sl 1 false (n.gaps.map sc), .sl 4 false (n.kids.map Node.cells)]
theorem qma {n m:Node} {i:Nat} (h:n.kids[i]? =some m):(n.kids.map Node.cells)[i]? =some (z7 m):=by
 rw [Av,h,Ba,cells_eq]
theorem q9g {n:Node} {g:ByteArray} {i:Nat} (h:n.gaps[i]? =some g):(n.gaps.map sc)[i]? =some [.str g]:=by
 rw [Av,h];rfl
structure Shape where
 first:List (Int × Int)
 rest:Int × Int
 text:Int
 words:List ByteArray
 own:Int
def qsg (p:Int × Int):List AV:= [.int .i64 p.1, .int .i64 p.2]
def Shape.cells (s:Shape):List AV:= [.sl 2 false (s.first.map qsg), .int .i64 s.rest.1, .int .i64 s.rest.2, .int .i64 s.text, .sl 1 false (s.words.map sc), .int .i64 s.own]
theorem qsa (s:Shape):s.cells.length=6:=rfl
def shapes:List Shape:= [
 ⟨[],(0,0),0, [],0⟩,
 ⟨[],(0,1),0, [],1⟩,
 ⟨[(3,0),(5,0),(6,0)],(0,0),1, [],2⟩,
 ⟨[],(4,0),0, [],2⟩,
 ⟨[(5,0)],(0,0),1, [],1⟩,
 ⟨[],(0,0),1, [],1⟩,
 ⟨[],(0,2),0, [],2⟩,
 ⟨[(8,0)],(2,0),1, [],4⟩,
 ⟨[],(0,0),2, [],2⟩,
 ⟨[(0,3)],(0,0),1, [],4⟩,
 ⟨[(0,3)],(0,0),1, [],4⟩,
 ⟨[(0,3)],(0,0),1, [],3⟩,
 ⟨[(0,3)],(0,0),0, [],2⟩,
 ⟨[(0,3),(6,0),(14,0)],(0,0),0, [],1⟩,
 ⟨[(6,0)],(0,0),0, [],1⟩,
 ⟨[(0,3),(6,0)],(0,0),0, [],1⟩,
 ⟨[(0,3)],(0,0),0, [],1⟩,
 ⟨[],(0,0),3, [],1⟩,
 ⟨[],(0,0),4, [⟨#[116,114,117,101]⟩,⟨#[102,97,108,115,101]⟩],1⟩,
 ⟨[],(0,0),1, [],1⟩,
 ⟨[],(0,3),1, [],3⟩,
 ⟨[(0,3)],(0,3),1, [],4⟩,
 ⟨[],(0,0),1, [],4⟩,
 ⟨[],(0,0),4, [⟨#[115,101,108,102]⟩],1⟩,
 ⟨[(0,3),(0,3)],(0,0),4, [⟨#[124]⟩,⟨#[38]⟩,⟨#[61,61]⟩,⟨#[60]⟩,⟨#[43]⟩,⟨#[45]⟩,⟨#[42]⟩,⟨#[47]⟩],1⟩,
 ⟨[(0,3)],(0,0),4, [⟨#[45]⟩,⟨#[33]⟩],1⟩,
 ⟨[(0,3)],(0,0),0, [],2⟩]
def jc (k:Int):Shape:=shapes.getD k.toNat ⟨[],(0,0),0, [],0⟩
def G:Nat→List AV:=fun g=>if g=0 then (shapes.map Shape.cells).flatten else if g=2 then [.iface 209 .undef] else if g=3 then [.iface 209 .undef] else if g=4 then Lib.pow10Tab.map (fun z=> .int .u64 z) else []
theorem q0j {α:Type} {C:α→List AV} {sz:Nat} (hC:∀a,(C a).length=sz):∀(l:List α) (i:Nat) (a:α),l[i]? =some a→((l.map C).flatten.drop (i*sz)).take sz=C a
 | [],i,a,h=>by simp at h
 | b::l,0,a,h=>by
   simp only [Aq,Ab] at h
   subst h
   simp only [AX,Bf,Nat.zero_mul,BR]
   exact List.take_left' (hC b)
 | b::l,i+1,a,h=>by
   simp only [AX,Bf]
   rw [show (i+1)*sz=(C b).length+i*sz by rw [hC,Bn];omega,List.drop_append,AW (by omega),AQ,BP]
   exact q0j hC l i a h
theorem qk4 (k:Int) (h2:k.toNat < 27):((G 0).drop (k.toNat*6)).take 6=(jc k).cells:=by
 have h3:shapes[k.toNat]? =some (jc k):=by
  unfold jc
  rw [Ax,Ak (show k.toNat < shapes.length from h2)]
  rfl
 rw [show G 0=(shapes.map Shape.cells).flatten from rfl,q0j qsa shapes k.toNat (jc k) h3]
def known (k:Int):Bool:=decide (1≤k) && decide (k < 27)
def yo (k:Int):Int:=if k=2∨k=7∨k=9 then 1 else if k=10∨k=11∨k=12∨k=13∨k=15∨k=16 then 2 else if 17≤k∧k≤26 then 3 else 0
def free (k:Int):Bool:=decide (k=1) || decide (k=7)
def most (k:Int):Int:=if k=3∨k=20 then 16 else if k=21 then 17 else 200
def Jr (t:ByteArray):Int:=if t=⟨#[124]⟩ then 1 else if t=⟨#[38]⟩ then 2 else if t=⟨#[61,61]⟩∨t=⟨#[60]⟩ then 3 else if t=⟨#[43]⟩∨t=⟨#[45]⟩ then 4 else if t=⟨#[42]⟩∨t=⟨#[47]⟩ then 5 else 0
def vn (n:Node):Int:=if n.kind=25 then 6 else if n.kind=24 then Jr n.text else if yo n.kind=3 then 7 else 0
def ownN (k:Int):Int:=if k=7∨k=9∨k=10∨k=22∨k=21 then 4 else if k=11∨k=20 then 3 else if k=2∨k=3∨k=6∨k=8∨k=12∨k=26 then 2 else if 1≤k∧k≤26 then 1 else 0
def own (n:Node):Int:=
 if known n.kind=false then 0
 else if n.kind=8 then (if n.text=⟨#[]⟩ then 0 else 2)
 else if n.kind=14 then (if n.kids.length=0 then 0 else 1)
 else if n.kind=3 then IntKind.i64.wrap (2+max 0 ((n.kids.length:Int) - 1))
 else if n.kind=20 then IntKind.i64.wrap (3+max 0 ((n.kids.length:Int) - 1))
 else if n.kind=21 then IntKind.i64.wrap (4+max 0 ((n.kids.length:Int) - 2))
 else ownN n.kind
def Kb (k pos:Int):Int × Int:=if pos < (jc k).first.length then (jc k).first.getD pos.toNat (0,0) else (jc k).rest
def fits (parent pos kid:Int):Bool:=
 known parent && decide (0≤pos) && known kid && (if (Kb parent pos).2=0 then decide ((Kb parent pos).1=kid) else decide ((Kb parent pos).2=yo kid))
def Q7 {α:Type} (p:Nat→α→Bool):Nat→List α→Bool
 | _, []=>true
 | i,m::l=>p i m && Q7 p (i+1) l
def qfc (parent:Int) (l:List Node):Bool:=Q7 (fun i m=>fits parent i m.kind) 0 l
def Yd (n:Node):Bool:=
 if n.kind=14∧n.kids.length=0 then true
 else if n.kids.length < (jc n.kind).first.length∨(n.kids.length > (jc n.kind).first.length∧(jc n.kind).rest=(0,0)) then false
 else qfc n.kind n.kids
def zaj:Node:= .mk 0 ⟨#[]⟩ [] []
def kid (n:Node) (i:Nat):Node:=n.kids.getD i zaj
def Wn (n:Node):Bool:=
 if n.kind=24 then !(decide (vn (kid n 0) < vn n) || (decide (vn (kid n 0)=vn n) && decide (vn n=3))) && decide (vn n < vn (kid n 1))
 else if n.kind=25 then decide (6≤vn (kid n 0)) else if n.kind=21 then decide (vn (kid n 0)=7) else true
def memB (v:ByteArray) (l:List ByteArray):Bool:=l.any fun w=>decide (v=w)
def Kw (n:Node):Bool:=if (jc n.kind).text=0 then decide (n.text=⟨#[]⟩) else if (jc n.kind).text=4 then memB n.text (jc n.kind).words else true
def qat (n:Node):Bool:=
 if (jc n.kind).text=2 then decide (n.text=⟨#[]⟩) || qal n.text.data.toList else if (jc n.kind).text=1 then qal n.text.data.toList else if (jc n.kind).text=3 then Qg n.text.data.toList else true
def qub (n:Node):Bool:=Q7 (fun _ g=>trivValid g) 0 n.gaps
def qhw (n:Node):Bool:=decide (n.gaps= []) || (qub n && decide ((n.gaps.length:Int)=own n))
def qai (n:Node):Bool:=known n.kind && Yd n && Kw n && Wn n
def vm (n:Node):Int:=if qai n=false then 7 else if qat n=false then 4 else if qhw n=false then 7 else 0
mutual
def firstErr:Node→Int
 | .mk k t g l=>if vm (.mk k t g l)=0 then wi l else vm (.mk k t g l)
def wi:List Node→Int
 | []=>0
 | n::l=>if firstErr n=0 then wi l else firstErr n
end
theorem Ya (n:Node):firstErr n=if vm n=0 then wi n.kids else vm n:=by
 cases n with
 | mk k t g l=>rw [firstErr];rfl
mutual
def size? :Node→Nat→Option Nat
 | .mk k _ _ l,d=>match d with
   | 0=>none
   | d+1=>if most k < (l.length:Int) then none else (sizeL? l d).map (· +1)
def sizeL? :List Node→Nat→Option Nat
 | [],_=>some 0
 | n::l,d=>match size? n d,sizeL? l d with
   | some a,some b=>some (a+b)
   | _,_=>none
end
def checkErr (n:Node):Int:=match size? n 60 with
 | some k=>if k≤4000 then firstErr n else 3
 | none=>3
inductive Wf:Node→Prop
 | mk (n:Node) (hk:n.kids.length≤9223372036854775807) (hg:n.gaps.length≤9223372036854775807) (ht:n.text.size≤9223372036854775807) (hs:∀g∈n.gaps,g.size≤9223372036854775807) (h:∀m∈n.kids,Wf m):Wf n
end Go.Proofs.YtpnkemogepoioaaGreatDoorW.Ex.Gr
