/- The reader of tokens in plain words: what it returns, and that it goes on. Conditions: those in each theorem. The program's reader returns what is read in plain words. Conditions: those in each theorem. -/
import Derived.Test.YtpnkemogepoioaaGreatDoorKt
namespace Go.Proofs.YtpnkemogepoioaaGreatDoorW.Ex.Gr
open Go Go.Proofs.YtpnkemogepoioaaGreatDoorW.Ex Go.Proofs.YtpnkemogepoioaaGreatDoorW.Plain
set_option linter.all false
set_option maxRecDepth 100000
namespace Ps
open Tk
abbrev Rs (α:Type):=Except (List Token) (α × List Token)
def bR {α β:Type} (x:Rs α) (k:α→List Token→Rs β):Rs β:=match x with
 | .error u=> .error u
 | .ok y=>k y.1 y.2
theorem bR_e {α β:Type} (u:List Token) (k:α→List Token→Rs β):bR (.error u) k= .error u:=rfl
theorem bR_o {α β:Type} (n:α) (r:List Token) (k:α→List Token→Rs β):bR (.ok (n,r)) k=k n r:=rfl
def isT (w:BA):List Token→Bool
 | []=>false
 | x::_=>decide (x.Text=w)
def nmT:List Token→Bool
 | []=>false
 | x::_=>decide (x.Kind=1) && qal x.Text.data.toList
def tkT (w:BA):List Token→Rs BA
 | []=> .error []
 | x::r=>if decide (x.Text=w)=true then .ok (x.Lead,r) else .error (x::r)
def tkN:List Token→Rs (BA × BA)
 | []=> .error []
 | x::r=>if (decide (x.Kind=1) && qal x.Text.data.toList)=true then .ok ((x.Text,x.Lead),r) else .error (x::r)
def any:List Token→Rs Token
 | []=> .error []
 | x::r=> .ok (x,r)
inductive Cat where
 | bin (v:Int)
 | binL (v:Int) (m:Node)
 | un
 | unL (m:Node)
 | prim
 | args (k:Int) (t:BA) (g:List BA) (ks:List Node)
 | argL (b:Bool) (k:Int) (t:BA) (g:List BA) (ks:List Node)
 | stmt
 | blk
 | blkL (g:List BA) (ks:List Node)
 | parL (g:List BA) (ks:List Node)
 | func
 | clsL (t:BA) (g:List BA) (ks:List Node)
 | cls
 | file (ks:List Node)
def qep (B:List Token→Rs Node) (k:Int) (w:BA) (t:List Token):Rs Node:=
 bR (tkT w t) fun g1 t=>bR (tkN t) fun a t=>bR (tkT ⟨#[61]⟩ t) fun g3 t=>bR (B t) fun n t=>bR (tkT ⟨#[59]⟩ t) fun g4 t=> .ok (.mk k a.1 [g1,a.2,g3,g4] [n],t)
def setP (B:List Token→Rs Node) (t:List Token):Rs Node:=
 bR (tkN t) fun a t=>bR (tkT ⟨#[61]⟩ t) fun g3 t=>bR (B t) fun n t=>bR (tkT ⟨#[59]⟩ t) fun g4 t=> .ok (.mk 11 a.1 [a.2,g3,g4] [n],t)
def doP (B:List Token→Rs Node) (t:List Token):Rs Node:=
 bR (B t) fun n t=>bR (tkT ⟨#[59]⟩ t) fun g4 t=> .ok (.mk 16 ⟨#[]⟩ [g4] [n],t)
def retP (B:List Token→Rs Node) (t:List Token):Rs Node:=
 bR (tkT ⟨#[114,101,116,117,114,110]⟩ t) fun g1 t=>bR (B t) fun n t=>bR (tkT ⟨#[59]⟩ t) fun g4 t=> .ok (.mk 12 ⟨#[]⟩ [g1,g4] [n],t)
def qoi (B C:List Token→Rs Node) (t:List Token):Rs Node:=
 bR (tkT ⟨#[119,104,105,108,101]⟩ t) fun g1 t=>bR (B t) fun n t=>bR (C t) fun c t=> .ok (.mk 15 ⟨#[]⟩ [g1] [n,c],t)
def qsv (C:List Token→Rs Node) (t:List Token):Rs Node:=
 if isT ⟨#[101,108,115,101]⟩ t=true then bR (tkT ⟨#[101,108,115,101]⟩ t) fun g t=>bR (C t) fun c t=> .ok (.mk 14 ⟨#[]⟩ [g] [c],t) else .ok (.mk 14 ⟨#[]⟩ [] [],t)
def ifP (B C:List Token→Rs Node) (t:List Token):Rs Node:=
 bR (tkT ⟨#[105,102]⟩ t) fun g1 t=>bR (B t) fun n t=>bR (C t) fun c t=>bR (qsv C t) fun e t=> .ok (.mk 13 ⟨#[]⟩ [g1] [n,c,e],t)
def qop (B C:List Token→Rs Node) (t:List Token):Rs Node:=
 if isT ⟨#[108,101,116]⟩ t=true then qep B 10 ⟨#[108,101,116]⟩ t
 else if isT ⟨#[114,101,116,117,114,110]⟩ t=true then retP B t
 else if isT ⟨#[105,102]⟩ t=true then ifP B C t
 else if isT ⟨#[119,104,105,108,101]⟩ t=true then qoi B C t
 else if (nmT t && isT ⟨#[61]⟩ t.tail)=true then setP B t
 else doP B t
def newP (t:List Token):Rs Node:=
 bR (tkT ⟨#[110,101,119]⟩ t) fun g1 t=>bR (tkN t) fun a t=>bR (tkT ⟨#[40]⟩ t) fun g3 t=>bR (tkT ⟨#[41]⟩ t) fun g4 t=> .ok (.mk 22 a.1 [g1,a.2,g3,g4] [],t)
def parP (B:List Token→Rs Node) (t:List Token):Rs Node:=
 bR (tkT ⟨#[40]⟩ t) fun g1 t=>bR (B t) fun n t=>bR (tkT ⟨#[41]⟩ t) fun g2 t=> .ok (.mk 26 ⟨#[]⟩ [g1,g2] [n],t)
def qw8 (A:BA→BA→List Token→Rs Node) (t:List Token):Rs Node:=
 bR (tkN t) fun a t=>if isT ⟨#[40]⟩ t=true then A a.1 a.2 t else .ok (.mk 19 a.1 [a.2] [],t)
def qv6 (B:List Token→Rs Node) (A:BA→BA→List Token→Rs Node):List Token→Rs Node
 | []=> .error []
 | x::r=>
   if decide (x.Kind=2)=true then .ok (.mk 17 x.Text [x.Lead] [],r)
   else if isT ⟨#[116,114,117,101]⟩ (x::r)=true then .ok (.mk 18 x.Text [x.Lead] [],r)
   else if isT ⟨#[102,97,108,115,101]⟩ (x::r)=true then .ok (.mk 18 x.Text [x.Lead] [],r)
   else if isT ⟨#[115,101,108,102]⟩ (x::r)=true then .ok (.mk 23 x.Text [x.Lead] [],r)
   else if isT ⟨#[110,101,119]⟩ (x::r)=true then newP (x::r)
   else if isT ⟨#[40]⟩ (x::r)=true then parP B (x::r)
   else qw8 A (x::r)
def qzm (A:BA→List BA→List Token→Rs Node) (K:Node→List Token→Rs Node) (t:List Token):Rs Node:=
 bR (tkT ⟨#[46]⟩ t) fun g1 t=>bR (tkN t) fun a t=>bR (A a.1 [g1,a.2] t) K
def unP (U P:List Token→Rs Node) (K:Node→List Token→Rs Node):List Token→Rs Node
 | []=> .error []
 | x::r=>
   if isT ⟨#[45]⟩ (x::r)=true then bR (U r) fun n t=> .ok (.mk 25 x.Text [x.Lead] [n],t)
   else if isT ⟨#[33]⟩ (x::r)=true then bR (U r) fun n t=> .ok (.mk 25 x.Text [x.Lead] [n],t)
   else bR (P (x::r)) K
def binP (v:Int) (m:Node) (B:List Token→Rs Node) (K:Node→List Token→Rs Node):List Token→Rs Node
 | []=> .error []
 | x::r=>
   if decide (Jr x.Text=v)=true then bR (B r) fun n t=>if decide (v=3)=true then .ok (.mk 24 x.Text [x.Lead] [m,n],t) else K (.mk 24 x.Text [x.Lead] [m,n]) t
   else .ok (m,x::r)
def argP (k:Int) (t:BA) (g:List BA) (ks:List Node) (B:List Token→Rs Node) (K:List BA→List Node→List Token→Rs Node) (b:Bool) (l:List Token):Rs Node:=
 if isT ⟨#[41]⟩ l=true then bR (tkT ⟨#[41]⟩ l) fun h l=> .ok (.mk k t (g++ [h]) ks,l)
 else if b=true then bR (B l) fun n l=>K g (ks++ [n]) l
 else bR (tkT ⟨#[44]⟩ l) fun h l=>bR (B l) fun n l=>K (g++ [h]) (ks++ [n]) l
def blkP (g:List BA) (ks:List Node) (T:List Token→Rs Node) (K:List Node→List Token→Rs Node) (l:List Token):Rs Node:=
 if isT ⟨#[125]⟩ l=true then bR (tkT ⟨#[125]⟩ l) fun h l=> .ok (.mk 6 ⟨#[]⟩ (g++ [h]) ks,l)
 else bR (T l) fun n l=>K (ks++ [n]) l
def qdn (t:List Token):Rs Node:=
 bR (tkN t) fun a t=>bR (tkN t) fun b t=> .ok (.mk 4 a.1 [a.2] [.mk 5 b.1 [b.2] []],t)
def qzu (g:List BA) (ks:List Node) (K:List BA→List Node→List Token→Rs Node) (l:List Token):Rs Node:=
 if isT ⟨#[41]⟩ l=true then bR (tkT ⟨#[41]⟩ l) fun h l=> .ok (.mk 3 ⟨#[]⟩ (g++ [h]) ks,l)
 else if decide (0 < ks.length)=true then bR (tkT ⟨#[44]⟩ l) fun h l=>bR (qdn l) fun n l=>K (g++ [h]) (ks++ [n]) l
 else bR (qdn l) fun n l=>K g (ks++ [n]) l
def funK (C:List Token→Rs Node) (a:BA) (g:List BA) (p:Node) (t:List Token):Rs Node:=
 bR (tkN t) fun b t=>bR (C t) fun c t=> .ok (.mk 2 a g [p, .mk 5 b.1 [b.2] [],c],t)
def funP (Q:BA→List Token→Rs Node) (C:List Token→Rs Node) (t:List Token):Rs Node:=
 bR (tkT ⟨#[102,110]⟩ t) fun g1 t=>bR (tkN t) fun a t=>bR (tkT ⟨#[40]⟩ t) fun g3 t=>bR (Q g3 t) (funK C a.1 [g1,a.2])
def qs2 (t:List Token):Rs Node:=
 if isT ⟨#[58]⟩ t=true then bR (tkT ⟨#[58]⟩ t) fun g1 t=>bR (tkN t) fun a t=> .ok (.mk 8 a.1 [g1,a.2] [],t) else .ok (.mk 8 ⟨#[]⟩ [] [],t)
def clsP (K:BA→List BA→List Node→List Token→Rs Node) (t:List Token):Rs Node:=
 bR (tkT ⟨#[99,108,97,115,115]⟩ t) fun g1 t=>bR (tkN t) fun a t=>bR (qs2 t) fun b t=>bR (tkT ⟨#[123]⟩ t) fun g3 t=>K a.1 [g1,a.2,g3] [b] t
def q0p (x:BA) (g:List BA) (ks:List Node) (F:List Token→Rs Node) (K:List Node→List Token→Rs Node) (l:List Token):Rs Node:=
 if isT ⟨#[102,110]⟩ l=true then bR (F l) fun n l=>K (ks++ [n]) l
 else bR (tkT ⟨#[125]⟩ l) fun h l=> .ok (.mk 7 x (g++ [h]) ks,l)
def q0k (ks:List Node) (F C:List Token→Rs Node) (B:List Token→Rs Node) (K:List Node→List Token→Rs Node):List Token→Rs Node
 | []=> .error []
 | x::r=>
   if decide (x.Kind=4)=true then .ok (.mk 1 ⟨#[]⟩ [x.Lead] ks,x::r)
   else if isT ⟨#[102,110]⟩ (x::r)=true then bR (F (x::r)) fun n l=>K (ks++ [n]) l
   else if isT ⟨#[99,108,97,115,115]⟩ (x::r)=true then bR (C (x::r)) fun n l=>K (ks++ [n]) l
   else if isT ⟨#[99,111,110,115,116]⟩ (x::r)=true then bR (qep B 9 ⟨#[99,111,110,115,116]⟩ (x::r)) fun n l=>K (ks++ [n]) l
   else .error (x::r)
def S:Nat→Cat→List Token→Rs Node
 | 0,_,t=> .error t
 | f+1, .bin v,t=>if decide (5 < v)=true then S f .un t else bR (S f (.bin (v+1)) t) fun n r=>S f (.binL v n) r
 | f+1, .binL v m,t=>binP v m (S f (.bin (v+1))) (fun m=>S f (.binL v m)) t
 | f+1, .un,t=>unP (S f .un) (S f .prim) (fun m=>S f (.unL m)) t
 | f+1, .unL m,t=>if isT ⟨#[46]⟩ t=true then qzm (fun a g=>S f (.args 21 a g [m])) (fun m=>S f (.unL m)) t else .ok (m,t)
 | f+1, .prim,t=>qv6 (S f (.bin 1)) (fun a g=>S f (.args 20 a [g] [])) t
 | f+1, .args k t g ks,l=>bR (tkT ⟨#[40]⟩ l) fun h l=>S f (.argL true k t (g++ [h]) ks) l
 | f+1, .argL b k t g ks,l=>argP k t g ks (S f (.bin 1)) (fun g ks=>S f (.argL false k t g ks)) b l
 | f+1, .stmt,t=>qop (S f (.bin 1)) (S f .blk) t
 | f+1, .blk,t=>bR (tkT ⟨#[123]⟩ t) fun g t=>S f (.blkL [g] []) t
 | f+1, .blkL g ks,t=>blkP g ks (S f .stmt) (fun ks=>S f (.blkL g ks)) t
 | f+1, .parL g ks,t=>qzu g ks (fun g ks=>S f (.parL g ks)) t
 | f+1, .func,t=>funP (fun g=>S f (.parL [g] [])) (S f .blk) t
 | f+1, .clsL x g ks,t=>q0p x g ks (S f .func) (fun ks=>S f (.clsL x g ks)) t
 | f+1, .cls,t=>clsP (fun x g ks=>S f (.clsL x g ks)) t
 | f+1, .file ks,t=>q0k ks (S f .func) (S f .cls) (S f (.bin 1)) (fun ks=>S f (.file ks)) t
def mu:Cat→Nat→Nat
 | .bin v,n=>20*n+(10 - v).toNat
 | .binL _ _,n=>20*n+1
 | .un,n=>20*n+3
 | .unL _,n=>20*n+1
 | .prim,n=>20*n+2
 | .args ..,n=>20*n+1
 | .argL ..,n=>20*n+12
 | .stmt,n=>20*n+13
 | .blk,n=>20*n+1
 | .blkL ..,n=>20*n+14
 | .parL ..,n=>20*n+1
 | .func,n=>20*n+1
 | .clsL ..,n=>20*n+2
 | .cls,n=>20*n+1
 | .file _,n=>20*n+12
def Good:List Token→Prop
 | []=>False
 | x::r=>(x.Lead.size≤65536∧x.Text.size≤65536∧trivValid x.Lead=true)∧((r= []∧x.Kind=4∧x.Text=⟨#[]⟩)∨(x.Kind≠4∧x.Kind≠0∧x.Kind=qpo (L x.Text)∧x.Text≠⟨#[]⟩∧Good r))
theorem Yv {x:Token} {r:List Token} (h:Good (x::r)) (ht:x.Text≠⟨#[]⟩):Good r:=by
 rcases h.2 with ⟨_,_,h2⟩ | ⟨_,_,_,_,h2⟩
 ·exact absurd h2 ht
 exact h2
theorem qjv {x:Token} {r:List Token} (h:Good (x::r)) (ht:x.Kind≠4):Good r:=by
 rcases h.2 with ⟨_,h2,_⟩ | ⟨_,_,_,_,h2⟩
 ·exact absurd h2 ht
 exact h2
def Q {α:Type} (t:List Token) (P:α→List Token→Prop):Rs α→Prop
 | .ok y=>y.2 <:+t∧Good y.2∧P y.1 y.2
 | .error u=>u <:+t∧Good u
theorem Q.bind {α β:Type} {t:List Token} {P:α→List Token→Prop} {P':β→List Token→Prop} {x:Rs α} {k:α→List Token→Rs β} (h:Q t P x)
 (hk:∀n r,r <:+t→Good r→P n r→Q r P' (k n r)):Q t P' (bR x k):=by
 cases x with
 | error u=>exact h
 | ok y=>
   obtain ⟨h1,h2,h3⟩:=h
   have:=hk y.1 y.2 h1 h2 h3
   show Q t P' (k y.1 y.2)
   revert this
   cases k y.1 y.2 with
   | error u=>exact fun q=>⟨q.1.trans h1,q.2⟩
   | ok z=>exact fun q=>⟨q.1.trans h1,q.2⟩
theorem Q.up {α:Type} {t r:List Token} {P:α→List Token→Prop} {x:Rs α} (h:Q r P x) (hr:r <:+t):Q t P x:=by
 cases x with
 | error u=>exact ⟨h.1.trans hr,h.2⟩
 | ok z=>exact ⟨h.1.trans hr,h.2⟩
theorem Q.mono {α:Type} {t:List Token} {P P':α→List Token→Prop} {x:Rs α} (h:Q t P x) (hp:∀n r,r <:+t→P n r→P' n r):Q t P' x:=by
 cases x with
 | error u=>exact h
 | ok z=>exact ⟨h.1,h.2.1,hp _ _ h.1 h.2.2⟩
theorem Q.ok {α:Type} {t:List Token} {P:α→List Token→Prop} {n:α} (hg:Good t) (h:P n t):Q t P (.ok (n,t)):=⟨BI t,hg,h⟩
def Yy (g:BA):Prop:=g.size≤65536
theorem kg {w:BA} {t:List Token} (hg:Good t) (hw:w≠⟨#[]⟩):Q t (fun g r=>r.length+1=t.length∧Yy g) (tkT w t):=by
 cases t with
 | nil=>exact hg.elim
 | cons x r=>
   simp only [tkT]
   by_cases h:x.Text=w
   ·rw [if_pos (decide_eq_true h)]
    exact ⟨BM x r,Yv hg (by rw [h];exact hw),rfl,hg.1.1⟩
   rw [if_neg (by rw [decide_eq_true_eq];exact h)]
   exact ⟨BI _,hg⟩
theorem Wd {t:List Token} (hg:Good t):Q t (fun g r=>r.length+1=t.length∧Yy g.1∧Yy g.2) (tkN t):=by
 cases t with
 | nil=>exact hg.elim
 | cons x r=>
   simp only [tkN]
   by_cases h:(decide (x.Kind=1) && qal x.Text.data.toList)=true
   ·rw [if_pos h]
    have h1:x.Kind=1:=by
     rw [An] at h
     exact of_decide_eq_true h.1
    exact ⟨BM x r,qjv hg (by rw [h1];decide),rfl,hg.1.2.1,hg.1.1⟩
   rw [if_neg h]
   exact ⟨BI _,hg⟩
def Ws (ks:List Node):Prop:=∀m∈ks,wfB m=true
def Gs (g:List BA):Prop:=∀x∈g,Yy x
theorem qzd:∀(l:List Node),Ws l→wfBL l=true
 | [],_=>rfl
 | n::l,h=>by rw [wfBL,h n (AK ..),qzd l fun m hm=>h m (Ay _ hm)];rfl
theorem Z0 (k:Int) {t:BA} {g:List BA} {ks:List Node} (h1:ks.length≤1000000) (h2:g.length≤1000000) (h3:Yy t) (h4:Gs g) (h5:Ws ks):wfB (.mk k t g ks)=true:=by
 unfold Yy at h3
 rw [wfB,qzd ks h5,decide_eq_true (by omega),decide_eq_true (by omega),decide_eq_true (by omega),Aw.2]
 ·rfl
 intro x hx
 have:=h4 x hx
 unfold Yy at this
 exact decide_eq_true (by omega)
theorem wl:Gs []:=fun x h=>by cases h
theorem jj {x:BA} {g:List BA} (h:Yy x) (h2:Gs g):Gs (x::g):=fun y hy=>by
 rcases AE.1 hy with rfl | hy
 ·exact h
 exact h2 y hy
theorem qbx {x:BA} {g:List BA} (h2:Gs g) (h:Yy x):Gs (g++ [x]):=fun y hy=>by
 rcases List.mem_append.1 hy with hy | hy
 ·exact h2 y hy
 rw [AO.1 hy];exact h
theorem wv:Ws []:=fun x h=>by cases h
theorem ux {x:Node} {g:List Node} (h:wfB x=true) (h2:Ws g):Ws (x::g):=fun y hy=>by
 rcases AE.1 hy with rfl | hy
 ·exact h
 exact h2 y hy
theorem Wu {x:Node} {g:List Node} (h2:Ws g) (h:wfB x=true):Ws (g++ [x]):=fun y hy=>by
 rcases List.mem_append.1 hy with hy | hy
 ·exact h2 y hy
 rw [AO.1 hy];exact h
theorem qci:Yy ⟨#[]⟩:=by unfold Yy;decide
def room (g:List BA) (ks:List Node) (n:Nat):Prop:=g.length+n≤200000∧ks.length+n≤200000∧Gs g∧Ws ks
def pre:Cat→Nat→Prop
 | .bin v,n=>n≤70000∧1≤v∧v≤6
 | .binL v m,n=>n≤70000∧1≤v∧v≤5∧wfB m=true
 | .unL m,n=>n≤70000∧wfB m=true
 | .args _ t g ks,n=>n≤70000∧Yy t∧room g ks n
 | .argL _ _ t g ks,n=>n≤70000∧Yy t∧room g ks n
 | .blkL g ks,n=>n≤70000∧room g ks n
 | .parL g ks,n=>n≤70000∧room g ks n
 | .clsL t g ks,n=>n≤70000∧Yy t∧room g ks n
 | .file ks,n=>n≤70000∧room [] ks n
 | _,n=>n≤70000
def uc:Cat→Nat
 | .binL .. =>0
 | .unL .. =>0
 | .file .. =>0
 | _=>1
def post (c:Cat) (n:Nat) (m:Node) (r:List Token):Prop:=wfB m=true∧r.length+uc c≤n
def Rd (B:List Token→Rs Node):Prop:=∀t,Good t→t.length≤70000→Q t (fun n r=>wfB n=true∧r.length+1≤t.length) (B t)
theorem Y4 {r t:List Token} (h:r <:+t):r.length≤t.length:=List.IsSuffix.length_le h
section
variable {B C F:List Token→Rs Node}
theorem qn8 (hB:Rd B) (k:Int) {w:BA} (hw:w≠⟨#[]⟩):Rd (qep B k w):=fun t hg hl=>by
 unfold qep
 refine (kg hg hw).bind fun g1 r1 s1 o1 h1=> ?_
 refine (Wd o1).bind fun a r2 s2 o2 h2=> ?_
 refine (kg o2 (by decide)).bind fun g3 r3 s3 o3 h3=> ?_
 refine (hB r3 o3 (by omega)).bind fun n r4 s4 o4 h4=> ?_
 refine (kg o4 (by decide)).bind fun g5 r5 s5 o5 h5=> ?_
 exact Q.ok o5 ⟨Z0 k (by simp) (by simp) h2.2.1 (jj h1.2 (jj h2.2.2 (jj h3.2 (jj h5.2 wl)))) (ux h4.1 wv),by omega⟩
theorem za0 (hB:Rd B):Rd (setP B):=fun t hg hl=>by
 unfold setP
 refine (Wd hg).bind fun a r2 s2 o2 h2=> ?_
 refine (kg o2 (by decide)).bind fun g3 r3 s3 o3 h3=> ?_
 refine (hB r3 o3 (by omega)).bind fun n r4 s4 o4 h4=> ?_
 refine (kg o4 (by decide)).bind fun g5 r5 s5 o5 h5=> ?_
 exact Q.ok o5 ⟨Z0 11 (by simp) (by simp) h2.2.1 (jj h2.2.2 (jj h3.2 (jj h5.2 wl))) (ux h4.1 wv),by omega⟩
theorem Q_do (hB:Rd B):Rd (doP B):=fun t hg hl=>by
 unfold doP
 refine (hB t hg hl).bind fun n r4 s4 o4 h4=> ?_
 refine (kg o4 (by decide)).bind fun g5 r5 s5 o5 h5=> ?_
 exact Q.ok o5 ⟨Z0 16 (by simp) (by simp) qci (jj h5.2 wl) (ux h4.1 wv),by omega⟩
theorem za1 (hB:Rd B):Rd (retP B):=fun t hg hl=>by
 unfold retP
 refine (kg hg (by decide)).bind fun g1 r1 s1 o1 h1=> ?_
 refine (hB r1 o1 (by omega)).bind fun n r4 s4 o4 h4=> ?_
 refine (kg o4 (by decide)).bind fun g5 r5 s5 o5 h5=> ?_
 exact Q.ok o5 ⟨Z0 12 (by simp) (by simp) qci (jj h1.2 (jj h5.2 wl)) (ux h4.1 wv),by omega⟩
theorem q7q (hB:Rd B) (hC:Rd C):Rd (qoi B C):=fun t hg hl=>by
 unfold qoi
 refine (kg hg (by decide)).bind fun g1 r1 s1 o1 h1=> ?_
 refine (hB r1 o1 (by omega)).bind fun n r4 s4 o4 h4=> ?_
 refine (hC r4 o4 (by omega)).bind fun c r5 s5 o5 h5=> ?_
 exact Q.ok o5 ⟨Z0 15 (by simp) (by simp) qci (jj h1.2 wl) (ux h4.1 (ux h5.1 wv)),by omega⟩
theorem q93 (hC:Rd C):∀t,Good t→t.length≤70000→Q t (fun n r=>wfB n=true∧r.length≤t.length) (qsv C t):=fun t hg hl=>by
 unfold qsv
 split
 ·refine (kg hg (by decide)).bind fun g1 r1 s1 o1 h1=> ?_
  refine (hC r1 o1 (by omega)).bind fun c r5 s5 o5 h5=> ?_
  exact Q.ok o5 ⟨Z0 14 (by simp) (by simp) qci (jj h1.2 wl) (ux h5.1 wv),by omega⟩
 exact Q.ok hg ⟨Z0 14 (by simp) (by simp) qci wl wv,Aj _⟩
theorem Q_if (hB:Rd B) (hC:Rd C):Rd (ifP B C):=fun t hg hl=>by
 unfold ifP
 refine (kg hg (by decide)).bind fun g1 r1 s1 o1 h1=> ?_
 refine (hB r1 o1 (by omega)).bind fun n r4 s4 o4 h4=> ?_
 refine (hC r4 o4 (by omega)).bind fun c r5 s5 o5 h5=> ?_
 refine (q93 hC r5 o5 (by omega)).bind fun e r6 s6 o6 h6=> ?_
 exact Q.ok o6 ⟨Z0 13 (by simp) (by simp) qci (jj h1.2 wl) (ux h4.1 (ux h5.1 (ux h6.1 wv))),by omega⟩
theorem q91 (hB:Rd B) (hC:Rd C):Rd (qop B C):=fun t hg hl=>by
 unfold qop
 split
 ·exact qn8 hB 10 (by decide) t hg hl
 split
 ·exact za1 hB t hg hl
 split
 ·exact Q_if hB hC t hg hl
 split
 ·exact q7q hB hC t hg hl
 split
 ·exact za0 hB t hg hl
 exact Q_do hB t hg hl
theorem za3:Rd newP:=fun t hg hl=>by
 unfold newP
 refine (kg hg (by decide)).bind fun g1 r1 s1 o1 h1=> ?_
 refine (Wd o1).bind fun a r2 s2 o2 h2=> ?_
 refine (kg o2 (by decide)).bind fun g3 r3 s3 o3 h3=> ?_
 refine (kg o3 (by decide)).bind fun g5 r5 s5 o5 h5=> ?_
 exact Q.ok o5 ⟨Z0 22 (by simp) (by simp) h2.2.1 (jj h1.2 (jj h2.2.2 (jj h3.2 (jj h5.2 wl)))) wv,by omega⟩
theorem za2 (hB:Rd B):Rd (parP B):=fun t hg hl=>by
 unfold parP
 refine (kg hg (by decide)).bind fun g1 r1 s1 o1 h1=> ?_
 refine (hB r1 o1 (by omega)).bind fun n r4 s4 o4 h4=> ?_
 refine (kg o4 (by decide)).bind fun g5 r5 s5 o5 h5=> ?_
 exact Q.ok o5 ⟨Z0 26 (by simp) (by simp) qci (jj h1.2 (jj h5.2 wl)) (ux h4.1 wv),by omega⟩
theorem q94 {A:BA→BA→List Token→Rs Node} (hA:∀a g,Yy a→Yy g→Rd (A a g)):Rd (qw8 A):=fun t hg hl=>by
 unfold qw8
 refine (Wd hg).bind fun a r2 s2 o2 h2=> ?_
 split
 ·exact (hA a.1 a.2 h2.2.1 h2.2.2 r2 o2 (by omega)).mono fun n r _ h=>⟨h.1,by omega⟩
 exact Q.ok o2 ⟨Z0 19 (by simp) (by simp) h2.2.1 (jj h2.2.2 wl) wv,by omega⟩
theorem q92 (hB:Rd B) {A:BA→BA→List Token→Rs Node} (hA:∀a g,Yy a→Yy g→Rd (A a g)):Rd (qv6 B A):=fun t hg hl=>by
 cases t with
 | nil=>exact hg.elim
 | cons x r=>
   have leaf:∀k:Int,x.Text≠⟨#[]⟩→Q (x::r) (fun n q=>wfB n=true∧q.length+1≤(x::r).length) (.ok (.mk k x.Text [x.Lead] [],r)):=fun k h=>
    ⟨BM x r,Yv hg h,Z0 k (by simp) (by simp) hg.1.2.1 (jj hg.1.1 wl) wv,Aj _⟩
   have lit:∀{w:BA},isT w (x::r)=true→w≠⟨#[]⟩→x.Text≠⟨#[]⟩:=fun h h2=>by rw [of_decide_eq_true h];exact h2
   simp only [qv6]
   split
   ·rename_i h
    refine leaf 17 ?_
    rcases hg.2 with ⟨_,h2,_⟩ | ⟨_,_,_,h2,_⟩
    ·rw [of_decide_eq_true h] at h2;exact absurd h2 (by decide)
    exact h2
   split
   ·rename_i h;exact leaf 18 (lit h (by decide))
   split
   ·rename_i h;exact leaf 18 (lit h (by decide))
   split
   ·rename_i h;exact leaf 23 (lit h (by decide))
   split
   ·exact za3 _ hg hl
   split
   ·exact za2 hB _ hg hl
   exact q94 hA _ hg hl
theorem q02:Rd qdn:=fun t hg hl=>by
 unfold qdn
 refine (Wd hg).bind fun a r2 s2 o2 h2=> ?_
 refine (Wd o2).bind fun b r3 s3 o3 h3=> ?_
 exact Q.ok o3 ⟨Z0 4 (by simp) (by simp) h2.2.1 (jj h2.2.2 wl) (ux (Z0 5 (by simp) (by simp) h3.2.1 (jj h3.2.2 wl) wv) wv),by omega⟩
theorem q95:∀t,Good t→t.length≤70000→Q t (fun n r=>wfB n=true∧r.length≤t.length) (qs2 t):=fun t hg hl=>by
 unfold qs2
 split
 ·refine (kg hg (by decide)).bind fun g1 r1 s1 o1 h1=> ?_
  refine (Wd o1).bind fun a r2 s2 o2 h2=> ?_
  exact Q.ok o2 ⟨Z0 8 (by simp) (by simp) h2.2.1 (jj h1.2 (jj h2.2.2 wl)) wv,by omega⟩
 exact Q.ok hg ⟨Z0 8 (by simp) (by simp) qci wl wv,Aj _⟩
end
theorem qt4 {t:List Token} (h:Good t):1≤t.length:=by
 cases t with
 | nil=>exact h.elim
 | cons x r=>rw [Ae];omega
theorem S_ok:∀(f:Nat) (c:Cat) (t:List Token),Good t→pre c t.length→Q t (post c t.length) (S f c t)
 | 0,c,t,hg,hp=>⟨BI t,hg⟩
 | f + 1, c,t,hg,hp=>by
   have ih:=S_ok f
   have hB:∀v:Int,1≤v→v≤6→Rd (S f (.bin v)):=fun v h1 h6 t hg hl=>ih (.bin v) t hg ⟨hl,h1,h6⟩
   have hB1:=hB 1 (by decide) (by decide)
   have hU:Rd (S f .un):=fun t hg hl=>ih .un t hg hl
   have hC:Rd (S f .blk):=fun t hg hl=>ih .blk t hg hl
   have hT:Rd (S f .stmt):=fun t hg hl=>ih .stmt t hg hl
   have hF:Rd (S f .func):=fun t hg hl=>ih .func t hg hl
   have hK:Rd (S f .cls):=fun t hg hl=>ih .cls t hg hl
   have hpos:=qt4 hg
   cases c with
   | bin v=>
     obtain ⟨hl,h1,h6⟩:=hp
     simp only [S]
     split
     ·exact hU t hg hl
     rename_i h5
     rw [decide_eq_true_eq] at h5
     refine (hB (v+1) (by omega) (by omega) t hg hl).bind fun n r s o h=> ?_
     exact (ih (.binL v n) r o ⟨by omega,h1,by omega,h.1⟩).mono fun m q _ h'=>⟨h'.1,by have:=h'.2;unfold uc at this ⊢;simp only at this ⊢;omega⟩
   | binL v m=>
     obtain ⟨hl,h1,h5,hm⟩:=hp
     cases t with
     | nil=>exact hg.elim
     | cons x r=>
       simp only [S,binP]
       split
       ·rename_i hx
        have hr:Good r:=Yv hg (by
         rintro h0
         rw [h0] at hx
         have:=of_decide_eq_true hx
         rw [show Jr ⟨#[]⟩=0 from by decide] at this
         omega)
        rw [Ae] at hl
        refine Q.up (r:=r) ?_ (BM x r)
        refine (hB (v+1) (by omega) (by omega) r hr (by omega)).bind fun n q s o h=> ?_
        have hw:wfB (.mk 24 x.Text [x.Lead] [m,n])=true:=Z0 24 (by simp) (by simp) hg.1.2.1 (jj hg.1.1 wl) (ux hm (ux h.1 wv))
        split
        ·exact Q.ok o ⟨hw,by rw [Ae];unfold uc;simp only;omega⟩
        exact (ih (.binL v _) q o ⟨by omega,h1,h5,hw⟩).mono fun m q _ h'=>⟨h'.1,by have:=h'.2;rw [Ae];unfold uc at this ⊢;simp only at this ⊢;omega⟩
       exact Q.ok hg ⟨hm,by unfold uc;simp only;omega⟩
   | un =>
     have hl:t.length≤70000:=hp
     cases t with
     | nil=>exact hg.elim
     | cons x r=>
       simp only [S,unP]
       have neg:∀{w:BA},isT w (x::r)=true→w≠⟨#[]⟩→Q (x::r) (post .un (x::r).length) (bR (S f .un r) fun n t=> .ok (.mk 25 x.Text [x.Lead] [n],t)):=fun {w} h h2=>by
        have hr:Good r:=Yv hg (by rw [of_decide_eq_true h];exact h2)
        rw [Ae] at hl
        refine Q.up (r:=r) ?_ (BM x r)
        refine (hU r hr (by omega)).bind fun n q s o h=> ?_
        exact Q.ok o ⟨Z0 25 (by simp) (by simp) hg.1.2.1 (jj hg.1.1 wl) (ux h.1 wv),by rw [Ae];unfold uc;simp only;omega⟩
       split
       ·rename_i h;exact neg h (by decide)
       split
       ·rename_i h;exact neg h (by decide)
       refine (ih .prim (x::r) hg hl).bind fun n q s o h=> ?_
       have h2:=h.2
       unfold uc at h2;simp only at h2
       exact (ih (.unL n) q o ⟨by omega,h.1⟩).mono fun m q _ h'=>⟨h'.1,by have:=h'.2;unfold uc at this ⊢;simp only at this ⊢;omega⟩
   | unL m=>
     obtain ⟨hl,hm⟩:=hp
     simp only [S]
     split
     ·unfold qzm
      refine (kg hg (by decide)).bind fun g1 r1 s1 o1 h1=> ?_
      refine (Wd o1).bind fun a r2 s2 o2 h2=> ?_
      refine (ih (.args 21 a.1 [g1,a.2] [m]) r2 o2 ⟨by omega,h2.2.1,?_,?_,jj h1.2 (jj h2.2.2 wl),ux hm wv⟩).bind fun n r3 s3 o3 h3=> ?_
      ·simp only [Ae,Ar];omega
      ·simp only [Ae,Ar];omega
      have h32:=h3.2
      unfold uc at h32;simp only at h32
      exact (ih (.unL n) r3 o3 ⟨by omega,h3.1⟩).mono fun m q _ h'=>⟨h'.1,by have:=h'.2;unfold uc at this ⊢;simp only at this ⊢;omega⟩
     exact Q.ok hg ⟨hm,by unfold uc;simp only;omega⟩
   | prim=>
     have hl:t.length≤70000:=hp
     refine q92 hB1 (fun a g ha hg' t hg hl=>ih (.args 20 a [g] []) t hg ⟨hl,ha,?_,?_,jj hg' wl,wv⟩) t hg hl
     ·simp only [Ae,Ar];omega
     simp only [Ar];omega
   | args k x g ks=>
     obtain ⟨hl,hx,hr⟩:=hp
     simp only [S]
     refine (kg hg (by decide)).bind fun g1 r1 s1 o1 h1=> ?_
     refine (ih (.argL true k x (g++ [g1]) ks) r1 o1 ⟨by omega,hx,?_,?_,qbx hr.2.2.1 h1.2,hr.2.2.2⟩).mono fun m q _ h'=>⟨h'.1,by have:=h'.2;unfold uc at this ⊢;simp only at this ⊢;omega⟩
     ·rw [Ad,Ai];have:=hr.1;omega
     have:=hr.2.1;omega
   | argL b k x g ks=>
     obtain ⟨hl,hx,hr⟩:=hp
     have r1:=hr.1
     have r2:=hr.2.1
     simp only [S,argP]
     split
     ·refine (kg hg (by decide)).bind fun g1 r1 s1 o1 h1=> ?_
      exact Q.ok o1 ⟨Z0 k (by omega) (by rw [Ad,Ai];omega) hx (qbx hr.2.2.1 h1.2) hr.2.2.2,by unfold uc;simp only;omega⟩
     split
     ·refine (hB1 t hg hl).bind fun n r4 s4 o4 h4=> ?_
      refine (ih (.argL false k x g (ks++ [n])) r4 o4 ⟨by omega,hx,by omega,?_,hr.2.2.1,Wu hr.2.2.2 h4.1⟩).mono fun m q _ h'=>⟨h'.1,by have:=h'.2;unfold uc at this ⊢;simp only at this ⊢;omega⟩
      rw [Ad,Ai];omega
     refine (kg hg (by decide)).bind fun g1 r1 s1 o1 h1=> ?_
     refine (hB1 r1 o1 (by omega)).bind fun n r4 s4 o4 h4=> ?_
     refine (ih (.argL false k x (g++ [g1]) (ks++ [n])) r4 o4 ⟨by omega,hx,?_,?_,qbx hr.2.2.1 h1.2,Wu hr.2.2.2 h4.1⟩).mono fun m q _ h'=>⟨h'.1,by have:=h'.2;unfold uc at this ⊢;simp only at this ⊢;omega⟩
     ·rw [Ad,Ai];omega
     rw [Ad,Ai];omega
   | stmt=>exact q91 hB1 hC t hg hp
   | blk=>
     have hl:t.length≤70000:=hp
     simp only [S]
     refine (kg hg (by decide)).bind fun g1 r1 s1 o1 h1=> ?_
     refine (ih (.blkL [g1] []) r1 o1 ⟨by omega,?_,?_,jj h1.2 wl,wv⟩).mono fun m q _ h'=>⟨h'.1,by have:=h'.2;unfold uc at this ⊢;simp only at this ⊢;omega⟩
     ·simp only [Ae,Ar];omega
     simp only [Ar];omega
   | blkL g ks=>
     obtain ⟨hl,hr⟩:=hp
     have r1:=hr.1
     have r2:=hr.2.1
     simp only [S,blkP]
     split
     ·refine (kg hg (by decide)).bind fun g1 r1 s1 o1 h1=> ?_
      exact Q.ok o1 ⟨Z0 6 (by omega) (by rw [Ad,Ai];omega) qci (qbx hr.2.2.1 h1.2) hr.2.2.2,by unfold uc;simp only;omega⟩
     refine (hT t hg hl).bind fun n r4 s4 o4 h4=> ?_
     refine (ih (.blkL g (ks++ [n])) r4 o4 ⟨by omega,by omega,?_,hr.2.2.1,Wu hr.2.2.2 h4.1⟩).mono fun m q _ h'=>⟨h'.1,by have:=h'.2;unfold uc at this ⊢;simp only at this ⊢;omega⟩
     rw [Ad,Ai];omega
   | parL g ks=>
     obtain ⟨hl,hr⟩:=hp
     have r1:=hr.1
     have r2:=hr.2.1
     simp only [S,qzu]
     split
     ·refine (kg hg (by decide)).bind fun g1 r1 s1 o1 h1=> ?_
      exact Q.ok o1 ⟨Z0 3 (by omega) (by rw [Ad,Ai];omega) qci (qbx hr.2.2.1 h1.2) hr.2.2.2,by unfold uc;simp only;omega⟩
     split
     ·refine (kg hg (by decide)).bind fun g1 r1 s1 o1 h1=> ?_
      refine (q02 r1 o1 (by omega)).bind fun n r4 s4 o4 h4=> ?_
      refine (ih (.parL (g++ [g1]) (ks++ [n])) r4 o4 ⟨by omega,?_,?_,qbx hr.2.2.1 h1.2,Wu hr.2.2.2 h4.1⟩).mono fun m q _ h'=>⟨h'.1,by have:=h'.2;unfold uc at this ⊢;simp only at this ⊢;omega⟩
      ·rw [Ad,Ai];omega
      rw [Ad,Ai];omega
     refine (q02 t hg hl).bind fun n r4 s4 o4 h4=> ?_
     refine (ih (.parL g (ks++ [n])) r4 o4 ⟨by omega,by omega,?_,hr.2.2.1,Wu hr.2.2.2 h4.1⟩).mono fun m q _ h'=>⟨h'.1,by have:=h'.2;unfold uc at this ⊢;simp only at this ⊢;omega⟩
     rw [Ad,Ai];omega
   | func=>
     have hl:t.length≤70000:=hp
     simp only [S,funP]
     refine (kg hg (by decide)).bind fun g1 r1 s1 o1 h1=> ?_
     refine (Wd o1).bind fun a r2 s2 o2 h2=> ?_
     refine (kg o2 (by decide)).bind fun g3 r3 s3 o3 h3=> ?_
     refine (ih (.parL [g3] []) r3 o3 ⟨by omega,?_,?_,jj h3.2 wl,wv⟩).bind fun p r4 s4 o4 h4=> ?_
     ·simp only [Ae,Ar];omega
     ·simp only [Ar];omega
     have h42:=h4.2
     unfold funK
     refine (Wd o4).bind fun b r5 s5 o5 h5=> ?_
     refine (hC r5 o5 (by omega)).bind fun c r6 s6 o6 h6=> ?_
     exact Q.ok o6 ⟨Z0 2 (by simp) (by simp) h2.2.1 (jj h1.2 (jj h2.2.2 wl)) (ux h4.1 (ux (Z0 5 (by simp) (by simp) h5.2.1 (jj h5.2.2 wl) wv) (ux h6.1 wv))),by unfold uc;simp only;omega⟩
   | clsL x g ks=>
     obtain ⟨hl,hx,hr⟩:=hp
     have r1:=hr.1
     have r2:=hr.2.1
     simp only [S,q0p]
     split
     ·refine (hF t hg hl).bind fun n r4 s4 o4 h4=> ?_
      refine (ih (.clsL x g (ks++ [n])) r4 o4 ⟨by omega,hx,by omega,?_,hr.2.2.1,Wu hr.2.2.2 h4.1⟩).mono fun m q _ h'=>⟨h'.1,by have:=h'.2;unfold uc at this ⊢;simp only at this ⊢;omega⟩
      rw [Ad,Ai];omega
     refine (kg hg (by decide)).bind fun g1 r1 s1 o1 h1=> ?_
     exact Q.ok o1 ⟨Z0 7 (by omega) (by rw [Ad,Ai];omega) hx (qbx hr.2.2.1 h1.2) hr.2.2.2,by unfold uc;simp only;omega⟩
   | cls=>
     have hl:t.length≤70000:=hp
     simp only [S,clsP]
     refine (kg hg (by decide)).bind fun g1 r1 s1 o1 h1=> ?_
     refine (Wd o1).bind fun a r2 s2 o2 h2=> ?_
     refine (q95 r2 o2 (by omega)).bind fun b r3 s3 o3 h3=> ?_
     refine (kg o3 (by decide)).bind fun g4 r4 s4 o4 h4=> ?_
     refine (ih (.clsL a.1 [g1,a.2,g4] [b]) r4 o4 ⟨by omega,h2.2.1,?_,?_,jj h1.2 (jj h2.2.2 (jj h4.2 wl)),ux h3.1 wv⟩).mono fun m q _ h'=>⟨h'.1,by have:=h'.2;unfold uc at this ⊢;simp only at this ⊢;omega⟩
     ·simp only [Ae,Ar];omega
     simp only [Ae,Ar];omega
   | file ks=>
     obtain ⟨hl,hr⟩:=hp
     have r2:=hr.2.1
     cases t with
     | nil=>exact hg.elim
     | cons x r=>
       have on:∀{G:List Token→Rs Node},Rd G→Q (x::r) (post (.file ks) (x::r).length) (bR (G (x::r)) fun n l=>S f (.file (ks++ [n])) l):=fun {G} hG=>by
        refine (hG _ hg hl).bind fun n r4 s4 o4 h4=> ?_
        refine (ih (.file (ks++ [n])) r4 o4 ⟨by omega,?_,?_,wl,Wu hr.2.2.2 h4.1⟩).mono fun m q _ h'=>⟨h'.1,by have:=h'.2;unfold uc at this ⊢;simp only at this ⊢;omega⟩
        ·simp only [Ar];omega
        rw [Ad,Ai];omega
       simp only [S,q0k]
       split
       ·exact Q.ok hg ⟨Z0 1 (by omega) (by simp) qci (jj hg.1.1 wl) hr.2.2.2,by unfold uc;simp only;omega⟩
       split
       ·exact on hF
       split
       ·exact on hK
       split
       ·exact on (qn8 hB1 9 (by decide))
       exact ⟨BI _,hg⟩
end Ps
end Go.Proofs.YtpnkemogepoioaaGreatDoorW.Ex.Gr

namespace Go.Proofs.YtpnkemogepoioaaGreatDoorW.Ex.Gr
open Go Go.Proofs.YtpnkemogepoioaaGreatDoorW.Ex Go.Proofs.YtpnkemogepoioaaGreatDoorW.Plain
set_option linter.all false
set_option maxRecDepth 100000
namespace Ps
open Tk
def rd (tk t:List Token):Reader:=⟨tk,((tk.length - t.length:Nat):Int)⟩
def atE:List Token→Int
 | []=>0
 | x::_=>x.At
@[reducible] def cv {α β:Type} (tk:List Token) (f:α→Reader→β):Rs α→Except Int β
  | .error u=> .error (atE u)
  | .ok y=> .ok (f y.1 (rd tk y.2))
abbrev cvN (tk:List Token):Rs Node→Except Int (Node × Reader):=cv tk fun n r=>(n,r)
abbrev cvA (tk:List Token):Rs Node→Except Int (Reader × LB × LN):=cv tk fun n r=>(r,n.gaps,n.kids)
theorem bE {α β γ δ:Type} {tk t:List Token} {f:α→Reader→γ} {g:β→Reader→δ} {y:Rs α} {z:α→List Token→Rs β} {P:α→List Token→Prop} {x:Option (Except Int γ)} {c:Except Int γ→Option (Except Int δ)}
 (h:x=some (cv tk f y)) (hQ:Q t P y) (hk:∀n r,r <:+t→Good r→P n r→c (.ok (f n (rd tk r)))=some (cv tk g (z n r))) (hc:∀e,c (.error e)=some (.error e):=by exact fun _=>rfl):
 (x >>=c)=some (cv tk g (bR y z)):=by
 subst h
 cases y with
 | error u=>exact hc _
 | ok y=>exact hk y.1 y.2 hQ.1 hQ.2.1 hQ.2.2
theorem q4b (x:Token) (r:List Token):nmT (x::r)=(decide (x.Kind=1) && qal x.Text.data.toList):=rfl
theorem q5q {α β γ:Type} (x:Rs α) (k:α→List Token→Rs β) (g:β→List Token→Rs γ):bR (bR x k) g=bR x fun n r=>bR (k n r) g:=by cases x <;> rfl
theorem q9p {α:Type} (y:Rs α):bR y (fun n r=> .ok (n,r))=y:=by cases y <;> rfl
theorem q4q {tk r:List Token} {x:Token} (h:(x::r) <:+tk):ix tk ((tk.length - (x::r).length:Nat):Int)=some x:=by
 obtain ⟨p,rfl⟩:=h
 rw [show (p++x::r).length - (x::r).length=p.length by rw [Ad];omega,qmb,Bu (Aj _),Nat.sub_self];rfl
theorem qny {tk r:List Token} {x:Token} (h:(x::r) <:+tk) (hn:tk.length≤70000):Reader.mk (rd tk (x::r)).l_ (IntKind.i64.wrap ((rd tk (x::r)).at_+(1:Int)))=rd tk r:=by
 have hl:=Y4 h
 rw [Ae] at hl
 unfold rd
 simp only [Ae]
 rw [we (by omega) (by omega)]
 congr 1
 omega
section
variable {tk:List Token}
theorem qgy {x:Token} {r:List Token} (h:(x::r) <:+tk):zy (rd tk (x::r))=some x:=by
 unfold zy rd
 rw [q4q h,bs]
theorem E_is {t:List Token} {w:BA} (h:t <:+tk) (hg:Good t) (hw:w≠⟨#[]⟩):zd (rd tk t) w=some (isT w t):=by
 cases t with
 | nil=>exact hg.elim
 | cons x r=>
   unfold zd
   rw [qgy h,bs]
   by_cases h4:x.Kind=4
   ·rw [decide_eq_true h4]
    have:x.Text=⟨#[]⟩:=by
     rcases hg.2 with ⟨_,_,h2⟩ | ⟨h2,_⟩
     ·exact h2
     exact absurd h4 h2
    rw [show isT w (x::r)=false from decide_eq_false (by rw [this];exact fun e=>hw e.symm)]
    rfl
   rw [decide_eq_false h4]
   simp only [Aa,if_true]
   rw [bs];rfl
theorem qu0 {x:Token} {r:List Token} (h:(x::r) <:+tk):k7 (rd tk (x::r))=some (.error x.At):=by
 unfold k7
 rw [qgy h,bs]
theorem vi {t:List Token} {w:BA} (h:t <:+tk) (hn:tk.length≤70000) (hg:Good t) (hw:w≠⟨#[]⟩) (a1:Int) (a3:BA) {g:LB} (a5:LN) (hl:g.length≤1000000):
 qp (rd tk t) a1 a3 g a5 w=some (cv tk (fun x r=>(r,g++ [x])) (tkT w t)):=by
 cases t with
 | nil=>exact hg.elim
 | cons x r=>
   unfold qp
   rw [E_is h hg hw,bs]
   simp only [tkT]
   show (if (!decide (x.Text=w))=true then _ else _)=_
   by_cases hx:x.Text=w
   ·rw [decide_eq_true hx]
    unfold uu
    simp only [Ac,AA,if_false,if_true]
    rw [qgy h,bs,qck (by rw [Ai];omega) (by decide),bs,qny h hn]
   rw [decide_eq_false hx,qu0 h]
   rfl
theorem qex {t:List Token} (h:t <:+tk) (hn:tk.length≤70000) (hg:Good t) (a1:Int) (a2:BA) {g:LB} (a4:LN) (hl:g.length≤1000000):
 jd (rd tk t) a1 a2 g a4=some (cv tk (fun a r=>(r,a.1,g++ [a.2])) (tkN t)):=by
 cases t with
 | nil=>exact hg.elim
 | cons x r=>
   unfold jd
   rw [qgy h,bs]
   simp only [tkN]
   by_cases hx:x.Kind=1
   ·rw [decide_eq_true hx]
    unfold qa9
    simp only [Ac,AA,if_false,Bv]
    rw [bs]
    cases hv:qal x.Text.data.toList with
    | false=>
      simp only [Aa,if_true,AA,if_false]
      rw [qu0 h];rfl
    | true=>
      unfold wj
      simp only [Ac,AA,if_false,if_true]
      rw [qck (by rw [Ai];omega) (by decide),bs,qny h hn]
   rw [decide_eq_false hx]
   simp only [Aa,if_true,Cf,AA,if_false]
   rw [qu0 h];rfl
theorem q55 {t:List Token} (h:t <:+tk) (hn:tk.length≤70000) (hg:Good t):uo (rd tk t)=some (cv tk (fun a r=>(Node.mk 5 a.1 [a.2] [],r)) (tkN t)):=by
 unfold uo
 rw [qex h hn hg 5 _ [] (by simp)]
 cases tkN t <;> rfl
theorem qkf {x:Token} {r:List Token} (h:(x::r) <:+tk) (hn:tk.length≤70000) (k:Int):j7 (rd tk (x::r)) k=some (Node.mk k x.Text [x.Lead] [],rd tk r):=by
 unfold j7
 rw [qgy h,bs,qny h hn]
theorem Z5 (a0:Int) (a2:BA) (a3:LB) {ks:LN} (n:Node) (hl:ks.length≤1000000):zu a0 a2 a3 ks n=some (ks++ [n]):=by
 unfold zu
 rw [qck (by rw [Ai];omega) (by decide),bs]
theorem qu1 (a0:Int) (a2:BA) (a3:LB) {ks:LN} (n:Node) (hl:ks.length≤1000000):Zk a0 a2 a3 ks n=some (ks++ [n]):=by
 unfold Zk
 rw [qck (by rw [Ai];omega) (by decide),bs]
theorem q7v {x:Token} {r:List Token} (hg:Good (x::r)):Wp x=some (Jr x.Text):=by
 unfold Wp
 by_cases h3:x.Kind=3
 ·rw [decide_eq_true h3]
  simp only [Ac,AA,if_false,decide_eq_true_eq]
  unfold Jr
  repeat' split
  all_goals first | rfl | simp_all
 rw [decide_eq_false h3]
 simp only [Aa,if_true]
 congr 1
 rcases hg.2 with ⟨_,_,h2⟩ | ⟨_,_,h2,_,_⟩
 ·rw [h2];decide
 unfold Jr
 rw [h2] at h3
 have no:∀l:List UInt8,qpo l=3→x.Text≠⟨l.toArray⟩:=fun l hl e=>h3 (by rw [e];exact hl)
 rw [if_neg (no [124] (by decide)),if_neg (no [38] (by decide)),if_neg (by rintro (e | e);exact no [61,61] (by decide) e;exact no [60] (by decide) e),if_neg (by rintro (e | e);exact no [43] (by decide) e;exact no [45] (by decide) e),if_neg (by rintro (e | e);exact no [42] (by decide) e;exact no [47] (by decide) e)]
end
theorem nx {α:Type} (a:α):qa a=a:=rfl
theorem qun:∀(f:Nat) (l:List Token),(∀(k:Int) (x:BA) (g:List BA) (ks:List Node) (n:Node) (r:List Token),S f (.args k x g ks) l= .ok (n,r)→n= .mk k x n.gaps n.kids)∧(∀(b:Bool) (k:Int) (x:BA) (g:List BA) (ks:List Node) (n:Node) (r:List Token),S f (.argL b k x g ks) l= .ok (n,r)→n= .mk k x n.gaps n.kids)
 | 0,l=>⟨fun _ _ _ _ _ _ h=>(by cases h),fun _ _ _ _ _ _ _ h=>(by cases h)⟩
 | f +1,l=>by
   have ih:=qun f
   constructor
   ·intro k x g ks n r h
    simp only [S] at h
    cases h1:tkT ⟨#[40]⟩ l with
    | error u=>rw [h1,bR_e] at h;cases h
    | ok y=>rw [h1] at h;exact (ih _).2 _ _ _ _ _ _ _ h
   intro b k x g ks n r h
   simp only [S,argP] at h
   split at h
   ·cases h1:tkT ⟨#[41]⟩ l with
    | error u=>rw [h1,bR_e] at h;cases h
    | ok y=>rw [h1] at h;cases h;rfl
   split at h
   ·cases h1:S f (.bin 1) l with
    | error u=>rw [h1,bR_e] at h;cases h
    | ok y=>rw [h1] at h;exact (ih _).2 _ _ _ _ _ _ _ h
   cases h1:tkT ⟨#[44]⟩ l with
   | error u=>rw [h1,bR_e] at h;cases h
   | ok y=>
     rw [h1] at h
     replace h:bR (S f (.bin 1) y.2) (fun n l=>S f (.argL false k x (g++ [y.1]) (ks++ [n])) l)= .ok (n,r):=h
     cases h2:S f (.bin 1) y.2 with
     | error u=>rw [h2,bR_e] at h;cases h
     | ok z=>rw [h2] at h;exact (ih _).2 _ _ _ _ _ _ _ h
theorem qz9 {n:Node} {k:Int} {x:BA} (h:n= .mk k x n.gaps n.kids):Node.mk k x n.gaps n.kids=n:=h.symm
section
variable {tk:List Token}
def EP (tk:List Token) (f:Nat):Cat→List Token→Prop
 | .bin v,t=>zb (rd tk t) v=some (cvN tk (S f (.bin v) t))
 | .binL v m,t=>jz v (rd tk t) m=some (cvN tk (S f (.binL v m) t))
 | .un,t=>yi (rd tk t)=some (cvN tk (S f .un t))
 | .unL m,t=>js (rd tk t) m=some (cvN tk (S f (.unL m) t))
 | .prim,t=>kq (rd tk t)=some (cvN tk (S f .prim t))
 | .args k x g ks,t=>jl (rd tk t) k x g ks=some (cvA tk (S f (.args k x g ks) t))
 | .argL b k x g ks,t=>ji b (rd tk t) k x g ks=some (cvA tk (S f (.argL b k x g ks) t))
 | .stmt,t=>ym (rd tk t)=some (cvN tk (S f .stmt t))
 | .blk,t=>jg (rd tk t)=some (cvN tk (S f .blk t))
 | .blkL g ks,t=>j5 (rd tk t) 6 ⟨#[]⟩ g ks=some (cvN tk (S f (.blkL g ks) t))
 | .parL g ks,t=>∀(C:List Token→Rs Node) (a:BA) (ga:List BA),(∀t',t' <:+t→Good t'→jg (rd tk t')=some (cvN tk (C t')))→Rd C→j4 (rd tk t) 2 a ga [] 3 ⟨#[]⟩ g ks=some (cvN tk (bR (S f (.parL g ks) t) (funK C a ga)))
 | .func,t=>y8 (rd tk t)=some (cvN tk (S f .func t))
 | .clsL x g ks,t=>yt (rd tk t) 7 x g ks=some (cvN tk (S f (.clsL x g ks) t))
 | .cls,t=>uh (rd tk t)=some (cvN tk (S f .cls t))
 | .file ks,t=>zw (rd tk t) 1 ⟨#[]⟩ [] ks=some (cvN tk (S f (.file ks) t))
def qs3 (tk t:List Token) (F:Reader→Option (Except Int (Node × Reader))) (B:List Token→Rs Node):Prop:=∀t',t' <:+t→Good t'→F (rd tk t')=some (cvN tk (B t'))
theorem qs3.sub {tk t r:List Token} {F:Reader→Option (Except Int (Node × Reader))} {B:List Token→Rs Node} (h:qs3 tk t F B) (hr:r <:+t):qs3 tk r F B:=fun t' h1 h2=>h t' (h1.trans hr) h2
variable {B C:List Token→Rs Node}
theorem q1b {t:List Token} (h:t <:+tk) (hn:tk.length≤70000) (hg:Good t) (k:Int) {w:BA} (hw:w≠⟨#[]⟩) (hB:Rd B) (hF:qs3 tk t (fun r=>zb r 1) B):ug (rd tk t) k w=some (cvN tk (qep B k w t)):=by
 have hl:=Y4 h
 unfold ug qep
 refine bE (vi h hn hg hw k _ [] (by simp)) (kg hg hw) fun g1 r1 s1 o1 h1=> ?_
 dsimp only
 refine bE (qex (s1.trans h) hn o1 k _ [] (by simp)) (Wd o1) fun a r2 s2 o2 h2=> ?_
 dsimp only
 have z2:=s2.trans s1
 refine bE (vi (z2.trans h) hn o2 (by decide) k _ [] (by simp)) (kg o2 (by decide)) fun g3 r3 s3 o3 h3=> ?_
 dsimp only
 have z3:=s3.trans z2
 refine bE (hF r3 z3 o3) (hB r3 o3 (by omega)) fun n r4 s4 o4 h4=> ?_
 dsimp only
 have z4:=s4.trans z3
 rw [Z5 _ _ _ _ (by simp),bs]
 refine bE (vi (z4.trans h) hn o4 (by decide) k _ _ (by simp)) (kg o4 (by decide)) fun g5 r5 s5 o5 h5=> ?_
 dsimp only
 rfl
theorem E_at {x y:Token} {r:List Token} (h:(x::y::r) <:+tk) (hn:tk.length≤70000):ix (rd tk (x::y::r)).l_ (IntKind.i64.wrap ((rd tk (x::y::r)).at_+(1:Int)))=some y:=by
 rw [show IntKind.i64.wrap ((rd tk (x::y::r)).at_+(1:Int))=(rd tk (y::r)).at_ from congrArg Reader.at_ (qny h hn)]
 exact q4q ((BM x (y::r)).trans h)
theorem zac {t:List Token} (h:t <:+tk) (hn:tk.length≤70000) (hg:Good t) (hB:Rd B) (hC:Rd C) (hF:qs3 tk t (fun r=>zb r 1) B) (hK:qs3 tk t jg C):ym (rd tk t)=some (cvN tk (qop B C t)):=by
 have hl:=Y4 h
 rw [ym]
 simp only [nx]
 rw [E_is h hg (by decide),bs]
 unfold qop
 by_cases c1:isT ⟨#[108,101,116]⟩ t=true
 ·rw [if_pos c1,if_pos c1,←q9p (qep B 10 ⟨#[108,101,116]⟩ t)]
  exact bE (q1b h hn hg 10 (by decide) hB hF) (qn8 hB 10 (by decide) t hg (by omega)) fun n r _ _ _=>rfl
 rw [if_neg c1,if_neg c1,E_is h hg (by decide),bs]
 by_cases c2:isT ⟨#[114,101,116,117,114,110]⟩ t=true
 ·rw [if_pos c2,if_pos c2]
  unfold retP
  refine bE (vi h hn hg (by decide) 12 _ [] (by simp)) (kg hg (by decide)) fun g1 r1 s1 o1 h1=> ?_
  dsimp only
  refine bE (hF r1 s1 o1) (hB r1 o1 (by omega)) fun n r4 s4 o4 h4=> ?_
  dsimp only
  have z4:=s4.trans s1
  rw [Z5 _ _ _ _ (by simp),bs]
  refine bE (vi (z4.trans h) hn o4 (by decide) 12 _ _ (by simp)) (kg o4 (by decide)) fun g5 r5 s5 o5 h5=> ?_
  dsimp only
  rfl
 rw [if_neg c2,if_neg c2,E_is h hg (by decide),bs]
 by_cases c3:isT ⟨#[105,102]⟩ t=true
 ·rw [if_pos c3,if_pos c3]
  unfold ifP
  refine bE (vi h hn hg (by decide) 13 _ [] (by simp)) (kg hg (by decide)) fun g1 r1 s1 o1 h1=> ?_
  dsimp only
  refine bE (hF r1 s1 o1) (hB r1 o1 (by omega)) fun n r4 s4 o4 h4=> ?_
  dsimp only
  have z4:=s4.trans s1
  rw [Z5 _ _ _ _ (by simp),bs]
  refine bE (hK r4 z4 o4) (hC r4 o4 (by omega)) fun c r5 s5 o5 h5=> ?_
  dsimp only
  have z5:=s5.trans z4
  rw [Z5 _ _ _ _ (by simp),bs,E_is (z5.trans h) o5 (by decide),bs]
  unfold qsv
  by_cases c4:isT ⟨#[101,108,115,101]⟩ r5=true
  ·rw [if_pos c4,if_pos c4]
   simp only [q5q,bR_o]
   refine bE (vi (z5.trans h) hn o5 (by decide) 14 _ [] (by simp)) (kg o5 (by decide)) fun g6 r6 s6 o6 h6=> ?_
   dsimp only
   refine bE (hK r6 (s6.trans z5) o6) (hC r6 o6 (by omega)) fun c7 r7 s7 o7 h7=> ?_
   dsimp only
   rw [Z5 _ _ _ _ (by simp),bs]
   unfold yy
   rw [Z5 _ _ _ _ (by simp),bs]
   rfl
  rw [if_neg c4,if_neg c4]
  unfold yy
  rw [Z5 _ _ _ _ (by simp),bs]
  rfl
 rw [if_neg c3,if_neg c3,E_is h hg (by decide),bs]
 by_cases c5:isT ⟨#[119,104,105,108,101]⟩ t=true
 ·rw [if_pos c5,if_pos c5]
  unfold qoi
  refine bE (vi h hn hg (by decide) 15 _ [] (by simp)) (kg hg (by decide)) fun g1 r1 s1 o1 h1=> ?_
  dsimp only
  refine bE (hF r1 s1 o1) (hB r1 o1 (by omega)) fun n r4 s4 o4 h4=> ?_
  dsimp only
  have z4:=s4.trans s1
  rw [Z5 _ _ _ _ (by simp),bs]
  refine bE (hK r4 z4 o4) (hC r4 o4 (by omega)) fun c r5 s5 o5 h5=> ?_
  dsimp only
  rw [Z5 _ _ _ _ (by simp),bs]
  rfl
 rw [if_neg c5,if_neg c5]
 cases t with
 | nil=>exact hg.elim
 | cons x r=>
   have hdo:yd (rd tk (x::r))=some (cvN tk (doP B (x::r))):=by
    unfold yd doP
    refine bE (hF _ (BI _) hg) (hB _ hg (by omega)) fun n r4 s4 o4 h4=> ?_
    dsimp only
    rw [Z5 _ _ _ _ (by simp),bs]
    refine bE (vi (s4.trans h) hn o4 (by decide) 16 _ _ (by simp)) (kg o4 (by decide)) fun g5 r5 s5 o5 h5=> ?_
    dsimp only
    rfl
   rw [qgy h,bs]
   by_cases c6:x.Kind=1
   ·rw [if_pos (decide_eq_true c6)]
    unfold qa9
    rw [bs]
    cases hv:qal x.Text.data.toList with
    | false=>
      rw [if_neg (by decide),if_neg (by rw [q4b,hv];simp),hdo]
    | true=>
      rw [if_pos rfl]
      have hr:Good r:=qjv hg (by rw [c6];decide)
      cases r with
      | nil=>exact hr.elim
      | cons y q=>
        rw [E_at h hn,bs]
        by_cases c7:y.Text=⟨#[61]⟩
        ·rw [if_pos (decide_eq_true c7),if_pos (by rw [q4b,hv,decide_eq_true c6];exact decide_eq_true c7)]
         unfold setP
         refine bE (qex h hn hg 11 _ [] (by simp)) (Wd hg) fun a r2 s2 o2 h2=> ?_
         dsimp only
         refine bE (vi (s2.trans h) hn o2 (by decide) 11 _ [] (by simp)) (kg o2 (by decide)) fun g3 r3 s3 o3 h3=> ?_
         dsimp only
         have z3:=s3.trans s2
         refine bE (hF r3 z3 o3) (hB r3 o3 (by omega)) fun n r4 s4 o4 h4=> ?_
         dsimp only
         have z4:=s4.trans z3
         rw [Z5 _ _ _ _ (by simp),bs]
         refine bE (vi (z4.trans h) hn o4 (by decide) 11 _ _ (by simp)) (kg o4 (by decide)) fun g5 r5 s5 o5 h5=> ?_
         dsimp only
         rfl
        rw [if_neg (by rw [decide_eq_true_eq];exact c7),if_neg (by rw [An];exact fun e=>c7 (of_decide_eq_true e.2)),hdo]
   rw [if_neg (by rw [decide_eq_true_eq];exact c6),if_neg (by rw [q4b,decide_eq_false c6];simp),hdo]
theorem q8i {α:Type} {x:Option (Except Int (α × Reader))} {y:Except Int (α × Reader)} {c:Except Int (α × Reader)→Option (Except Int (α × Reader))} (h:x=some y) (hc:∀v,c v=some v:=by exact fun v=>by cases v <;> rfl):(x >>=c)=some y:=by
 subst h;exact hc y
theorem q8j (hn:tk.length≤70000):∀(f:Nat) (c:Cat) (t:List Token),mu c t.length≤f→t <:+tk→Good t→pre c t.length→EP tk f c t
 | 0,c,t,hm,_,hg,_=>by
   have:=qt4 hg
   cases c <;> (unfold mu at hm;simp only at hm;omega)
 | f + 1, c,t,hm,h,hg,hp=>by
   have ih:=q8j hn f
   have hl:=Y4 h
   have hpos:=qt4 hg
   have hB:∀v:Int,1≤v→v≤6→Rd (S f (.bin v)):=fun v h1 h6 t hg hl=>S_ok f (.bin v) t hg ⟨hl,h1,h6⟩
   have hB1:=hB 1 (by decide) (by decide)
   have hU:Rd (S f .un):=fun t hg hl=>S_ok f .un t hg hl
   have hC:Rd (S f .blk):=fun t hg hl=>S_ok f .blk t hg hl
   have hT:Rd (S f .stmt):=fun t hg hl=>S_ok f .stmt t hg hl
   have hF:Rd (S f .func):=fun t hg hl=>S_ok f .func t hg hl
   have hK:Rd (S f .cls):=fun t hg hl=>S_ok f .cls t hg hl
   have eB:∀(v:Int) (t':List Token),1≤v→v≤6→20*t'.length+(10 - v).toNat≤f→t' <:+t→Good t'→zb (rd tk t') v=some (cvN tk (S f (.bin v) t')):=fun v t' h1 h6 hm' hs hg'=>ih (.bin v) t' hm' (hs.trans h) hg' ⟨by have:=Y4 hs;omega,h1,h6⟩
   cases c with
   | bin v=>
     obtain ⟨hl',h1,h6⟩:=hp
     unfold mu at hm;simp only at hm
     show zb (rd tk t) v=_
     rw [zb]
     simp only [nx]
     simp only [S]
     by_cases h5:5 < v
     ·rw [if_pos (decide_eq_true h5),if_pos (decide_eq_true h5)]
      exact q8i (ih .un t (by unfold mu;simp only;omega) h hg hl')
     rw [if_neg (by rw [decide_eq_true_eq];exact h5),if_neg (by rw [decide_eq_true_eq];exact h5),we (by omega) (by omega)]
     refine bE (eB (v+1) t (by omega) (by omega) (by omega) (BI _) hg) (hB (v+1) (by omega) (by omega) t hg hl') fun n r s o p=> ?_
     dsimp only
     exact ih (.binL v n) r (by unfold mu;simp only;omega) (s.trans h) o ⟨by omega,h1,by omega,p.1⟩
   | binL v m=>
     obtain ⟨hl',h1,h5,hm'⟩:=hp
     unfold mu at hm;simp only at hm
     show jz v (rd tk t) m=_
     rw [jz]
     simp only [nx]
     cases t with
     | nil=>exact hg.elim
     | cons x r=>
       rw [qgy h,bs,q7v hg,bs]
       simp only [S,binP]
       by_cases hx:Jr x.Text=v
       ·have hr:Good r:=Yv hg (by
         rintro h0
         rw [h0] at hx
         rw [show Jr ⟨#[]⟩=0 from by decide] at hx
         omega)
        rw [Ae] at hl' hm hl
        have sr:r <:+x::r:=BM x r
        rw [if_pos (decide_eq_true hx),if_pos (decide_eq_true hx),qkf h hn,bs,qu1 _ _ _ _ (by simp [Node.kids]),bs,we (by omega) (by omega)]
        refine bE (eB (v+1) r (by omega) (by omega) (by omega) sr hr) (hB (v+1) (by omega) (by omega) r hr (by omega)) fun n q s o p=> ?_
        dsimp only
        rw [qu1 _ _ _ _ (by simp [Node.kids]),bs]
        have hw:wfB (.mk 24 x.Text [x.Lead] [m,n])=true:=Z0 24 (by simp) (by simp) hg.1.2.1 (jj hg.1.1 wl) (ux hm' (ux p.1 wv))
        by_cases h3:v=3
        ·rw [if_pos (decide_eq_true h3),if_pos (decide_eq_true h3)]
         unfold wd
         rfl
        rw [if_neg (by rw [decide_eq_true_eq];exact h3),if_neg (by rw [decide_eq_true_eq];exact h3)]
        exact ih (.binL v (.mk 24 x.Text [x.Lead] [m,n])) q (by unfold mu;simp only;omega) ((s.trans sr).trans h) o ⟨by omega,h1,h5,hw⟩
       rw [if_neg (by rw [decide_eq_true_eq];exact hx),if_neg (by rw [decide_eq_true_eq];exact hx)]
       unfold wd
       rfl
   | un =>
     have hl':t.length≤70000:=hp
     unfold mu at hm;simp only at hm
     show yi (rd tk t)=_
     rw [yi]
     simp only [nx]
     cases t with
     | nil=>exact hg.elim
     | cons x r=>
       have sr:r <:+x::r:=BM x r
       simp only [S,unP]
       rw [Ae] at hl' hm hl
       rw [E_is h hg (by decide),bs]
       by_cases c1:isT ⟨#[45]⟩ (x::r)=true
       ·have hr:Good r:=Yv hg (by rw [of_decide_eq_true c1];decide)
        rw [if_pos c1,if_pos c1,qkf h hn,bs]
        refine bE (ih .un r (by unfold mu;simp only;omega) (sr.trans h) hr (by show r.length≤70000;omega)) (hU r hr (by omega)) fun n q s o p=> ?_
        dsimp only
        rw [qu1 _ _ _ _ (by simp [Node.kids]),bs]
        rfl
       rw [if_neg c1,if_neg c1,E_is h hg (by decide),bs]
       by_cases c2:isT ⟨#[33]⟩ (x::r)=true
       ·have hr:Good r:=Yv hg (by rw [of_decide_eq_true c2];decide)
        rw [if_pos c2,if_pos c2,qkf h hn,bs]
        refine bE (ih .un r (by unfold mu;simp only;omega) (sr.trans h) hr (by show r.length≤70000;omega)) (hU r hr (by omega)) fun n q s o p=> ?_
        dsimp only
        rw [qu1 _ _ _ _ (by simp [Node.kids]),bs]
        rfl
       rw [if_neg c2,if_neg c2]
       refine bE (ih .prim (x::r) (by unfold mu;simp only [Ae];omega) h hg (by show (x::r).length≤70000;simp only [Ae];omega)) (S_ok f .prim (x::r) hg (by show (x::r).length≤70000;simp only [Ae];omega)) fun n q s o p=> ?_
       dsimp only
       have p2:=p.2
       unfold uc at p2;simp only [Ae] at p2
       exact ih (.unL n) q (by unfold mu;simp only;omega) (s.trans h) o ⟨by omega,p.1⟩
   | unL m=>
     obtain ⟨hl',hm'⟩:=hp
     unfold mu at hm;simp only at hm
     show js (rd tk t) m=_
     rw [js]
     simp only [nx]
     simp only [S]
     rw [E_is h hg (by decide),bs]
     by_cases c1:isT ⟨#[46]⟩ t=true
     ·rw [if_pos c1,if_pos c1]
      simp only [qzm]
      refine bE (vi h hn hg (by decide) 21 _ _ (by simp)) (kg hg (by decide)) fun g1 r1 s1 o1 h1=> ?_
      dsimp only
      refine bE (qex (s1.trans h) hn o1 21 _ _ (by simp)) (Wd o1) fun a r2 s2 o2 h2=> ?_
      dsimp only
      have z2:=s2.trans s1
      have hpr:pre (.args 21 a.1 [g1,a.2] [m]) r2.length:=⟨by omega,h2.2.1,by simp only [Ad,Ae,Ar];omega,by simp only [Ae,Ar];omega,jj h1.2 (jj h2.2.2 wl),ux hm' wv⟩
      refine bE (ih (.args 21 a.1 [g1,a.2] [m]) r2 (by unfold mu;simp only;omega) (z2.trans h) o2 hpr) (t:=r2) (P:=fun n r=>(wfB n=true∧r.length+1≤r2.length)∧n= .mk 21 a.1 n.gaps n.kids) ?_ fun n r3 s3 o3 p=> ?_
      ·have q:=S_ok f (.args 21 a.1 [g1,a.2] [m]) r2 o2 hpr
       cases e:S f (.args 21 a.1 [g1,a.2] [m]) r2 with
       | error u=>rw [e] at q;exact q
       | ok y=>rw [e] at q;exact ⟨q.1,q.2.1,q.2.2,(qun f r2).1 _ _ _ _ _ _ e⟩
      show js (rd tk r3) (Node.mk 21 a.1 n.gaps n.kids)=_
      rw [qz9 p.2]
      exact ih (.unL n) r3 (by unfold mu;simp only;omega) ((s3.trans z2).trans h) o3 ⟨by omega,p.1.1⟩
     rw [if_neg c1,if_neg c1]
   | prim =>
     have hl':t.length≤70000:=hp
     unfold mu at hm;simp only at hm
     show kq (rd tk t)=_
     rw [kq]
     simp only [nx]
     cases t with
     | nil=>exact hg.elim
     | cons x r=>
       have sr:r <:+x::r:=BM x r
       simp only [S,qv6]
       rw [Ae] at hl' hm hl
       have hl2:(x::r).length≤70000:=by rw [Ae];omega
       rw [qgy h,bs]
       by_cases c0:x.Kind=2
       ·rw [if_pos (decide_eq_true c0),if_pos (decide_eq_true c0),qkf h hn,bs];rfl
       rw [if_neg (by rw [decide_eq_true_eq];exact c0),if_neg (by rw [decide_eq_true_eq];exact c0),E_is h hg (by decide),bs]
       by_cases c1:isT ⟨#[116,114,117,101]⟩ (x::r)=true
       ·rw [if_pos c1,if_pos c1,qkf h hn,bs];rfl
       rw [if_neg c1,if_neg c1,E_is h hg (by decide),bs]
       by_cases c2:isT ⟨#[102,97,108,115,101]⟩ (x::r)=true
       ·rw [if_pos c2,if_pos c2,qkf h hn,bs];rfl
       rw [if_neg c2,if_neg c2,E_is h hg (by decide),bs]
       by_cases c3:isT ⟨#[115,101,108,102]⟩ (x::r)=true
       ·rw [if_pos c3,if_pos c3,qkf h hn,bs];rfl
       rw [if_neg c3,if_neg c3,E_is h hg (by decide),bs]
       by_cases c4:isT ⟨#[110,101,119]⟩ (x::r)=true
       ·rw [if_pos c4,if_pos c4]
        unfold newP
        refine bE (vi h hn hg (by decide) 22 _ _ (by simp)) (kg hg (by decide)) fun g1 r1 s1 o1 h1=> ?_
        dsimp only
        refine bE (qex (s1.trans h) hn o1 22 _ _ (by simp)) (Wd o1) fun a r2 s2 o2 h2=> ?_
        dsimp only
        have z2:=s2.trans s1
        refine bE (vi (z2.trans h) hn o2 (by decide) 22 _ _ (by simp)) (kg o2 (by decide)) fun g3 r3 s3 o3 h3=> ?_
        dsimp only
        refine bE (vi ((s3.trans z2).trans h) hn o3 (by decide) 22 _ _ (by simp)) (kg o3 (by decide)) fun g4 r4 s4 o4 h4=> ?_
        dsimp only
        rfl
       rw [if_neg c4,if_neg c4,E_is h hg (by decide),bs]
       by_cases c5:isT ⟨#[40]⟩ (x::r)=true
       ·rw [if_pos c5,if_pos c5]
        unfold parP
        refine bE (vi h hn hg (by decide) 26 _ _ (by simp)) (kg hg (by decide)) fun g1 r1 s1 o1 h1=> ?_
        dsimp only
        rw [Ae] at h1
        refine bE (eB 1 r1 (by decide) (by decide) (by have:=h1.1;omega) s1 o1) (hB1 r1 o1 (by omega)) fun n r4 s4 o4 h4=> ?_
        dsimp only
        have z4:=s4.trans s1
        rw [Z5 _ _ _ _ (by simp),bs]
        refine bE (vi (z4.trans h) hn o4 (by decide) 26 _ _ (by simp)) (kg o4 (by decide)) fun g5 r5 s5 o5 h5=> ?_
        dsimp only
        rfl
       rw [if_neg c5,if_neg c5]
       unfold qw8
       refine bE (qex h hn hg 19 _ _ (by simp)) (Wd hg) fun a r2 s2 o2 h2=> ?_
       dsimp only
       rw [Ae] at h2
       rw [E_is (s2.trans h) o2 (by decide),bs]
       by_cases c6:isT ⟨#[40]⟩ r2=true
       ·rw [if_pos c6,if_pos c6]
        have hpr:pre (.args 20 a.1 [a.2] []) r2.length:=⟨by omega,h2.2.1,by simp only [Ae,Ar];omega,by simp only [Ar];omega,jj h2.2.2 wl,wv⟩
        have e1:=ih (.args 20 a.1 [a.2] []) r2 (by unfold mu;simp only;omega) (s2.trans h) o2 hpr
        unfold EP at e1
        show (jl (rd tk r2) 20 a.1 [a.2] [] >>=_)=_
        rw [e1]
        cases e:S f (.args 20 a.1 [a.2] []) r2 with
        | error u=>rfl
        | ok y=>
          show km (rd tk y.2) 20 a.1 y.1.gaps y.1.kids=_
          unfold km
          rw [qz9 ((qun f r2).1 _ _ _ _ _ _ e)]
       rw [if_neg c6,if_neg c6]
       rfl
   | args k x g ks=>
     obtain ⟨hl',hx,hr⟩:=hp
     unfold mu at hm;simp only at hm
     show jl (rd tk t) k x g ks=_
     rw [jl]
     simp only [nx]
     simp only [S]
     refine bE (vi h hn hg (by decide) k _ _ (by have:=hr.1;omega)) (kg hg (by decide)) fun g1 r1 s1 o1 h1=> ?_
     dsimp only
     exact ih (.argL true k x (g++ [g1]) ks) r1 (by unfold mu;simp only;omega) (s1.trans h) o1 ⟨by omega,hx,by rw [Ad,Ai];have:=hr.1;omega,by have:=hr.2.1;omega,qbx hr.2.2.1 h1.2,hr.2.2.2⟩
   | argL b k x g ks=>
     obtain ⟨hl',hx,hr⟩:=hp
     have q1:=hr.1
     have q2:=hr.2.1
     unfold mu at hm;simp only at hm
     show ji b (rd tk t) k x g ks=_
     rw [ji]
     simp only [nx]
     simp only [S,argP]
     rw [E_is h hg (by decide),bs]
     have hend:∀(g:List BA) (r:List Token),r <:+t→Good r→20*r.length+12≤f+1→g.length+r.length≤200000→ks.length+r.length≤200000→Gs g→ye (rd tk r) k x g ks=some (cvA tk (bR (S f (.bin 1) r) fun n l=>S f (.argL false k x g (ks++ [n])) l)):=fun g r s o hm' hg' hk' hgs=>by
      have:=Y4 s
      rw [ye]
      simp only [nx]
      refine bE (eB 1 r (by decide) (by decide) (by omega) s o) (hB1 r o (by omega)) fun n r4 s4 o4 h4=> ?_
      dsimp only
      rw [Z5 _ _ _ _ (by omega),bs]
      exact ih (.argL false k x g (ks++ [n])) r4 (by unfold mu;simp only;omega) ((s4.trans s).trans h) o4 ⟨by omega,hx,by omega,by rw [Ad,Ai];omega,hgs,Wu hr.2.2.2 h4.1⟩
     cases c1:isT ⟨#[41]⟩ t with
     | true=>
       simp only [Ac,AA,if_false,if_true]
       refine bE (vi h hn hg (by decide) k _ _ (by omega)) (kg hg (by decide)) fun g1 r1 s1 o1 h1=> ?_
       rfl
     | false=>
       simp only [Aa,AA,if_false,if_true]
       cases b with
       | true=>
         simp only [Ac,AA,if_false,if_true]
         exact hend g t (BI _) hg (by omega) q1 q2 hr.2.2.1
       | false=>
         simp only [Aa,AA,if_false,if_true]
         refine bE (vi h hn hg (by decide) k _ _ (by omega)) (kg hg (by decide)) fun g1 r1 s1 o1 h1=> ?_
         dsimp only
         exact hend (g++ [g1]) r1 s1 o1 (by omega) (by rw [Ad,Ai];omega) (by omega) (qbx hr.2.2.1 h1.2)
   | stmt=>
     have hl':t.length≤70000:=hp
     unfold mu at hm;simp only at hm
     show ym (rd tk t)=_
     simp only [S]
     exact zac h hn hg hB1 hC (fun t' s o=>eB 1 t' (by decide) (by decide) (by have:=Y4 s;omega) s o) (fun t' s o=>ih .blk t' (by unfold mu;simp only;have:=Y4 s;omega) (s.trans h) o (by show t'.length≤70000;have:=Y4 s;omega))
   | blk=>
     have hl':t.length≤70000:=hp
     unfold mu at hm;simp only at hm
     show jg (rd tk t)=_
     rw [jg]
     simp only [nx]
     simp only [S]
     refine bE (vi h hn hg (by decide) 6 _ _ (by simp)) (kg hg (by decide)) fun g1 r1 s1 o1 h1=> ?_
     dsimp only
     exact ih (.blkL [g1] []) r1 (by unfold mu;simp only;omega) (s1.trans h) o1 ⟨by omega,by simp only [Ae,Ar];omega,by simp only [Ar];omega,jj h1.2 wl,wv⟩
   | blkL g ks=>
     obtain ⟨hl',hr⟩:=hp
     have q1:=hr.1
     have q2:=hr.2.1
     unfold mu at hm;simp only at hm
     show j5 (rd tk t) 6 ⟨#[]⟩ g ks=_
     rw [j5]
     simp only [nx]
     simp only [S,blkP]
     rw [E_is h hg (by decide),bs]
     cases c1:isT ⟨#[125]⟩ t with
     | true=>
       simp only [Ac,AA,if_false,if_true]
       refine bE (vi h hn hg (by decide) 6 _ _ (by omega)) (kg hg (by decide)) fun g1 r1 s1 o1 h1=> ?_
       rfl
     | false=>
       simp only [Aa,AA,if_false,if_true]
       refine bE (ih .stmt t (by unfold mu;simp only;omega) h hg hl') (hT t hg hl') fun n r4 s4 o4 h4=> ?_
       dsimp only
       rw [Z5 _ _ _ _ (by omega),bs]
       exact ih (.blkL g (ks++ [n])) r4 (by unfold mu;simp only;omega) (s4.trans h) o4 ⟨by omega,by omega,by rw [Ad,Ai];omega,hr.2.2.1,Wu hr.2.2.2 h4.1⟩
   | parL g ks=>
     obtain ⟨hl',hr⟩:=hp
     have q1:=hr.1
     have q2:=hr.2.1
     unfold mu at hm;simp only at hm
     intro C a ga hC1 hC2
     rw [j4]
     simp only [nx]
     simp only [S,qzu]
     rw [E_is h hg (by decide),bs]
     have hend:∀(g:List BA) (r:List Token),r <:+t→Good r→20*r.length+1≤f+1→g.length+r.length≤200000→ks.length+r.length≤200000→Gs g→yn (rd tk r) 2 a ga [] 3 ⟨#[]⟩ g ks=some (cvN tk (bR (bR (qdn r) fun n l=>S f (.parL g (ks++ [n])) l) (funK C a ga))):=fun g r s o hm' hg' hk' hgs=>by
      have:=Y4 s
      rw [yn]
      simp only [nx]
      rw [show (bR (bR (qdn r) fun n l=>S f (.parL g (ks++ [n])) l) (funK C a ga))=bR (tkN r) fun x1 t1=>bR (tkN t1) fun b t2=>bR (S f (.parL g (ks++ [.mk 4 x1.1 [x1.2] [.mk 5 b.1 [b.2] []]])) t2) (funK C a ga) from by simp only [qdn,q5q,bR_o]]
      refine bE (qex (s.trans h) hn o 4 _ _ (by simp)) (Wd o) fun x1 r2 s2 o2 h2=> ?_
      dsimp only
      have z2:=s2.trans s
      refine bE (q55 (z2.trans h) hn o2) (Wd o2) fun b r3 s3 o3 h3=> ?_
      dsimp only
      have z3:=s3.trans z2
      rw [Z5 _ _ _ _ (by simp),bs,Z5 _ _ _ _ (by omega),bs]
      refine ih (.parL g (ks++ [.mk 4 x1.1 [x1.2] [.mk 5 b.1 [b.2] []]])) r3 (by unfold mu;simp only;omega) (z3.trans h) o3 ⟨by omega,by omega,by rw [Ad,Ai];omega,hgs,Wu hr.2.2.2 (Z0 4 (by simp) (by simp) h2.2.1 (jj h2.2.2 wl) (ux (Z0 5 (by simp) (by simp) h3.2.1 (jj h3.2.2 wl) wv) wv))⟩ C a ga (fun t' s' o'=>hC1 t' (s'.trans z3) o') hC2
     cases c1:isT ⟨#[41]⟩ t with
     | true=>
       simp only [Ac,AA,if_false,if_true]
       rw [show (bR (bR (tkT ⟨#[41]⟩ t) fun h l=> .ok (.mk 3 ⟨#[]⟩ (g++ [h]) ks,l)) (funK C a ga))=bR (tkT ⟨#[41]⟩ t) fun h l=>funK C a ga (.mk 3 ⟨#[]⟩ (g++ [h]) ks) l from by cases tkT ⟨#[41]⟩ t <;> rfl]
       refine bE (vi h hn hg (by decide) 3 _ _ (by omega)) (kg hg (by decide)) fun g1 r1 s1 o1 h1=> ?_
       dsimp only
       rw [Z5 _ _ _ _ (by simp),bs]
       unfold funK
       refine bE (q55 (s1.trans h) hn o1) (Wd o1) fun b r3 s3 o3 h3=> ?_
       dsimp only
       have z3:=s3.trans s1
       rw [Z5 _ _ _ _ (by simp),bs]
       refine bE (hC1 r3 z3 o3) (hC2 r3 o3 (by omega)) fun n r4 s4 o4 h4=> ?_
       dsimp only
       rw [Z5 _ _ _ _ (by simp),bs]
       rfl
     | false=>
       simp only [Aa,AA,if_false,if_true]
       by_cases c2:0 < ks.length
       ·rw [if_pos (decide_eq_true (by omega)),if_pos (decide_eq_true c2)]
        rw [show (bR (bR (tkT ⟨#[44]⟩ t) fun h l=>bR (qdn l) fun n l=>S f (.parL (g++ [h]) (ks++ [n])) l) (funK C a ga))=bR (tkT ⟨#[44]⟩ t) fun h l=>bR (bR (qdn l) fun n l=>S f (.parL (g++ [h]) (ks++ [n])) l) (funK C a ga) from by cases tkT ⟨#[44]⟩ t <;> rfl]
        refine bE (vi h hn hg (by decide) 3 _ _ (by omega)) (kg hg (by decide)) fun g1 r1 s1 o1 h1=> ?_
        dsimp only
        exact hend (g++ [g1]) r1 s1 o1 (by omega) (by rw [Ad,Ai];omega) (by omega) (qbx hr.2.2.1 h1.2)
       rw [if_neg (by rw [decide_eq_true_eq];omega),if_neg (by rw [decide_eq_true_eq];exact c2)]
       exact hend g t (BI _) hg (by omega) q1 q2 hr.2.2.1
   | func=>
     have hl':t.length≤70000:=hp
     unfold mu at hm;simp only at hm
     show y8 (rd tk t)=_
     unfold y8;simp only [S,funP]
     refine bE (vi h hn hg (by decide) 2 _ _ (by simp)) (kg hg (by decide)) fun g1 r1 s1 o1 h1=> ?_
     dsimp only
     refine bE (qex (s1.trans h) hn o1 2 _ _ (by simp)) (Wd o1) fun a r2 s2 o2 h2=> ?_
     dsimp only
     have z2:=s2.trans s1
     refine bE (vi (z2.trans h) hn o2 (by decide) 3 _ _ (by simp)) (kg o2 (by decide)) fun g3 r3 s3 o3 h3=> ?_
     dsimp only
     have z3:=s3.trans z2
     exact ih (.parL [g3] []) r3 (by unfold mu;simp only;omega) (z3.trans h) o3 ⟨by omega,by simp only [Ae,Ar];omega,by simp only [Ar];omega,jj h3.2 wl,wv⟩ (S f .blk) a.1 [g1,a.2] (fun t' s o=>ih .blk t' (by unfold mu;simp only;have:=Y4 s;omega) ((s.trans z3).trans h) o (by show t'.length≤70000;have:=Y4 s;omega)) hC
   | clsL x g ks=>
     obtain ⟨hl',hx,hr⟩:=hp
     have q1:=hr.1
     have q2:=hr.2.1
     unfold mu at hm;simp only at hm
     show yt (rd tk t) 7 x g ks=_
     rw [yt]
     simp only [nx]
     simp only [S,q0p]
     rw [E_is h hg (by decide),bs]
     by_cases c1:isT ⟨#[102,110]⟩ t=true
     ·rw [if_pos c1,if_pos c1]
      refine bE (ih .func t (by unfold mu;simp only;omega) h hg hl') (hF t hg hl') fun n r4 s4 o4 h4=> ?_
      dsimp only
      rw [Z5 _ _ _ _ (by omega),bs]
      exact ih (.clsL x g (ks++ [n])) r4 (by unfold mu;simp only;omega) (s4.trans h) o4 ⟨by omega,hx,by omega,by rw [Ad,Ai];omega,hr.2.2.1,Wu hr.2.2.2 h4.1⟩
     rw [if_neg c1,if_neg c1]
     refine bE (vi h hn hg (by decide) 7 _ _ (by omega)) (kg hg (by decide)) fun g1 r1 s1 o1 h1=> ?_
     rfl
   | cls=>
     have hl':t.length≤70000:=hp
     unfold mu at hm;simp only at hm
     show uh (rd tk t)=_
     unfold uh;simp only [S,clsP]
     refine bE (vi h hn hg (by decide) 7 _ _ (by simp)) (kg hg (by decide)) fun g1 r1 s1 o1 h1=> ?_
     dsimp only
     refine bE (qex (s1.trans h) hn o1 7 _ _ (by simp)) (Wd o1) fun a r2 s2 o2 h2=> ?_
     dsimp only
     have z2:=s2.trans s1
     rw [E_is (z2.trans h) o2 (by decide),bs]
     have hend:∀(b:Node) (r:List Token),r <:+t→Good r→r.length+2≤t.length→wfB b=true→wc (rd tk r) 7 a.1 ([]++ [g1]++ [a.2]) [] b=some (cvN tk (bR (tkT ⟨#[123]⟩ r) fun g3 t=>S f (.clsL a.1 [g1,a.2,g3] [b]) t)):=fun b r s o hlr hb=>by
      unfold wc
      rw [Z5 _ _ _ _ (by simp),bs]
      refine bE (vi (s.trans h) hn o (by decide) 7 _ _ (by simp)) (kg o (by decide)) fun g3 r3 s3 o3 h3=> ?_
      dsimp only
      exact ih (.clsL a.1 [g1,a.2,g3] [b]) r3 (by unfold mu;simp only;omega) ((s3.trans s).trans h) o3 ⟨by omega,h2.2.1,by simp only [Ae,Ar];omega,by simp only [Ae,Ar];omega,jj h1.2 (jj h2.2.2 (jj h3.2 wl)),ux hb wv⟩
     unfold qs2
     by_cases c1:isT ⟨#[58]⟩ r2=true
     ·rw [if_pos c1,if_pos c1]
      rw [show (bR (bR (tkT ⟨#[58]⟩ r2) fun g1 t=>bR (tkN t) fun a t=> .ok (Node.mk 8 a.1 [g1,a.2] [],t)) fun b t=>bR (tkT ⟨#[123]⟩ t) fun g3 t=>S f (.clsL a.1 [g1,a.2,g3] [b]) t)=bR (tkT ⟨#[58]⟩ r2) fun y1 t=>bR (tkN t) fun y2 t=>bR (tkT ⟨#[123]⟩ t) fun g3 t=>S f (.clsL a.1 [g1,a.2,g3] [.mk 8 y2.1 [y1,y2.2] []]) t from by simp only [q5q,bR_o]]
      refine bE (vi (z2.trans h) hn o2 (by decide) 8 _ _ (by simp)) (kg o2 (by decide)) fun y1 r4 s4 o4 h4=> ?_
      dsimp only
      have z4:=s4.trans z2
      refine bE (qex (z4.trans h) hn o4 8 _ _ (by simp)) (Wd o4) fun y2 r5 s5 o5 h5=> ?_
      dsimp only
      exact hend _ r5 (s5.trans z4) o5 (by omega) (Z0 8 (by simp) (by simp) h5.2.1 (jj h4.2 (jj h5.2.2 wl)) wv)
     rw [if_neg c1,if_neg c1]
     exact hend _ r2 z2 o2 (by omega) (Z0 8 (by simp) (by simp) qci wl wv)
   | file ks=>
     obtain ⟨hl',hr⟩:=hp
     have q2:=hr.2.1
     unfold mu at hm;simp only at hm
     show zw (rd tk t) 1 ⟨#[]⟩ [] ks=_
     rw [zw]
     simp only [nx]
     cases t with
     | nil=>exact hg.elim
     | cons x r=>
       have on:∀{G:List Token→Rs Node} {y:Option (Except Int (Node × Reader))},y=some (cvN tk (G (x::r)))→Rd G→∀{K:Reader→LN→Option (Except Int (Node × Reader))},(∀q l,K q l=zw q 1 ⟨#[]⟩ [] l)→∀{c:Except Int (Node × Reader)→Option (Except Int (Node × Reader))},(∀v,c (.ok v)=zu 1 ⟨#[]⟩ [] ks v.1 >>=fun z=>K v.2 z)→(∀e,c (.error e)=some (.error e))→
        (y >>=c)=some (cvN tk (bR (G (x::r)) fun n l=>S f (.file (ks++ [n])) l)):=fun {G y} hy hG K hK c hc1 hc2=>by
        refine bE hy (hG _ hg hl') (fun n r4 s4 o4 h4=> ?_) hc2
        rw [hc1,Z5 _ _ _ _ (by omega),bs,hK]
        exact ih (.file (ks++ [n])) r4 (by unfold mu;simp only;omega) (s4.trans h) o4 ⟨by omega,by simp only [Ar];omega,by rw [Ad,Ai];omega,wl,Wu hr.2.2.2 h4.1⟩
       have t11:∀q l,yr q 1 ⟨#[]⟩ [] l=zw q 1 ⟨#[]⟩ [] l:=fun q l=>by rw [yr];rfl
       have t17:∀q l,yq q 1 ⟨#[]⟩ [] l=zw q 1 ⟨#[]⟩ [] l:=fun q l=>by rw [yq];exact t11 q l
       have t23:∀q l,y9 q 1 ⟨#[]⟩ [] l=zw q 1 ⟨#[]⟩ [] l:=fun q l=>by rw [y9];exact t17 q l
       simp only [S,q0k]
       rw [qgy h,bs]
       by_cases c0:x.Kind=4
       ·rw [decide_eq_true c0]
        simp only [Ac,AA,if_false,if_true]
        rw [bs,qck (by simp) (by decide),bs]
        rfl
       rw [decide_eq_false c0]
       simp only [Aa,AA,if_false,if_true]
       rw [E_is h hg (by decide),bs]
       by_cases c1:isT ⟨#[102,110]⟩ (x::r)=true
       ·rw [if_pos c1,if_pos c1]
        exact on (ih .func (x::r) (by unfold mu;simp only;omega) h hg hl') hF t11 (fun _=>rfl) (fun _=>rfl)
       rw [if_neg c1,if_neg c1,E_is h hg (by decide),bs]
       by_cases c2:isT ⟨#[99,108,97,115,115]⟩ (x::r)=true
       ·rw [if_pos c2,if_pos c2]
        exact on (ih .cls (x::r) (by unfold mu;simp only;omega) h hg hl') hK t17 (fun _=>rfl) (fun _=>rfl)
       rw [if_neg c2,if_neg c2,E_is h hg (by decide),bs]
       by_cases c3:isT ⟨#[99,111,110,115,116]⟩ (x::r)=true
       ·rw [if_pos c3,if_pos c3]
        refine on (G:=qep (S f (.bin 1)) 9 ⟨#[99,111,110,115,116]⟩) (q1b h hn hg 9 (by decide) hB1 ?_) (qn8 hB1 9 (by decide)) t23 (fun _=>rfl) (fun _=>rfl)
        intro t' s o
        exact ih (.bin 1) t' (by unfold mu;simp only;have:=Y4 s;omega) (s.trans h) o ⟨by have:=Y4 s;omega,by decide,by decide⟩
       rw [if_neg c3,if_neg c3,qu0 h]
       rfl
end
theorem q65 {w:BA} {x:Token} {r:List Token} (h:isT w (x::r)=true) (hg:Good (x::r)) (hw:w≠⟨#[]⟩):Good r:=Yv hg (by rw [of_decide_eq_true h];exact hw)
end Ps
end Go.Proofs.YtpnkemogepoioaaGreatDoorW.Ex.Gr
