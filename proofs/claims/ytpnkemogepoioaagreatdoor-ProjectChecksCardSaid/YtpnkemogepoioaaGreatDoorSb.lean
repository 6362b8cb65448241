/- Names and integers, in the program and in the references. No conditions beside those in each theorem. -/
import Derived.Test.YtpnkemogepoioaaGreatDoorSa
import Derived.WalkLawsBesides
import Derived.WalkSpells
import Derived.Lib.ConvBytes
import Derived.Laws.BytesArg
import Derived.Lib.Hide
namespace Go.Proofs.YtpnkemogepoioaaGreatDoorW.Ex.Gr
open Go Go.Proofs.YtpnkemogepoioaaGreatDoorW.Ex
set_option linter.all false
set_option maxRecDepth 100000
open Go.Proofs.YtpnkemogepoioaaGreatDoorW.Plain Go.RowKit
variable {G:Nat→List AV}
namespace XValid
theorem V.len_bytes (s:ByteArray):s.data.toList.length=s.size:=Bc
theorem V.ret_bool {a b:Bool} (h:a=b):Ending.returned (.bool a)= .returned (.bool b):=by rw [h]
theorem V.letter_same (c:Int) (w:World):Calls Tryz.prog 87 #[.int .i32 c] w fun e w'=>e= .returned (.bool (wc c))∧w=w':=by
 go_enter Tryz.func87,Tryz.ntmps87
 go_wp2
 all_goals
  go_ret
  exact ⟨V.ret_bool (by rw [BP];simp [wc];omega),rfl⟩
theorem V.digit_same (c:Int) (w:World):Calls Tryz.prog 88 #[.int .i32 c] w fun e w'=>e= .returned (.bool (ye c))∧w=w':=by
 go_enter Tryz.func88,Tryz.ntmps88
 go_wp2
 all_goals
  go_ret
  exact ⟨V.ret_bool (by rw [BP];simp [ye];omega),rfl⟩
theorem V.keyword_same (s:ByteArray) (w:World):Calls Tryz.prog 173 #[.string s] w fun e w'=>e= .returned (.bool (Kq s.data.toList))∧w=w':=by
 rw [show s.data.toList=s.toList from (ByteArray.toList_eq s).symm]
 go_enter Tryz.func173,Tryz.ntmps173
 go_wp2
 all_goals
  go_ret
  exact ⟨V.ret_bool (by simp_all [Kq,qr2]),rfl⟩
theorem V.letterB_high (c:Int) (h:128≤c):wc c=false:=by simp [wc];omega
theorem V.digitB_high (c:Int) (h:128≤c):ye c=false:=by simp [ye];omega
theorem V.namedFrom_step (s:ByteArray) (k:Nat) (h:k < s.size):Qr k (s.data.toList.drop k)=((wc (s[k]'h).toNat || (k !=0 && ye (s[k]'h).toNat)) && Qr (k+1) (s.data.toList.drop (k+1))):=by
 have hl:k < s.data.toList.length:=by rw [V.len_bytes];exact h
 rw [Bl hl]
 rfl
theorem V.namedFrom_end (s:ByteArray) (k:Nat) (h:¬k < s.size):Qr k (s.data.toList.drop k)=true:=by
 rw [AD (by rw [V.len_bytes];omega)]
 rfl
set_option maxHeartbeats 1000000 in
set_option maxRecDepth 100000 in
theorem V.valid_ok (s:ByteArray) (w:World) (h0:0 < s.size) (h1:s.size≤32) (h2:Kq s.data.toList=false):
 Calls Tryz.prog 143 #[.string s] w fun e w'=>e= .returned (.bool (Qr 0 s.data.toList))∧Below w.heap.size w w':=by
 have he : s.toList.isEmpty=false:=by
  rw [ByteArray.toList_eq]
  cases hl:s.data.toList with
  | nil => have:=V.len_bytes s
           rw [hl] at this
           simp at this
           omega
  | cons _ _=>rfl
 have he2:s.toList≠ []:=by
  intro h
  rw [h] at he
  cases he
 have H2:=Go.Lib.hid h2
 clear h2
 go_enter Tryz.func143,Tryz.ntmps143
 go_wp2_with (go_at_call 173;refine (V.keyword_same _ _).mono ?_;rintro e w' ⟨rfl,rfl⟩;rw [H2.out])
 go_loopw [] (fun w'=>∃k:Nat,k≤s.size∧w'=w.iter s k∧Qr 0 s.data.toList=Qr k (s.data.toList.drop k)) (fun w'=>s.size - w'.iterPos w.heap.size)
 case atStart=>exact ⟨0,Az _,rfl,rfl⟩
 case round=>
  obtain ⟨k,hk,rfl,hn⟩:=hrel
  have Hn:=Go.Lib.hid hn
  clear hn
  by_cases hlt:k < s.size
  ·by_cases ha:(s[k]'hlt).toNat < 128
   ·have hnx:∀ty,(Instr.next (.pointer (some ⟨w.heap.size,0,none⟩)) true ty).run Tryz.prog (w.iter s k)=_:=fun ty=>run_next_ascii w s k ty hlt ha
    have Hs:=Go.Lib.hid (V.namedFrom_step s k hlt)
    by_cases hL:wc ((s[k]'hlt).toNat:Int)=true
    ·go_wp2_with (go_at_call 87;refine (V.letter_same _ _).mono ?_;rintro e w' ⟨rfl,rfl⟩;rw [hL])
     go_roundw
     case rel=>exact ⟨k+1,by omega,rfl,by rw [Hn.out,Hs.out,hL];simp⟩
     case measure=>simp;omega
    have hL':wc ((s[k]'hlt).toNat:Int)=false:=by simpa using hL
    clear hL
    by_cases hz:k=0
    ·subst hz
     go_wp2_with (go_at_call 87;refine (V.letter_same _ _).mono ?_;rintro e w' ⟨rfl,rfl⟩;rw [hL'])
     go_ret
     exact ⟨V.ret_bool (by rw [Hn.out,Hs.out,hL'];rfl),(Below.refl _ _).alloc (Ak _) _⟩
    have hz':((k:Int)==0)=false:=by rw [beq_eq_false_iff_ne];omega
    have hz2:(k !=0)=true:=by rw [bne_iff_ne];exact hz
    have Hz2:=Go.Lib.hid hz2
    clear hz2
    by_cases hD:ye ((s[k]'hlt).toNat:Int)=true
    ·go_wp2_with (first | (go_at_call 87;refine (V.letter_same _ _).mono ?_;rintro e w' ⟨rfl,rfl⟩;rw [hL']) | (go_at_call 88;refine (V.digit_same _ _).mono ?_;rintro e w' ⟨rfl,rfl⟩;rw [hD]))
     go_roundw
     case rel=>exact ⟨k+1,by omega,rfl,by rw [Hn.out,Hs.out,hL',hD,Hz2.out];simp⟩
     case measure=>simp;omega
    have hD':ye ((s[k]'hlt).toNat:Int)=false:=by simpa using hD
    clear hD
    go_wp2_with (first | (go_at_call 87;refine (V.letter_same _ _).mono ?_;rintro e w' ⟨rfl,rfl⟩;rw [hL']) | (go_at_call 88;refine (V.digit_same _ _).mono ?_;rintro e w' ⟨rfl,rfl⟩;rw [hD']))
    go_ret
    exact ⟨V.ret_bool (by rw [Hn.out,Hs.out,hL',hD',Hz2.out];rfl),(Below.refl _ _).alloc (Ak _) _⟩
   have hnx:∀ty,(Instr.next (.pointer (some ⟨w.heap.size,0,none⟩)) true ty).run Tryz.prog (w.iter s k)=_:=fun ty=>run_next_any w s k ty hlt
   have Hs:=Go.Lib.hid (V.namedFrom_step s k hlt)
   have hr:=(decode_high s k hlt (by omega)).1
   have h1:wc ((s[k]'hlt).toNat:Int)=false:=V.letterB_high _ (by omega)
   have h2:ye ((s[k]'hlt).toNat:Int)=false:=V.digitB_high _ (by omega)
   have H1:=Go.Lib.hid h1
   have H2:=Go.Lib.hid h2
   clear h1 h2
   have Hf:RowKit.Hid (Qr 0 s.data.toList=false):=by
    have e:=Hn.out
    rw [Hs.out,H1.out,H2.out] at e
    exact Go.Lib.hid (by simpa using e)
   by_cases hz:k=0
   ·subst hz
    go_wp2_with (go_at_call 87;refine (V.letter_same _ _).mono ?_;rintro e w' ⟨rfl,rfl⟩;rw [V.letterB_high _ (by omega)])
    go_ret
    exact ⟨V.ret_bool (by rw [Hf.out]),(Below.refl _ _).alloc (Ak _) _⟩
   have hz':((k:Int)==0)=false:=by rw [beq_eq_false_iff_ne];omega
   go_wp2_with (first | (go_at_call 87;refine (V.letter_same _ _).mono ?_;rintro e w' ⟨rfl,rfl⟩;rw [V.letterB_high _ (by omega)]) | (go_at_call 88;refine (V.digit_same _ _).mono ?_;rintro e w' ⟨rfl,rfl⟩;rw [V.digitB_high _ (by omega)]))
   go_ret
   exact ⟨V.ret_bool (by rw [Hf.out]),(Below.refl _ _).alloc (Ak _) _⟩
  have hnx:∀ty,(Instr.next (.pointer (some ⟨w.heap.size,0,none⟩)) true ty).run Tryz.prog (w.iter s k)=_:=fun ty=>run_next_end w s k ty hlt
  have He:=Go.Lib.hid (V.namedFrom_end s k hlt)
  go_wp2
  go_ret
  exact ⟨V.ret_bool (by rw [Hn.out,He.out]),(Below.refl _ _).alloc (Ak _) _⟩
theorem V.valid_no0 (s:ByteArray) (w:World) (h:s.size=0):Calls Tryz.prog 143 #[.string s] w fun e w'=>e= .returned (.bool false)∧w=w':=by
 have he : s.toList.isEmpty=true:=by
  rw [ByteArray.toList_eq]
  cases hl:s.data.toList with
  | nil=>rfl
  | cons _ _ => have:=V.len_bytes s
                rw [hl] at this
                simp at this
                omega
 have he2:s.toList= []:=List.isEmpty_iff.1 he
 clear h
 go_enter Tryz.func143,Tryz.ntmps143
 go_wp2
 go_ret
 exact ⟨rfl,rfl⟩
theorem V.valid_no1 (s:ByteArray) (w:World) (h:32 < s.size):Calls Tryz.prog 143 #[.string s] w fun e w'=>e= .returned (.bool false)∧w=w':=by
 have he : s.toList.isEmpty=false:=by
  rw [ByteArray.toList_eq]
  cases hl:s.data.toList with
  | nil => have:=V.len_bytes s
           rw [hl] at this
           simp at this
           omega
  | cons _ _=>rfl
 have he2:s.toList≠ []:=by
  intro h
  rw [h] at he
  cases he
 have h3:decide (32 < (s.size:Int))=true:=decide_eq_true (by omega)
 go_enter Tryz.func143,Tryz.ntmps143
 go_wp2
 go_ret
 exact ⟨rfl,rfl⟩
theorem V.valid_no2 (s:ByteArray) (w:World) (h0:0 < s.size) (h1:s.size≤32) (h2:Kq s.data.toList=true):Calls Tryz.prog 143 #[.string s] w fun e w'=>e= .returned (.bool false)∧w=w':=by
 have he : s.toList.isEmpty=false:=by
  rw [ByteArray.toList_eq]
  cases hl:s.data.toList with
  | nil => have:=V.len_bytes s
           rw [hl] at this
           simp at this
           omega
  | cons _ _=>rfl
 have he2:s.toList≠ []:=by
  intro h
  rw [h] at he
  cases he
 have H2:=Go.Lib.hid h2
 clear h2
 go_enter Tryz.func143,Tryz.ntmps143
 go_wp2_with (go_at_call 173;refine (V.keyword_same _ _).mono ?_;rintro e w' ⟨rfl,rfl⟩;rw [H2.out])
 go_ret
 exact ⟨rfl,rfl⟩
def V.f (a0:ByteArray):Option Bool:=some (Q8 a0.data.toList)
theorem V.calls (a0:ByteArray) (r:Bool) (w:World) (h:V.f a0=some r):Calls Tryz.prog 143 #[.string a0] w fun e w'=>e= .returned (.bool r)∧Below w.heap.size w w':=by
 obtain rfl:=Bf h
 clear h
 have hl:=V.len_bytes a0
 have hne:a0.data.toList.isEmpty=decide (a0.size=0):=by
  rw [←hl]
  cases a0.data.toList <;> simp
 by_cases h0:a0.size=0
 ·refine (V.valid_no0 a0 w h0).mono ?_
  rintro e w' ⟨rfl,rfl⟩
  exact ⟨V.ret_bool (by simp [Q8,hne,h0]),Below.refl _ _⟩
 by_cases h1:a0.size≤32
 ·cases h2:Kq a0.data.toList with
  | true=>
    refine (V.valid_no2 a0 w (by omega) h1 h2).mono ?_
    rintro e w' ⟨rfl,rfl⟩
    exact ⟨V.ret_bool (by simp [Q8,h2]),Below.refl _ _⟩
  | false=>
    refine (V.valid_ok a0 w (by omega) h1 h2).mono ?_
    rintro e w' ⟨rfl,hb⟩
    exact ⟨V.ret_bool (by unfold Q8;rw [hl,hne,h2];simp [h0,h1]),hb⟩
 refine (V.valid_no1 a0 w (by omega)).mono ?_
 rintro e w' ⟨rfl,rfl⟩
 exact ⟨V.ret_bool (by unfold Q8;rw [hl];simp [h1]),Below.refl _ _⟩
end XValid
theorem qru (s:ByteArray):Fn Tryz.prog G 143 [.str s] (.bool (Q8 s.data.toList)):=
 qgj (fun vs w=>by simp) fun w S β n vs hv=>by
  rw [qvr hv]
  refine (XValid.V.calls s _ w rfl).mono ?_
  rintro e w' ⟨rfl,hb⟩
  exact ⟨⟨_,rfl,fun _ _ _=> .bool _⟩,hb⟩
set_option maxHeartbeats 4000000 in
theorem q40 (c:Int):Fn Tryz.prog G 89 [.int .u8 c] (.bool (wc c)):=by
 refine zg (T:=tt) (N:=21) (rs:= [.tmp 2]) (fun vs w=>by simp) Tryz.func89 rfl rfl rfl rfl (by kernel_rfl) (zm rfl) (qy _ rfl) ?_
 repeat' first
  | refine ji env rfl ?_
  | refine qq (fun h=> ?_) (fun h=> ?_)
  | refine qw (fun h=> ?_) (fun h=> ?_)
  | refine qd (fun h=> ?_) (fun h=> ?_)
  | refine zb env rfl rfl (qz ?_)
  | refine zn env rfl (qz ?_)
 all_goals refine w8 ?_
 all_goals rw [BP]
 all_goals simp_all [wc,ye]
 all_goals omega
set_option maxHeartbeats 4000000 in
theorem q70 (c:Int):Fn Tryz.prog G 90 [.int .u8 c] (.bool (ye c)):=by
 refine zg (T:=tt) (N:=9) (rs:= [.tmp 2]) (fun vs w=>by simp) Tryz.func90 rfl rfl rfl rfl (by kernel_rfl) (zm rfl) (qy _ rfl) ?_
 repeat' first
  | refine ji env rfl ?_
  | refine qq (fun h=> ?_) (fun h=> ?_)
  | refine qw (fun h=> ?_) (fun h=> ?_)
  | refine qd (fun h=> ?_) (fun h=> ?_)
  | refine zb env rfl rfl (qz ?_)
  | refine zn env rfl (qz ?_)
 all_goals refine w8 ?_
 all_goals rw [BP]
 all_goals simp_all [wc,ye]
 all_goals omega
theorem q7j {s t:ByteArray}:(s=t)=(s.data.toList=t.data.toList):=by
 apply propext
 constructor
 ·rintro rfl;rfl
 intro h
 rcases s with ⟨⟨l⟩⟩
 rcases t with ⟨⟨m⟩⟩
 simp only at h
 subst h;rfl
set_option maxHeartbeats 4000000 in
theorem q1k (s:ByteArray):Fn Tryz.prog G 184 [.str s] (.bool (Kq s.data.toList)):=by
 refine zg (T:=tt) (N:=49) (rs:= [.tmp 2]) (fun vs w=>by simp) Tryz.func184 rfl rfl rfl rfl (by kernel_rfl) (zm rfl) (qy _ rfl) ?_
 repeat' first
  | refine ji env rfl ?_
  | refine qq (fun h=> ?_) (fun h=> ?_)
  | refine qw (fun h=> ?_) (fun h=> ?_)
  | refine qd (fun h=> ?_) (fun h=> ?_)
  | refine zb env rfl rfl (qz ?_)
  | refine zn env rfl (qz ?_)
 all_goals refine w8 ?_
 all_goals simp only [q7j] at*
 all_goals simp_all [Kq,qr2]
def ldB (c:UInt8):Bool:=wc c.toNat || ye c.toNat
theorem quv:∀(l:List UInt8) (i:Nat),Qr (i+1) l=l.all ldB
 | [],i=>rfl
 | c::l,i=>by
   simp only [Qr,BX,ldB,quv l (i+1)]
   simp
theorem q6f (c:Int):wc c=true→ye c=false:=by
 simp only [wc,ye,decide_eq_true_eq,decide_eq_false_iff_not];omega
theorem q6i (s:ByteArray) (h0:0 < s.size) (h1:s.size≤32) (hk:Kq s.data.toList=false) (hd:ye (s[0]'h0).toNat=false):Q8 s.data.toList=s.data.toList.all ldB:=by
 have hl:=len_bytes s
 have e:s.data.toList=s[0]::s.data.toList.drop 1:=by have:=Qt s 0 h0;simpa using this
 unfold Q8
 rw [hk,hl]
 rw [e] at hl ⊢
 have e2:Qr 0 (s[0]::s.data.toList.drop 1)=((wc (s[0]).toNat || (0 !=0 && ye (s[0]).toNat)) && Qr 1 (s.data.toList.drop 1)):=rfl
 rw [e2,quv,BX]
 simp [ldB,hd,h1]
theorem qyo (s:ByteArray) (h0:0 < s.size) (hd:ye (s[0]'h0).toNat=true):Q8 s.data.toList=false:=by
 have e:s.data.toList=s[0]::s.data.toList.drop 1:=by have:=Qt s 0 h0;simpa using this
 have hn:wc (s[0]).toNat=false:=by
  cases h:wc (s[0]).toNat with
  | false=>rfl
  | true=>rw [q6f _ h] at hd;cases hd
 unfold Q8
 rw [e]
 have e2:Qr 0 (s[0]::s.data.toList.drop 1)=((wc (s[0]).toNat || (0 !=0 && ye (s[0]).toNat)) && Qr 1 (s.data.toList.drop 1)):=rfl
 rw [e2,hn]
 simp
theorem q8r (s:ByteArray) (hs:s.size≤32):
 (s.size=0∧decide ((s.size:Int) < 1)=true∧Q8 s.data.toList=false)∨
 (∃ b, s[0]? =some b∧decide ((s.size:Int) < 1)=false∧decide (32 < (s.size:Int))=false∧
   ((ye b.toNat=true∧Q8 s.data.toList=false)∨
    (ye b.toNat=false∧Kq s.data.toList=true∧Q8 s.data.toList=false)∨
    (ye b.toNat=false∧Kq s.data.toList=false∧Q8 s.data.toList=s.data.toList.all ldB∧∀i:Nat,i≤s.size→s.data.toList.all ldB=(s.data.toList.drop i).all ldB→
      (∃ c,s[i]? =some c∧i < s.size∧decide ((i:Int) < (s.size:Int))=true∧IntKind.i64.wrap ((i:Int)+1)=((i+1:Nat):Int)∧
        ((wc c.toNat=true∧s.data.toList.all ldB=(s.data.toList.drop (i+1)).all ldB)∨(wc c.toNat=false∧ye c.toNat=true∧s.data.toList.all ldB=(s.data.toList.drop (i+1)).all ldB)∨(wc c.toNat=false∧ye c.toNat=false∧Q8 s.data.toList=false)))∨
      (decide ((i:Int) < (s.size:Int))=false∧Q8 s.data.toList=true)))):=by
 have hl:=len_bytes s
 by_cases h0:s.size=0
 ·refine .inl ⟨h0,decide_eq_true (by omega),?_⟩
  have:s.data.toList= []:=AK.1 (by omega)
  rw [this];rfl
 have h0':0 < s.size:=by omega
 refine .inr ⟨s[0],getElem?_pos s 0 h0',decide_eq_false (by omega),decide_eq_false (by omega),?_⟩
 cases hd:ye (s[0]).toNat with
 | true=>exact .inl ⟨rfl,qyo s h0' hd⟩
 | false =>
   cases hk:Kq s.data.toList with
   | true=>exact .inr (.inl ⟨rfl,rfl,by simp [Q8,hk]⟩)
   | false=>
     have hn:=q6i s h0' hs hk hd
     refine .inr (.inr ⟨rfl,rfl,hn,fun i hi hJ=> ?_⟩)
     by_cases hlt:i < s.size
     ·have e:(s.data.toList.drop i).all ldB=(ldB s[i] && (s.data.toList.drop (i+1)).all ldB):=by rw [Qt s i hlt];rfl
      refine .inl ⟨s[i],getElem?_pos s i hlt,hlt,by simpa using hlt,js (by omega) (by omega),?_⟩
      rw [hn,hJ,e]
      cases h1:wc (s[i]).toNat with
      | true=>exact .inl ⟨rfl,by simp [ldB,h1]⟩
      | false=>
        cases h2:ye (s[i]).toNat with
        | true=>exact .inr (.inl ⟨rfl,rfl,by simp [ldB,h1,h2]⟩)
        | false=>exact .inr (.inr ⟨rfl,rfl,by simp [ldB,h1,h2]⟩)
     refine .inr ⟨decide_eq_false (by omega),?_⟩
     rw [hn,hJ,AD (by omega)]
     rfl
set_option maxHeartbeats 4000000 in
theorem qkd (s:ByteArray):Fn Tryz.prog G 160 [.str s] (.bool (Q8 s.data.toList)):=by
 by_cases hs:s.size≤32
 case neg=>
  have ha:decide ((s.size:Int) < 1)=false:=decide_eq_false (by omega)
  have hc:decide (32 < (s.size:Int))=true:=decide_eq_true (by omega)
  rw [show Q8 s.data.toList=false by unfold Q8;rw [len_bytes];simp [hs]]
  refine zg (T:=tt) (N:=39) (rs:= [.tmp 2]) (fun vs w=>by simp) Tryz.func160 rfl rfl rfl rfl (by kernel_rfl) (zm rfl) (qy _ rfl) ?_
  repeat' first
   | refine ji env rfl ?_
   | (refine qf ?_ ?_;(· simp only [ha]))
   | (refine qg ?_ ?_;(· simp only [ha]))
   | (refine qi ?_ ?_;(· simp only [ha]))
   | (refine qh ?_ ?_;(· simp only [ha]))
   | (refine qn ?_ ?_;(· simp only [ha]))
   | (refine qo ?_ ?_;(· simp only [ha]))
   | (refine qf ?_ ?_;(· simp only [hc]))
   | (refine qg ?_ ?_;(· simp only [hc]))
   | (refine qi ?_ ?_;(· simp only [hc]))
   | (refine qh ?_ ?_;(· simp only [hc]))
   | (refine qn ?_ ?_;(· simp only [hc]))
   | (refine qo ?_ ?_;(· simp only [hc]))
   | refine qq (fun h=> ?_) (fun h=> ?_)
   | refine qw (fun h=> ?_) (fun h=> ?_)
   | refine qd (fun h=> ?_) (fun h=> ?_)
   | refine zb env rfl rfl (qz ?_)
   | refine zn env rfl (qz ?_)
  all_goals rfl
 rcases q8r s hs with ⟨h0,ha,he⟩ | ⟨b,hb,ha,hc,⟨h1,he⟩ | ⟨h1,h2,he⟩ | ⟨h1,h2,he,h3⟩⟩
 all_goals
  refine zg (T:=tt) (N:=39) (rs:= [.tmp 2]) (fun vs w=>by simp) Tryz.func160 rfl rfl rfl rfl (by kernel_rfl) (zm rfl) (qy _ rfl) ?_
  repeat' first
   | refine ji env rfl ?_
   | (refine Kf (α:=Nat) (fun i=>i≤s.size∧s.data.toList.all ldB=(s.data.toList.drop i).all ldB) (fun i=>s.size - i) (fun i=> [(3, .int .i64 i)]) (fun _=> []) (0) (fun _=>rfl) (fun _=>rfl) (⟨Az _,rfl⟩) ?_ ?_ (fun i hJ=> ?_);(· simp [leFT,leV,leOs,leO,leC,rho,AV.ren,AV.ren1,AV.un,AV.un1,AV.closed]);(· simp [leFT,leV,leOs,leO,leC,rho,AV.ren,AV.ren1,AV.un,AV.un1,AV.closed]);rcases h3 i hJ.1 hJ.2 with ⟨c,hx,hlt,g1,hw,⟨g2,he⟩ | ⟨g2,g3,he⟩ | ⟨g2,g3,he⟩⟩ | ⟨g1,he⟩)
   | refine Ke rfl ?_
   | refine Jk rfl rfl ?_
   | (refine Yq (i+1) ?_ ?_ ?_ ?_;(· exact ⟨by omega,he⟩);(· omega);(· (simp only [hw];simp [leFT,leV,leOs,leO,leC,rho,AV.ren,AV.ren1,AV.un,AV.un1,AV.closed]));(· simp [leFT,leV,leOs,leO,leC,rho,AV.ren,AV.ren1,AV.un,AV.un1,AV.closed]))
   | (refine qf ?_ ?_;(· simp only [ha]))
   | (refine qg ?_ ?_;(· simp only [ha]))
   | (refine qi ?_ ?_;(· simp only [ha]))
   | (refine qh ?_ ?_;(· simp only [ha]))
   | (refine qn ?_ ?_;(· simp only [ha]))
   | (refine qo ?_ ?_;(· simp only [ha]))
   | (refine qf ?_ ?_;(· simp only [hc]))
   | (refine qg ?_ ?_;(· simp only [hc]))
   | (refine qi ?_ ?_;(· simp only [hc]))
   | (refine qh ?_ ?_;(· simp only [hc]))
   | (refine qn ?_ ?_;(· simp only [hc]))
   | (refine qo ?_ ?_;(· simp only [hc]))
   | (refine qf ?_ ?_;(· simp only [h1,Ab,Aa]))
   | (refine qg ?_ ?_;(· simp only [h1,Ab,Aa]))
   | (refine qi ?_ ?_;(· simp only [h1,Ab,Aa]))
   | (refine qh ?_ ?_;(· simp only [h1,Ab,Aa]))
   | (refine qn ?_ ?_;(· simp only [h1,Ab,Aa]))
   | (refine qo ?_ ?_;(· simp only [h1,Ab,Aa]))
   | (refine qf ?_ ?_;(· simp only [h2,Ab,Aa]))
   | (refine qg ?_ ?_;(· simp only [h2,Ab,Aa]))
   | (refine qi ?_ ?_;(· simp only [h2,Ab,Aa]))
   | (refine qh ?_ ?_;(· simp only [h2,Ab,Aa]))
   | (refine qn ?_ ?_;(· simp only [h2,Ab,Aa]))
   | (refine qo ?_ ?_;(· simp only [h2,Ab,Aa]))
   | (refine qf ?_ ?_;(· simp only [g1]))
   | (refine qg ?_ ?_;(· simp only [g1]))
   | (refine qi ?_ ?_;(· simp only [g1]))
   | (refine qh ?_ ?_;(· simp only [g1]))
   | (refine qn ?_ ?_;(· simp only [g1]))
   | (refine qo ?_ ?_;(· simp only [g1]))
   | (refine qf ?_ ?_;(· simp only [g2,Ab,Aa]))
   | (refine qg ?_ ?_;(· simp only [g2,Ab,Aa]))
   | (refine qi ?_ ?_;(· simp only [g2,Ab,Aa]))
   | (refine qh ?_ ?_;(· simp only [g2,Ab,Aa]))
   | (refine qn ?_ ?_;(· simp only [g2,Ab,Aa]))
   | (refine qo ?_ ?_;(· simp only [g2,Ab,Aa]))
   | (refine qf ?_ ?_;(· simp only [g3,Ab,Aa]))
   | (refine qg ?_ ?_;(· simp only [g3,Ab,Aa]))
   | (refine qi ?_ ?_;(· simp only [g3,Ab,Aa]))
   | (refine qh ?_ ?_;(· simp only [g3,Ab,Aa]))
   | (refine qn ?_ ?_;(· simp only [g3,Ab,Aa]))
   | (refine qo ?_ ?_;(· simp only [g3,Ab,Aa]))
   | refine qiu env rfl rfl rfl rfl rfl hb ?_
   | refine qiu env rfl rfl rfl rfl rfl hx ?_
   | refine qk (q70 _) ?_
   | refine qk (q40 _) ?_
   | refine qk (q1k _) ?_
   | refine qq (fun h=> ?_) (fun h=> ?_)
   | refine qw (fun h=> ?_) (fun h=> ?_)
   | refine qd (fun h=> ?_) (fun h=> ?_)
   | refine zb env rfl rfl (qz ?_)
   | refine zn env rfl (qz ?_)
  all_goals refine w8 ?_
  all_goals simp only [he]
namespace XInteger
set_option maxHeartbeats 1000000
theorem V.len_bytes (s:ByteArray):s.data.toList.length=s.size:=Bc
theorem V.ret_bool {a b:Bool} (h:a=b):Ending.returned (.bool a)= .returned (.bool b):=by rw [h]
theorem V.step (s:ByteArray) (k:Nat) (n:Int) (h:k < s.size):jr n (s.data.toList.drop k)=if ye (s.data.toList.getD k 0).toNat then jr (n*10+(((s.data.toList.getD k 0).toNat:Int) - 48)) (s.data.toList.drop (k+1)) else none:=by
 have hl:k < s.data.toList.length:=by rw [V.len_bytes];exact h
 rw [Bl hl,Ax,Aj hl]
 rfl
theorem V.fin (s:ByteArray) (k:Nat) (n:Int) (h:¬k < s.size):jr n (s.data.toList.drop k)=some n:=by
 rw [AD (by rw [V.len_bytes];omega)]
 rfl
theorem V.pow (k:Nat) (h:k < 13):(10:Int) ^ k≤1000000000000:=by
 have:(10:Nat) ^ k≤10 ^ 12:=Nat.pow_le_pow_right (by decide) (by omega)
 have h2:((10 ^ k:Nat):Int)≤((10 ^ 12:Nat):Int):=Int.ofNat_le.2 this
 simpa using h2
theorem V.below (w:World) (s:ByteArray):Below w.heap.size w (Lib.bytesWorld w 5 s):=by
 exact ⟨rfl,rfl,rfl,by rw [Lib.bytesWorld_size];omega,fun i hi=>Lib.bytesWorld_at_old w _ s i (by omega)⟩
def V.R (s:ByteArray):Bool:=match jr 0 s.data.toList with | some n=>decide (n≤1000000000000) | none=>false
set_option maxHeartbeats 1000000 in
theorem V.ok (s:ByteArray) (w:World) (h0:0 < s.size) (h1:s.size≤13) (h2:1 < s.size→(((s[0]'h0).toNat:Int)==48)=false):
 Calls Tryz.prog 144 #[.string s] w fun e w'=>e= .returned (.bool (V.R s))∧Below w.heap.size w w':=by
 have he2:s.toList≠ []:=by
  intro h
  rw [ByteArray.toList_eq] at h
  have:=V.len_bytes s
  rw [h] at this
  simp at this
  omega
 have he:s.toList.isEmpty=false:=by
  cases h:s.toList with
  | nil=>exact absurd h he2
  | cons _ _=>rfl
 have hconv:=Lib.run_convert_string_bytes (P:=Tryz.prog) w 9 84 5 s Tryz.underlying9 Tryz.underlying84 Tryz.underlying5
 have hd1:decide (13 < (s.size:Int))=false:=decide_eq_false (by omega)
 have hB:Below w.heap.size w (Lib.bytesWorld w 5 s):=V.below w s
 have hz:=Lib.bytesWorld_size w 5 s
 by_cases hg:1 < s.size
 ·have h3:=h2 hg
  have hd2:decide (1 < (s.size:Int))=true:=decide_eq_true (by omega)
  clear h2
  go_enter Tryz.func144,Tryz.ntmps144
  go_wp2
  go_loop [3,26] (fun n i=>∃(k:Nat) (m:Int),k≤s.size∧i= .int .i64 k∧n= .int .i64 m∧0≤m∧m < (10:Int) ^ k∧jr 0 s.data.toList=jr m (s.data.toList.drop k)) (fun _ i=>s.size - (intOf i).toNat)
  case atStart=>exact ⟨0,0,Az _,rfl,rfl,by omega,by decide,rfl⟩
  case round=>
   obtain ⟨k,m,hk,rfl,rfl,hm0,hm1,hv⟩:=hrel
   have Hv:=Go.Lib.hid hv
   clear hv
   by_cases hlt:k < s.size
   ·have hp:=V.pow k (by omega)
    have hm2:m < 1000000000000:=by omega
    have Hm:=Go.Lib.hid hm1
    have Hs:=Go.Lib.hid (V.step s k m hlt)
    clear hm1 hp
    have hc:=Lib.bytesWorld_cell w 5 s k hlt
    generalize hb:(s.data.toList.getD k 0).toNat=b at hc
    have hb2:b < 256:=by rw [←hb];exact UInt8.toNat_lt _
    rw [hb] at Hs
    clear hb
    by_cases h48:(b:Int) < 48
    ·go_wp2
     go_ret
     exact ⟨V.ret_bool (by unfold V.R;rw [Hv.out,Hs.out,if_neg (by simp [ye];omega)]),hB⟩
    by_cases h57:57 < (b:Int)
    ·go_wp2
     go_ret
     exact ⟨V.ret_bool (by unfold V.R;rw [Hv.out,Hs.out,if_neg (by simp [ye];omega)]),hB⟩
    go_wp2
    go_round
    case rel=>exact ⟨k+1,_,by omega,by go_num,rfl,by omega,by rw [Int.pow_succ];have:=Hm.out;omega,by rw [Hv.out,Hs.out,if_pos (by simp [ye];omega)]⟩
    case measure=>simp [intOf];omega
   have He:=Go.Lib.hid (V.fin s k m hlt)
   go_wp2
   go_ret
   exact ⟨V.ret_bool (by unfold V.R;rw [Hv.out,He.out]),hB⟩
 have hd2:decide (1 < (s.size:Int))=false:=decide_eq_false (by omega)
 clear h2
 go_enter Tryz.func144,Tryz.ntmps144
 go_wp2
 go_loop [3,26] (fun n i=>∃(k:Nat) (m:Int),k≤s.size∧i= .int .i64 k∧n= .int .i64 m∧0≤m∧m < (10:Int) ^ k∧jr 0 s.data.toList=jr m (s.data.toList.drop k)) (fun _ i=>s.size - (intOf i).toNat)
 case atStart=>exact ⟨0,0,Az _,rfl,rfl,by omega,by decide,rfl⟩
 case round=>
  obtain ⟨k,m,hk,rfl,rfl,hm0,hm1,hv⟩:=hrel
  have Hv:=Go.Lib.hid hv
  clear hv
  by_cases hlt:k < s.size
  ·have hp:=V.pow k (by omega)
   have hm2:m < 1000000000000:=by omega
   have Hm:=Go.Lib.hid hm1
   have Hs:=Go.Lib.hid (V.step s k m hlt)
   clear hm1 hp
   have hc:=Lib.bytesWorld_cell w 5 s k hlt
   generalize hb:(s.data.toList.getD k 0).toNat=b at hc
   have hb2:b < 256:=by rw [←hb];exact UInt8.toNat_lt _
   rw [hb] at Hs
   clear hb
   by_cases h48:(b:Int) < 48
   ·go_wp2
    go_ret
    exact ⟨V.ret_bool (by unfold V.R;rw [Hv.out,Hs.out,if_neg (by simp [ye];omega)]),hB⟩
   by_cases h57:57 < (b:Int)
   ·go_wp2
    go_ret
    exact ⟨V.ret_bool (by unfold V.R;rw [Hv.out,Hs.out,if_neg (by simp [ye];omega)]),hB⟩
   go_wp2
   go_round
   case rel=>exact ⟨k+1,_,by omega,by go_num,rfl,by omega,by rw [Int.pow_succ];have:=Hm.out;omega,by rw [Hv.out,Hs.out,if_pos (by simp [ye];omega)]⟩
   case measure=>simp [intOf];omega
  have He:=Go.Lib.hid (V.fin s k m hlt)
  go_wp2
  go_ret
  exact ⟨V.ret_bool (by unfold V.R;rw [Hv.out,He.out]),hB⟩
theorem V.no0 (s:ByteArray) (w:World) (h0:s.size=0):Calls Tryz.prog 144 #[.string s] w fun e w'=>e= .returned (.bool false)∧w=w':=by
 have he2:s.toList= []:=by
  rw [ByteArray.toList_eq]
  exact AK.1 (by rw [V.len_bytes];exact h0)
 have he:s.toList.isEmpty=true:=by rw [he2];rfl
 clear h0
 go_enter Tryz.func144,Tryz.ntmps144
 go_wp2
 go_ret
 exact ⟨rfl,rfl⟩
theorem V.no1 (s:ByteArray) (w:World) (h1:13 < s.size):Calls Tryz.prog 144 #[.string s] w fun e w'=>e= .returned (.bool false)∧w=w':=by
 have he2:s.toList≠ []:=by
  intro h
  rw [ByteArray.toList_eq] at h
  have:=V.len_bytes s
  rw [h] at this
  simp at this
  omega
 have he:s.toList.isEmpty=false:=by
  cases h:s.toList with
  | nil=>exact absurd h he2
  | cons _ _=>rfl
 have hd1:decide (13 < (s.size:Int))=true:=decide_eq_true (by omega)
 go_enter Tryz.func144,Tryz.ntmps144
 go_wp2
 go_ret
 exact ⟨rfl,rfl⟩
theorem V.no2 (s:ByteArray) (w:World) (h1:s.size≤13) (hg:1 < s.size) (h3:(((s[0]'(by omega)).toNat:Int)==48)=true):Calls Tryz.prog 144 #[.string s] w fun e w'=>e= .returned (.bool false)∧w=w':=by
 have he2:s.toList≠ []:=by
  intro h
  rw [ByteArray.toList_eq] at h
  have:=V.len_bytes s
  rw [h] at this
  simp at this
  omega
 have he:s.toList.isEmpty=false:=by
  cases h:s.toList with
  | nil=>exact absurd h he2
  | cons _ _=>rfl
 have hd1:decide (13 < (s.size:Int))=false:=decide_eq_false (by omega)
 have hd2:decide (1 < (s.size:Int))=true:=decide_eq_true (by omega)
 go_enter Tryz.func144,Tryz.ntmps144
 go_wp2
 go_ret
 exact ⟨rfl,rfl⟩
def V.f (a0:ByteArray):Option Bool:=some (kx a0.data.toList)
theorem V.calls (a0:ByteArray) (r:Bool) (w:World) (h:V.f a0=some r):Calls Tryz.prog 144 #[.string a0] w fun e w'=>e= .returned (.bool r)∧Below w.heap.size w w':=by
 obtain rfl:=Bf h
 clear h
 have hl:=V.len_bytes a0
 have hne:a0.data.toList.isEmpty=decide (a0.size=0):=by
  rw [←hl]
  cases a0.data.toList <;> simp
 by_cases h0:a0.size=0
 ·refine (V.no0 a0 w h0).mono ?_
  rintro e w' ⟨rfl,rfl⟩
  exact ⟨V.ret_bool (by simp [kx,hne,h0]),Below.refl _ _⟩
 by_cases h1:a0.size≤13
 ·have hh:a0.data.toList.head? =some (a0[0]'(by omega)):=by
   have h3:0 < a0.data.toList.length:=by omega
   rw [List.head?_eq_getElem?,Aj h3]
   rfl
  by_cases hg:1 < a0.size∧(((a0[0]'(by omega)).toNat:Int)==48)=true
  ·refine (V.no2 a0 w h1 hg.1 hg.2).mono ?_
   rintro e w' ⟨rfl,rfl⟩
   have h4:(a0[0]'(by omega))=48:=by
    have:=beq_iff_eq.1 hg.2
    apply BF.1
    have h9:(a0[0]'(by omega)).toNat=48:=by omega
    rw [h9];rfl
   exact ⟨V.ret_bool (by unfold kx;rw [hh,h4,hl];simp [hg.1]),Below.refl _ _⟩
  refine (V.ok a0 w (by omega) h1 (fun h5=>by
   cases h6:(((a0[0]'(by omega)).toNat:Int)==48) with
   | false=>rfl
   | true=>exact absurd ⟨h5,h6⟩ hg)).mono ?_
  rintro e w' ⟨rfl,hb⟩
  refine ⟨V.ret_bool ?_,hb⟩
  unfold kx V.R
  rw [hne,hl,hh]
  have h7:(decide (1 < a0.size) && some (a0[0]'(by omega))==some 48)=false:=by
   rw [Bool.eq_false_iff]
   intro h8
   simp only [An,decide_eq_true_eq,beq_iff_eq,Ac] at h8
   exact hg ⟨h8.1,by rw [h8.2];rfl⟩
  rw [h7]
  simp only [h0,h1,decide_false,decide_true,Aa,Bh]
  cases jr 0 a0.data.toList <;> rfl
 refine (V.no1 a0 w (by omega)).mono ?_
 rintro e w' ⟨rfl,rfl⟩
 exact ⟨V.ret_bool (by unfold kx;rw [hl];simp [h1]),Below.refl _ _⟩
end XInteger
theorem qpu (s:ByteArray):Fn Tryz.prog G 144 [.str s] (.bool (kx s.data.toList)):=
 qgj (fun vs w=>by simp) fun w S β n vs hv=>by
  rw [qvr hv]
  refine (XInteger.V.calls s _ w rfl).mono ?_
  rintro e w' ⟨rfl,hb⟩
  exact ⟨⟨_,rfl,fun _ _ _=> .bool _⟩,hb⟩
def q5i:Option Int→Bool
 | some n=>decide (n≤1000000000000)
 | none=>false
theorem zbu (i:Nat) (h:i≤13):(10:Int) ^ i≤10000000000000:=by
 have:(10:Nat) ^ i≤10 ^ 13:=Nat.pow_le_pow_right (by decide) h
 have h2:((10 ^ i:Nat):Int)≤((10 ^ 13:Nat):Int):=Int.ofNat_le.2 this
 simpa using h2
theorem zbr {x:Int} (h0:0≤x) (h1:x≤255):IntKind.u8.wrap x=x:=by
 have hb:IntKind.u8.bits=8:=rfl
 have hs:IntKind.u8.signed=false:=rfl
 simp only [IntKind.wrap,hb,hs,BM]
 simp
 omega
def IntJ (s:ByteArray) (i:Nat) (n:Int):Prop:=i≤s.size∧jr 0 s.data.toList=jr n (s.data.toList.drop i)∧0≤n∧n < 10 ^ i
theorem q6y (s:ByteArray) (h13:s.size≤13) (i:Nat) (n:Int) (hJ:IntJ s i n):
 (∃ b,s[i]? =some b∧i < s.size∧decide ((i:Int) < (s.size:Int))=true∧IntKind.i64.wrap ((i:Int)+1)=((i+1:Nat):Int)∧
   ((decide ((b.toNat:Int) < 48)=true∧jr 0 s.data.toList=none)∨(decide ((b.toNat:Int) < 48)=false∧decide (57 < (b.toNat:Int))=true∧jr 0 s.data.toList=none)∨
    (decide ((b.toNat:Int) < 48)=false∧decide (57 < (b.toNat:Int))=false∧IntKind.i64.wrap (IntKind.i64.wrap (10*n)+IntKind.i64.wrap (IntKind.u8.wrap ((b.toNat:Int) - 48)))=n*10+((b.toNat:Int) - 48)∧IntJ s (i+1) (n*10+((b.toNat:Int) - 48)))))∨
 (decide ((i:Int) < (s.size:Int))=false∧jr 0 s.data.toList=some n):=by
 obtain ⟨h1,h2,h3,h4⟩:=hJ
 have hp:=zbu i (by omega)
 by_cases hlt:i < s.size
 ·refine .inl ⟨s[i],getElem?_pos s i hlt,hlt,by simpa using hlt,js (by omega) (by omega),?_⟩
  have e:jr n (s.data.toList.drop i)=if ye (s[i]).toNat then jr (n*10+(((s[i]).toNat:Int) - 48)) (s.data.toList.drop (i+1)) else none:=by rw [Qt s i hlt];rfl
  have hu:=(s[i]).toNat_lt
  generalize s[i]=b at*
  by_cases hd:ye b.toNat=true
  ·rw [if_pos hd] at e
   have hd':=hd
   simp only [ye,decide_eq_true_eq] at hd'
   refine .inr (.inr ⟨decide_eq_false (by omega),decide_eq_false (by omega),?_,by omega,by rw [h2,e],by omega,?_⟩)
   ·rw [zbr (by omega) (by omega),js (x:=10*n) (by omega) (by omega),js (x:=(b.toNat:Int) - 48) (by omega) (by omega),js (by omega) (by omega)];omega
   rw [Int.pow_succ];omega
  rw [if_neg hd] at e
  simp only [ye,decide_eq_true_eq] at hd
  by_cases hl:(b.toNat:Int) < 48
  ·exact .inl ⟨decide_eq_true hl,by rw [h2,e]⟩
  exact .inr (.inl ⟨decide_eq_false hl,decide_eq_true (by omega),by rw [h2,e]⟩)
 refine .inr ⟨decide_eq_false (by omega),?_⟩
 rw [h2,AD (by rw [len_bytes];omega)]
 rfl
theorem q6z (s:ByteArray) (h:s.size≤13):
 (decide ((s.size:Int)=0)=true∧kx s.data.toList=false)∨
 (∃ b,s[0]? =some b∧decide ((s.size:Int)=0)=false∧decide (13 < (s.size:Int))=false∧
   ((decide (1 < (s.size:Int))=true∧decide ((b.toNat:Int)=48)=true∧kx s.data.toList=false)∨
    ((decide (1 < (s.size:Int))=false∨(decide (1 < (s.size:Int))=true∧decide ((b.toNat:Int)=48)=false))∧kx s.data.toList=q5i (jr 0 s.data.toList)))):=by
 have hl:=len_bytes s
 by_cases h0:s.size=0
 ·refine .inl ⟨decide_eq_true (by omega),?_⟩
  have:s.data.toList= []:=AK.1 (by omega)
  rw [this];rfl
 have h0':0 < s.size:=by omega
 have e:s.data.toList=s[0]::s.data.toList.drop 1:=by have:=Qt s 0 h0';simpa using this
 have hne:s.data.toList.isEmpty=false:=by rw [e];rfl
 have hh:s.data.toList.head? =some s[0]:=by rw [e];rfl
 have t48:decide (((s[0]).toNat:Int)=48)=(s[0]==48):=by rw [qmv (s[0]) 48 |> fun h=>(show decide (((s[0]).toNat:Int)=48)=decide (s[0]=48) from h)];rfl
 have hi:kx s.data.toList=(!(decide (1 < s.size) && s[0]==48) && q5i (jr 0 s.data.toList)):=by
  unfold kx
  rw [hne,hl,hh,decide_eq_true h]
  cases jr 0 s.data.toList <;> simp [q5i]
 refine .inr ⟨s[0],getElem?_pos s 0 h0',decide_eq_false (by omega),decide_eq_false (by omega),?_⟩
 rw [t48,hi]
 by_cases hg:1 < s.size
 ·cases h48:s[0]==48 with
  | true=>exact .inl ⟨decide_eq_true (by omega),rfl,by simp [hg]⟩
  | false=>exact .inr ⟨.inr ⟨decide_eq_true (by omega),rfl⟩,by simp⟩
 exact .inr ⟨.inl (decide_eq_false (by omega)),by simp [hg]⟩
set_option maxHeartbeats 4000000 in
theorem qir (s:ByteArray):Fn Tryz.prog G 158 [.str s] (.bool (kx s.data.toList)):=by
 by_cases h13:s.size≤13
 case neg=>
  have a1:decide ((s.size:Int)=0)=false:=decide_eq_false (by omega)
  have a2:decide (13 < (s.size:Int))=true:=decide_eq_true (by omega)
  rw [show kx s.data.toList=false by unfold kx;rw [len_bytes];simp [h13]]
  refine zg (T:=tt) (N:=49) (rs:= [.tmp 2]) (fun vs w=>by simp) Tryz.func158 rfl rfl rfl rfl (by kernel_rfl) (zm rfl) (qy _ rfl) ?_
  repeat' first
   | refine ji env rfl ?_
   | (refine qf ?_ ?_;(· simp only [a1,Ab,Aa]))
   | (refine qg ?_ ?_;(· simp only [a1,Ab,Aa]))
   | (refine qi ?_ ?_;(· simp only [a1,Ab,Aa]))
   | (refine qh ?_ ?_;(· simp only [a1,Ab,Aa]))
   | (refine qn ?_ ?_;(· simp only [a1,Ab,Aa]))
   | (refine qo ?_ ?_;(· simp only [a1,Ab,Aa]))
   | (refine qf ?_ ?_;(· simp only [a2,Ab,Aa]))
   | (refine qg ?_ ?_;(· simp only [a2,Ab,Aa]))
   | (refine qi ?_ ?_;(· simp only [a2,Ab,Aa]))
   | (refine qh ?_ ?_;(· simp only [a2,Ab,Aa]))
   | (refine qn ?_ ?_;(· simp only [a2,Ab,Aa]))
   | (refine qo ?_ ?_;(· simp only [a2,Ab,Aa]))
   | (refine qf ?_ ?_;(· simp only [a3,Ab,Aa]))
   | (refine qg ?_ ?_;(· simp only [a3,Ab,Aa]))
   | (refine qi ?_ ?_;(· simp only [a3,Ab,Aa]))
   | (refine qh ?_ ?_;(· simp only [a3,Ab,Aa]))
   | (refine qn ?_ ?_;(· simp only [a3,Ab,Aa]))
   | (refine qo ?_ ?_;(· simp only [a3,Ab,Aa]))
   | (refine qf ?_ ?_;(· simp only [a4,Ab,Aa]))
   | (refine qg ?_ ?_;(· simp only [a4,Ab,Aa]))
   | (refine qi ?_ ?_;(· simp only [a4,Ab,Aa]))
   | (refine qh ?_ ?_;(· simp only [a4,Ab,Aa]))
   | (refine qn ?_ ?_;(· simp only [a4,Ab,Aa]))
   | (refine qo ?_ ?_;(· simp only [a4,Ab,Aa]))
   | (refine qf ?_ ?_;(· simp only [g1,Ab,Aa]))
   | (refine qg ?_ ?_;(· simp only [g1,Ab,Aa]))
   | (refine qi ?_ ?_;(· simp only [g1,Ab,Aa]))
   | (refine qh ?_ ?_;(· simp only [g1,Ab,Aa]))
   | (refine qn ?_ ?_;(· simp only [g1,Ab,Aa]))
   | (refine qo ?_ ?_;(· simp only [g1,Ab,Aa]))
   | (refine qf ?_ ?_;(· simp only [g2,Ab,Aa]))
   | (refine qg ?_ ?_;(· simp only [g2,Ab,Aa]))
   | (refine qi ?_ ?_;(· simp only [g2,Ab,Aa]))
   | (refine qh ?_ ?_;(· simp only [g2,Ab,Aa]))
   | (refine qn ?_ ?_;(· simp only [g2,Ab,Aa]))
   | (refine qo ?_ ?_;(· simp only [g2,Ab,Aa]))
   | (refine qf ?_ ?_;(· simp only [g3,Ab,Aa]))
   | (refine qg ?_ ?_;(· simp only [g3,Ab,Aa]))
   | (refine qi ?_ ?_;(· simp only [g3,Ab,Aa]))
   | (refine qh ?_ ?_;(· simp only [g3,Ab,Aa]))
   | (refine qn ?_ ?_;(· simp only [g3,Ab,Aa]))
   | (refine qo ?_ ?_;(· simp only [g3,Ab,Aa]))
   | refine qq (fun h=> ?_) (fun h=> ?_)
   | refine qw (fun h=> ?_) (fun h=> ?_)
   | refine qd (fun h=> ?_) (fun h=> ?_)
   | refine zb env rfl rfl (qz ?_)
   | refine zn env rfl (qz ?_)
  all_goals rfl
 rcases q6z s h13 with ⟨a1,he⟩ | ⟨b,hb,a1,a2,⟨a3,a4,he⟩ | ⟨a3 | ⟨a3,a4⟩,he⟩⟩
 all_goals rw [he]
 all_goals
  refine zg (T:=tt) (N:=49) (rs:= [.tmp 2]) (fun vs w=>by simp) Tryz.func158 rfl rfl rfl rfl (by kernel_rfl) (zm rfl) (qy _ rfl) ?_
  repeat' first
   | refine ji env rfl ?_
   | (refine Kf (α:=Nat × Int) (fun a=>IntJ s a.1 a.2) (fun a=>s.size - a.1) (fun a=> [(4, .int .i64 a.1),(3, .int .i64 a.2)]) (fun _=> []) ((0,0)) (fun _=>rfl) (fun _=>rfl) (⟨Az _,rfl,Int.le_refl _,by decide⟩) ?_ ?_ (fun ⟨i,n⟩ hJ=> ?_);(· simp [leFT,leV,leOs,leO,leC,rho,AV.ren,AV.ren1,AV.un,AV.un1,AV.closed]);(· simp [leFT,leV,leOs,leO,leC,rho,AV.ren,AV.ren1,AV.un,AV.un1,AV.closed]);rcases q6y s h13 i n hJ with ⟨b2,hx,hlt,g1,hw,⟨g2,hv⟩ | ⟨g2,g3,hv⟩ | ⟨g2,g3,hw2,hJ2⟩⟩ | ⟨g1,hv⟩)
   | refine Ke rfl ?_
   | refine Jk rfl rfl ?_
   | (refine Yq ((i+1,n*10+((b2.toNat:Int) - 48))) ?_ ?_ ?_ ?_;(· exact hJ2);(· (show s.size - (i+1) < s.size - i;omega));(· (simp only [hw,hw2];simp [leFT,leV,leOs,leO,leC,rho,AV.ren,AV.ren1,AV.un,AV.un1,AV.closed]));(· simp [leFT,leV,leOs,leO,leC,rho,AV.ren,AV.ren1,AV.un,AV.un1,AV.closed]))
   | (refine qf ?_ ?_;(· simp only [a1,Ab,Aa]))
   | (refine qg ?_ ?_;(· simp only [a1,Ab,Aa]))
   | (refine qi ?_ ?_;(· simp only [a1,Ab,Aa]))
   | (refine qh ?_ ?_;(· simp only [a1,Ab,Aa]))
   | (refine qn ?_ ?_;(· simp only [a1,Ab,Aa]))
   | (refine qo ?_ ?_;(· simp only [a1,Ab,Aa]))
   | (refine qf ?_ ?_;(· simp only [a2,Ab,Aa]))
   | (refine qg ?_ ?_;(· simp only [a2,Ab,Aa]))
   | (refine qi ?_ ?_;(· simp only [a2,Ab,Aa]))
   | (refine qh ?_ ?_;(· simp only [a2,Ab,Aa]))
   | (refine qn ?_ ?_;(· simp only [a2,Ab,Aa]))
   | (refine qo ?_ ?_;(· simp only [a2,Ab,Aa]))
   | (refine qf ?_ ?_;(· simp only [a3,Ab,Aa]))
   | (refine qg ?_ ?_;(· simp only [a3,Ab,Aa]))
   | (refine qi ?_ ?_;(· simp only [a3,Ab,Aa]))
   | (refine qh ?_ ?_;(· simp only [a3,Ab,Aa]))
   | (refine qn ?_ ?_;(· simp only [a3,Ab,Aa]))
   | (refine qo ?_ ?_;(· simp only [a3,Ab,Aa]))
   | (refine qf ?_ ?_;(· simp only [a4,Ab,Aa]))
   | (refine qg ?_ ?_;(· simp only [a4,Ab,Aa]))
   | (refine qi ?_ ?_;(· simp only [a4,Ab,Aa]))
   | (refine qh ?_ ?_;(· simp only [a4,Ab,Aa]))
   | (refine qn ?_ ?_;(· simp only [a4,Ab,Aa]))
   | (refine qo ?_ ?_;(· simp only [a4,Ab,Aa]))
   | (refine qf ?_ ?_;(· simp only [g1,Ab,Aa]))
   | (refine qg ?_ ?_;(· simp only [g1,Ab,Aa]))
   | (refine qi ?_ ?_;(· simp only [g1,Ab,Aa]))
   | (refine qh ?_ ?_;(· simp only [g1,Ab,Aa]))
   | (refine qn ?_ ?_;(· simp only [g1,Ab,Aa]))
   | (refine qo ?_ ?_;(· simp only [g1,Ab,Aa]))
   | (refine qf ?_ ?_;(· simp only [g2,Ab,Aa]))
   | (refine qg ?_ ?_;(· simp only [g2,Ab,Aa]))
   | (refine qi ?_ ?_;(· simp only [g2,Ab,Aa]))
   | (refine qh ?_ ?_;(· simp only [g2,Ab,Aa]))
   | (refine qn ?_ ?_;(· simp only [g2,Ab,Aa]))
   | (refine qo ?_ ?_;(· simp only [g2,Ab,Aa]))
   | (refine qf ?_ ?_;(· simp only [g3,Ab,Aa]))
   | (refine qg ?_ ?_;(· simp only [g3,Ab,Aa]))
   | (refine qi ?_ ?_;(· simp only [g3,Ab,Aa]))
   | (refine qh ?_ ?_;(· simp only [g3,Ab,Aa]))
   | (refine qn ?_ ?_;(· simp only [g3,Ab,Aa]))
   | (refine qo ?_ ?_;(· simp only [g3,Ab,Aa]))
   | refine qiu env rfl rfl rfl rfl rfl hb ?_
   | refine qiu env rfl rfl rfl rfl rfl hx ?_
   | refine qq (fun h=> ?_) (fun h=> ?_)
   | refine qw (fun h=> ?_) (fun h=> ?_)
   | refine qd (fun h=> ?_) (fun h=> ?_)
   | refine zb env rfl rfl (qz ?_)
   | refine zn env rfl (qz ?_)
  all_goals first | rfl | (refine w8 ?_;rw [hv];rfl)
end Go.Proofs.YtpnkemogepoioaaGreatDoorW.Ex.Gr
