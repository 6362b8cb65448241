/- Names and integers, in the program and in the references. No conditions beside those in each theorem. -/
import Derived.Test.YtpnkemogepoioaaGreatDoorSa
import Derived.WalkLawsBesides
import Derived.WalkSpells
import Derived.Lib.ConvBytes
import Derived.Laws.BytesArg
import Derived.Lib.Hide
namespace Go.Proofs.YtpnkemogepoioaaGreatDoorW.Ex.Gr
open Go Go.Proofs.YtpnkemogepoioaaGreatDoorW.Ex
set_option linter.all false
set_option maxRecDepth 100000
open Go.Proofs.YtpnkemogepoioaaGreatDoorW.Plain Go.RowKit
variable {G:Nat→List AV}
namespace XValid
theorem V.len_bytes (s:ByteArray):s.data.toList.length=s.size:=AY
theorem V.ret_bool {a b:Bool} (h:a=b):Ending.returned (.bool a)= .returned (.bool b):=by rw [h]
theorem V.letter_same (c:Int) (w:World):Calls Tryz.prog 87 #[.int .i32 c] w fun e w'=>e= .returned (.bool (Yc c))∧w=w':=by
 go_enter Tryz.func87,Tryz.ntmps87
 go_wp2
 all_goals
  go_ret
  exact ⟨V.ret_bool (by rw [Bool.eq_iff_iff];simp [Yc];omega),rfl⟩
theorem V.digit_same (c:Int) (w:World):Calls Tryz.prog 88 #[.int .i32 c] w fun e w'=>e= .returned (.bool (vo c))∧w=w':=by
 go_enter Tryz.func88,Tryz.ntmps88
 go_wp2
 all_goals
  go_ret
  exact ⟨V.ret_bool (by rw [Bool.eq_iff_iff];simp [vo];omega),rfl⟩
theorem V.keyword_same (s:ByteArray) (w:World):Calls Tryz.prog 173 #[.string s] w fun e w'=>e= .returned (.bool (qfa s.data.toList))∧w=w':=by
 rw [show s.data.toList=s.toList from (ByteArray.toList_eq s).symm]
 go_enter Tryz.func173,Tryz.ntmps173
 go_wp2
 all_goals
  go_ret
  exact ⟨V.ret_bool (by simp_all [qfa,qwj]),rfl⟩
theorem V.letterB_high (c:Int) (h:128≤c):Yc c=false:=by simp [Yc];omega
theorem V.digitB_high (c:Int) (h:128≤c):vo c=false:=by simp [vo];omega
theorem V.namedFrom_step (s:ByteArray) (k:Nat) (h:k < s.size):Kx k (s.data.toList.drop k)=((Yc (s[k]'h).toNat || (k !=0 && vo (s[k]'h).toNat)) && Kx (k+1) (s.data.toList.drop (k+1))):=by
 have hl:k < s.data.toList.length:=by rw [V.len_bytes];exact h
 rw [Be hl]
 rfl
theorem V.namedFrom_end (s:ByteArray) (k:Nat) (h:¬k < s.size):Kx k (s.data.toList.drop k)=true:=by
 rw [AW (by rw [V.len_bytes];omega)]
 rfl
set_option maxHeartbeats 1000000 in
set_option maxRecDepth 100000 in
theorem V.valid_ok (s:ByteArray) (w:World) (h0:0 < s.size) (h1:s.size≤32) (h2:qfa s.data.toList=false):
 Calls Tryz.prog 143 #[.string s] w fun e w'=>e= .returned (.bool (Kx 0 s.data.toList))∧Below w.heap.size w w':=by
 have he : s.toList.isEmpty=false:=by
  rw [ByteArray.toList_eq]
  cases hl:s.data.toList with
  | nil => have:=V.len_bytes s
           rw [hl] at this
           simp at this
           omega
  | cons _ _=>rfl
 have he2:s.toList≠ []:=by
  intro h
  rw [h] at he
  cases he
 have H2:=Go.Lib.hid h2
 clear h2
 go_enter Tryz.func143,Tryz.ntmps143
 go_wp2_with (go_at_call 173;refine (V.keyword_same _ _).mono ?_;rintro e w' ⟨rfl,rfl⟩;rw [H2.out])
 go_loopw [] (fun w'=>∃k:Nat,k≤s.size∧w'=w.iter s k∧Kx 0 s.data.toList=Kx k (s.data.toList.drop k)) (fun w'=>s.size - w'.iterPos w.heap.size)
 case atStart=>exact ⟨0,AD _,rfl,rfl⟩
 case round=>
  obtain ⟨k,hk,rfl,hn⟩:=hrel
  have Hn:=Go.Lib.hid hn
  clear hn
  by_cases hlt:k < s.size
  ·by_cases ha:(s[k]'hlt).toNat < 128
   ·have hnx:∀ty,(Instr.next (.pointer (some ⟨w.heap.size,0,none⟩)) true ty).run Tryz.prog (w.iter s k)=_:=fun ty=>run_next_ascii w s k ty hlt ha
    have Hs:=Go.Lib.hid (V.namedFrom_step s k hlt)
    by_cases hL:Yc ((s[k]'hlt).toNat:Int)=true
    ·go_wp2_with (go_at_call 87;refine (V.letter_same _ _).mono ?_;rintro e w' ⟨rfl,rfl⟩;rw [hL])
     go_roundw
     case rel=>exact ⟨k+1,by omega,rfl,by rw [Hn.out,Hs.out,hL];simp⟩
     case measure=>simp;omega
    have hL':Yc ((s[k]'hlt).toNat:Int)=false:=by simpa using hL
    clear hL
    by_cases hz:k=0
    ·subst hz
     go_wp2_with (go_at_call 87;refine (V.letter_same _ _).mono ?_;rintro e w' ⟨rfl,rfl⟩;rw [hL'])
     go_ret
     exact ⟨V.ret_bool (by rw [Hn.out,Hs.out,hL'];rfl),(Below.refl _ _).alloc (Aj _) _⟩
    have hz':((k:Int)==0)=false:=by rw [beq_eq_false_iff_ne];omega
    have hz2:(k !=0)=true:=by rw [bne_iff_ne];exact hz
    have Hz2:=Go.Lib.hid hz2
    clear hz2
    by_cases hD:vo ((s[k]'hlt).toNat:Int)=true
    ·go_wp2_with (first | (go_at_call 87;refine (V.letter_same _ _).mono ?_;rintro e w' ⟨rfl,rfl⟩;rw [hL']) | (go_at_call 88;refine (V.digit_same _ _).mono ?_;rintro e w' ⟨rfl,rfl⟩;rw [hD]))
     go_roundw
     case rel=>exact ⟨k+1,by omega,rfl,by rw [Hn.out,Hs.out,hL',hD,Hz2.out];simp⟩
     case measure=>simp;omega
    have hD':vo ((s[k]'hlt).toNat:Int)=false:=by simpa using hD
    clear hD
    go_wp2_with (first | (go_at_call 87;refine (V.letter_same _ _).mono ?_;rintro e w' ⟨rfl,rfl⟩;rw [hL']) | (go_at_call 88;refine (V.digit_same _ _).mono ?_;rintro e w' ⟨rfl,rfl⟩;rw [hD']))
    go_ret
    exact ⟨V.ret_bool (by rw [Hn.out,Hs.out,hL',hD',Hz2.out];rfl),(Below.refl _ _).alloc (Aj _) _⟩
   have hnx:∀ty,(Instr.next (.pointer (some ⟨w.heap.size,0,none⟩)) true ty).run Tryz.prog (w.iter s k)=_:=fun ty=>run_next_any w s k ty hlt
   have Hs:=Go.Lib.hid (V.namedFrom_step s k hlt)
   have hr:=(decode_high s k hlt (by omega)).1
   have h1:Yc ((s[k]'hlt).toNat:Int)=false:=V.letterB_high _ (by omega)
   have h2:vo ((s[k]'hlt).toNat:Int)=false:=V.digitB_high _ (by omega)
   have H1:=Go.Lib.hid h1
   have H2:=Go.Lib.hid h2
   clear h1 h2
   have Hf:RowKit.Hid (Kx 0 s.data.toList=false):=by
    have e:=Hn.out
    rw [Hs.out,H1.out,H2.out] at e
    exact Go.Lib.hid (by simpa using e)
   by_cases hz:k=0
   ·subst hz
    go_wp2_with (go_at_call 87;refine (V.letter_same _ _).mono ?_;rintro e w' ⟨rfl,rfl⟩;rw [V.letterB_high _ (by omega)])
    go_ret
    exact ⟨V.ret_bool (by rw [Hf.out]),(Below.refl _ _).alloc (Aj _) _⟩
   have hz':((k:Int)==0)=false:=by rw [beq_eq_false_iff_ne];omega
   go_wp2_with (first | (go_at_call 87;refine (V.letter_same _ _).mono ?_;rintro e w' ⟨rfl,rfl⟩;rw [V.letterB_high _ (by omega)]) | (go_at_call 88;refine (V.digit_same _ _).mono ?_;rintro e w' ⟨rfl,rfl⟩;rw [V.digitB_high _ (by omega)]))
   go_ret
   exact ⟨V.ret_bool (by rw [Hf.out]),(Below.refl _ _).alloc (Aj _) _⟩
  have hnx:∀ty,(Instr.next (.pointer (some ⟨w.heap.size,0,none⟩)) true ty).run Tryz.prog (w.iter s k)=_:=fun ty=>run_next_end w s k ty hlt
  have He:=Go.Lib.hid (V.namedFrom_end s k hlt)
  go_wp2
  go_ret
  exact ⟨V.ret_bool (by rw [Hn.out,He.out]),(Below.refl _ _).alloc (Aj _) _⟩
theorem V.valid_no0 (s:ByteArray) (w:World) (h:s.size=0):Calls Tryz.prog 143 #[.string s] w fun e w'=>e= .returned (.bool false)∧w=w':=by
 have he : s.toList.isEmpty=true:=by
  rw [ByteArray.toList_eq]
  cases hl:s.data.toList with
  | nil=>rfl
  | cons _ _ => have:=V.len_bytes s
                rw [hl] at this
                simp at this
                omega
 have he2:s.toList= []:=List.isEmpty_iff.1 he
 clear h
 go_enter Tryz.func143,Tryz.ntmps143
 go_wp2
 go_ret
 exact ⟨rfl,rfl⟩
theorem V.valid_no1 (s:ByteArray) (w:World) (h:32 < s.size):Calls Tryz.prog 143 #[.string s] w fun e w'=>e= .returned (.bool false)∧w=w':=by
 have he : s.toList.isEmpty=false:=by
  rw [ByteArray.toList_eq]
  cases hl:s.data.toList with
  | nil => have:=V.len_bytes s
           rw [hl] at this
           simp at this
           omega
  | cons _ _=>rfl
 have he2:s.toList≠ []:=by
  intro h
  rw [h] at he
  cases he
 have h3:decide (32 < (s.size:Int))=true:=decide_eq_true (by omega)
 go_enter Tryz.func143,Tryz.ntmps143
 go_wp2
 go_ret
 exact ⟨rfl,rfl⟩
theorem V.valid_no2 (s:ByteArray) (w:World) (h0:0 < s.size) (h1:s.size≤32) (h2:qfa s.data.toList=true):Calls Tryz.prog 143 #[.string s] w fun e w'=>e= .returned (.bool false)∧w=w':=by
 have he : s.toList.isEmpty=false:=by
  rw [ByteArray.toList_eq]
  cases hl:s.data.toList with
  | nil => have:=V.len_bytes s
           rw [hl] at this
           simp at this
           omega
  | cons _ _=>rfl
 have he2:s.toList≠ []:=by
  intro h
  rw [h] at he
  cases he
 have H2:=Go.Lib.hid h2
 clear h2
 go_enter Tryz.func143,Tryz.ntmps143
 go_wp2_with (go_at_call 173;refine (V.keyword_same _ _).mono ?_;rintro e w' ⟨rfl,rfl⟩;rw [H2.out])
 go_ret
 exact ⟨rfl,rfl⟩
def V.f (a0:ByteArray):Option Bool:=some (qal a0.data.toList)
theorem V.calls (a0:ByteArray) (r:Bool) (w:World) (h:V.f a0=some r):Calls Tryz.prog 143 #[.string a0] w fun e w'=>e= .returned (.bool r)∧Below w.heap.size w w':=by
 obtain rfl:=Bh h
 clear h
 have hl:=V.len_bytes a0
 have hne:a0.data.toList.isEmpty=decide (a0.size=0):=by
  rw [←hl]
  cases a0.data.toList <;> simp
 by_cases h0:a0.size=0
 ·refine (V.valid_no0 a0 w h0).mono ?_
  rintro e w' ⟨rfl,rfl⟩
  exact ⟨V.ret_bool (by simp [qal,hne,h0]),Below.refl _ _⟩
 by_cases h1:a0.size≤32
 ·cases h2:qfa a0.data.toList with
  | true=>
    refine (V.valid_no2 a0 w (by omega) h1 h2).mono ?_
    rintro e w' ⟨rfl,rfl⟩
    exact ⟨V.ret_bool (by simp [qal,h2]),Below.refl _ _⟩
  | false=>
    refine (V.valid_ok a0 w (by omega) h1 h2).mono ?_
    rintro e w' ⟨rfl,hb⟩
    exact ⟨V.ret_bool (by unfold qal;rw [hl,hne,h2];simp [h0,h1]),hb⟩
 refine (V.valid_no1 a0 w (by omega)).mono ?_
 rintro e w' ⟨rfl,rfl⟩
 exact ⟨V.ret_bool (by unfold qal;rw [hl];simp [h1]),Below.refl _ _⟩
end XValid
theorem qpe (s:ByteArray):Fn Tryz.prog G 143 [.str s] (.bool (qal s.data.toList)):=
 qcd (fun vs w=>by simp) fun w S β n vs hv=>by
  rw [qtd hv]
  refine (XValid.V.calls s _ w rfl).mono ?_
  rintro e w' ⟨rfl,hb⟩
  exact ⟨⟨_,rfl,fun _ _ _=> .bool _⟩,hb⟩
namespace XInteger
set_option maxHeartbeats 1000000
theorem V.len_bytes (s:ByteArray):s.data.toList.length=s.size:=AY
theorem V.ret_bool {a b:Bool} (h:a=b):Ending.returned (.bool a)= .returned (.bool b):=by rw [h]
theorem V.step (s:ByteArray) (k:Nat) (n:Int) (h:k < s.size):yj n (s.data.toList.drop k)=if vo (s.data.toList.getD k 0).toNat then yj (n*10+(((s.data.toList.getD k 0).toNat:Int) - 48)) (s.data.toList.drop (k+1)) else none:=by
 have hl:k < s.data.toList.length:=by rw [V.len_bytes];exact h
 rw [Be hl,Ax,Ak hl]
 rfl
theorem V.fin (s:ByteArray) (k:Nat) (n:Int) (h:¬k < s.size):yj n (s.data.toList.drop k)=some n:=by
 rw [AW (by rw [V.len_bytes];omega)]
 rfl
theorem V.pow (k:Nat) (h:k < 13):(10:Int) ^ k≤1000000000000:=by
 have:(10:Nat) ^ k≤10 ^ 12:=Nat.pow_le_pow_right (by decide) (by omega)
 have h2:((10 ^ k:Nat):Int)≤((10 ^ 12:Nat):Int):=Int.ofNat_le.2 this
 simpa using h2
theorem V.below (w:World) (s:ByteArray):Below w.heap.size w (Lib.bytesWorld w 5 s):=by
 exact ⟨rfl,rfl,rfl,by rw [Lib.bytesWorld_size];omega,fun i hi=>Lib.bytesWorld_at_old w _ s i (by omega)⟩
def V.R (s:ByteArray):Bool:=match yj 0 s.data.toList with | some n=>decide (n≤1000000000000) | none=>false
set_option maxHeartbeats 1000000 in
theorem V.ok (s:ByteArray) (w:World) (h0:0 < s.size) (h1:s.size≤13) (h2:1 < s.size→(((s[0]'h0).toNat:Int)==48)=false):
 Calls Tryz.prog 144 #[.string s] w fun e w'=>e= .returned (.bool (V.R s))∧Below w.heap.size w w':=by
 have he2:s.toList≠ []:=by
  intro h
  rw [ByteArray.toList_eq] at h
  have:=V.len_bytes s
  rw [h] at this
  simp at this
  omega
 have he:s.toList.isEmpty=false:=by
  cases h:s.toList with
  | nil=>exact absurd h he2
  | cons _ _=>rfl
 have hconv:=Lib.run_convert_string_bytes (P:=Tryz.prog) w 9 84 5 s Tryz.underlying9 Tryz.underlying84 Tryz.underlying5
 have hd1:decide (13 < (s.size:Int))=false:=decide_eq_false (by omega)
 have hB:Below w.heap.size w (Lib.bytesWorld w 5 s):=V.below w s
 have hz:=Lib.bytesWorld_size w 5 s
 by_cases hg:1 < s.size
 ·have h3:=h2 hg
  have hd2:decide (1 < (s.size:Int))=true:=decide_eq_true (by omega)
  clear h2
  go_enter Tryz.func144,Tryz.ntmps144
  go_wp2
  go_loop [3,26] (fun n i=>∃(k:Nat) (m:Int),k≤s.size∧i= .int .i64 k∧n= .int .i64 m∧0≤m∧m < (10:Int) ^ k∧yj 0 s.data.toList=yj m (s.data.toList.drop k)) (fun _ i=>s.size - (intOf i).toNat)
  case atStart=>exact ⟨0,0,AD _,rfl,rfl,by omega,by decide,rfl⟩
  case round=>
   obtain ⟨k,m,hk,rfl,rfl,hm0,hm1,hv⟩:=hrel
   have Hv:=Go.Lib.hid hv
   clear hv
   by_cases hlt:k < s.size
   ·have hp:=V.pow k (by omega)
    have hm2:m < 1000000000000:=by omega
    have Hm:=Go.Lib.hid hm1
    have Hs:=Go.Lib.hid (V.step s k m hlt)
    clear hm1 hp
    have hc:=Lib.bytesWorld_cell w 5 s k hlt
    generalize hb:(s.data.toList.getD k 0).toNat=b at hc
    have hb2:b < 256:=by rw [←hb];exact UInt8.toNat_lt _
    rw [hb] at Hs
    clear hb
    by_cases h48:(b:Int) < 48
    ·go_wp2
     go_ret
     exact ⟨V.ret_bool (by unfold V.R;rw [Hv.out,Hs.out,if_neg (by simp [vo];omega)]),hB⟩
    by_cases h57:57 < (b:Int)
    ·go_wp2
     go_ret
     exact ⟨V.ret_bool (by unfold V.R;rw [Hv.out,Hs.out,if_neg (by simp [vo];omega)]),hB⟩
    go_wp2
    go_round
    case rel=>exact ⟨k+1,_,by omega,by go_num,rfl,by omega,by rw [Int.pow_succ];have:=Hm.out;omega,by rw [Hv.out,Hs.out,if_pos (by simp [vo];omega)]⟩
    case measure=>simp [intOf];omega
   have He:=Go.Lib.hid (V.fin s k m hlt)
   go_wp2
   go_ret
   exact ⟨V.ret_bool (by unfold V.R;rw [Hv.out,He.out]),hB⟩
 have hd2:decide (1 < (s.size:Int))=false:=decide_eq_false (by omega)
 clear h2
 go_enter Tryz.func144,Tryz.ntmps144
 go_wp2
 go_loop [3,26] (fun n i=>∃(k:Nat) (m:Int),k≤s.size∧i= .int .i64 k∧n= .int .i64 m∧0≤m∧m < (10:Int) ^ k∧yj 0 s.data.toList=yj m (s.data.toList.drop k)) (fun _ i=>s.size - (intOf i).toNat)
 case atStart=>exact ⟨0,0,AD _,rfl,rfl,by omega,by decide,rfl⟩
 case round=>
  obtain ⟨k,m,hk,rfl,rfl,hm0,hm1,hv⟩:=hrel
  have Hv:=Go.Lib.hid hv
  clear hv
  by_cases hlt:k < s.size
  ·have hp:=V.pow k (by omega)
   have hm2:m < 1000000000000:=by omega
   have Hm:=Go.Lib.hid hm1
   have Hs:=Go.Lib.hid (V.step s k m hlt)
   clear hm1 hp
   have hc:=Lib.bytesWorld_cell w 5 s k hlt
   generalize hb:(s.data.toList.getD k 0).toNat=b at hc
   have hb2:b < 256:=by rw [←hb];exact UInt8.toNat_lt _
   rw [hb] at Hs
   clear hb
   by_cases h48:(b:Int) < 48
   ·go_wp2
    go_ret
    exact ⟨V.ret_bool (by unfold V.R;rw [Hv.out,Hs.out,if_neg (by simp [vo];omega)]),hB⟩
   by_cases h57:57 < (b:Int)
   ·go_wp2
    go_ret
    exact ⟨V.ret_bool (by unfold V.R;rw [Hv.out,Hs.out,if_neg (by simp [vo];omega)]),hB⟩
   go_wp2
   go_round
   case rel=>exact ⟨k+1,_,by omega,by go_num,rfl,by omega,by rw [Int.pow_succ];have:=Hm.out;omega,by rw [Hv.out,Hs.out,if_pos (by simp [vo];omega)]⟩
   case measure=>simp [intOf];omega
  have He:=Go.Lib.hid (V.fin s k m hlt)
  go_wp2
  go_ret
  exact ⟨V.ret_bool (by unfold V.R;rw [Hv.out,He.out]),hB⟩
theorem V.no0 (s:ByteArray) (w:World) (h0:s.size=0):Calls Tryz.prog 144 #[.string s] w fun e w'=>e= .returned (.bool false)∧w=w':=by
 have he2:s.toList= []:=by
  rw [ByteArray.toList_eq]
  exact AZ.1 (by rw [V.len_bytes];exact h0)
 have he:s.toList.isEmpty=true:=by rw [he2];rfl
 clear h0
 go_enter Tryz.func144,Tryz.ntmps144
 go_wp2
 go_ret
 exact ⟨rfl,rfl⟩
theorem V.no1 (s:ByteArray) (w:World) (h1:13 < s.size):Calls Tryz.prog 144 #[.string s] w fun e w'=>e= .returned (.bool false)∧w=w':=by
 have he2:s.toList≠ []:=by
  intro h
  rw [ByteArray.toList_eq] at h
  have:=V.len_bytes s
  rw [h] at this
  simp at this
  omega
 have he:s.toList.isEmpty=false:=by
  cases h:s.toList with
  | nil=>exact absurd h he2
  | cons _ _=>rfl
 have hd1:decide (13 < (s.size:Int))=true:=decide_eq_true (by omega)
 go_enter Tryz.func144,Tryz.ntmps144
 go_wp2
 go_ret
 exact ⟨rfl,rfl⟩
theorem V.no2 (s:ByteArray) (w:World) (h1:s.size≤13) (hg:1 < s.size) (h3:(((s[0]'(by omega)).toNat:Int)==48)=true):Calls Tryz.prog 144 #[.string s] w fun e w'=>e= .returned (.bool false)∧w=w':=by
 have he2:s.toList≠ []:=by
  intro h
  rw [ByteArray.toList_eq] at h
  have:=V.len_bytes s
  rw [h] at this
  simp at this
  omega
 have he:s.toList.isEmpty=false:=by
  cases h:s.toList with
  | nil=>exact absurd h he2
  | cons _ _=>rfl
 have hd1:decide (13 < (s.size:Int))=false:=decide_eq_false (by omega)
 have hd2:decide (1 < (s.size:Int))=true:=decide_eq_true (by omega)
 go_enter Tryz.func144,Tryz.ntmps144
 go_wp2
 go_ret
 exact ⟨rfl,rfl⟩
def V.f (a0:ByteArray):Option Bool:=some (Qg a0.data.toList)
theorem V.calls (a0:ByteArray) (r:Bool) (w:World) (h:V.f a0=some r):Calls Tryz.prog 144 #[.string a0] w fun e w'=>e= .returned (.bool r)∧Below w.heap.size w w':=by
 obtain rfl:=Bh h
 clear h
 have hl:=V.len_bytes a0
 have hne:a0.data.toList.isEmpty=decide (a0.size=0):=by
  rw [←hl]
  cases a0.data.toList <;> simp
 by_cases h0:a0.size=0
 ·refine (V.no0 a0 w h0).mono ?_
  rintro e w' ⟨rfl,rfl⟩
  exact ⟨V.ret_bool (by simp [Qg,hne,h0]),Below.refl _ _⟩
 by_cases h1:a0.size≤13
 ·have hh:a0.data.toList.head? =some (a0[0]'(by omega)):=by
   have h3:0 < a0.data.toList.length:=by omega
   rw [List.head?_eq_getElem?,Ak h3]
   rfl
  by_cases hg:1 < a0.size∧(((a0[0]'(by omega)).toNat:Int)==48)=true
  ·refine (V.no2 a0 w h1 hg.1 hg.2).mono ?_
   rintro e w' ⟨rfl,rfl⟩
   have h4:(a0[0]'(by omega))=48:=by
    have:=beq_iff_eq.1 hg.2
    apply B8.1
    have h9:(a0[0]'(by omega)).toNat=48:=by omega
    rw [h9];rfl
   exact ⟨V.ret_bool (by unfold Qg;rw [hh,h4,hl];simp [hg.1]),Below.refl _ _⟩
  refine (V.ok a0 w (by omega) h1 (fun h5=>by
   cases h6:(((a0[0]'(by omega)).toNat:Int)==48) with
   | false=>rfl
   | true=>exact absurd ⟨h5,h6⟩ hg)).mono ?_
  rintro e w' ⟨rfl,hb⟩
  refine ⟨V.ret_bool ?_,hb⟩
  unfold Qg V.R
  rw [hne,hl,hh]
  have h7:(decide (1 < a0.size) && some (a0[0]'(by omega))==some 48)=false:=by
   rw [Bool.eq_false_iff]
   intro h8
   simp only [An,decide_eq_true_eq,beq_iff_eq,Ab] at h8
   exact hg ⟨h8.1,by rw [h8.2];rfl⟩
  rw [h7]
  simp only [h0,h1,decide_false,decide_true,Aa,Bv]
  cases yj 0 a0.data.toList <;> rfl
 refine (V.no1 a0 w (by omega)).mono ?_
 rintro e w' ⟨rfl,rfl⟩
 exact ⟨V.ret_bool (by unfold Qg;rw [hl];simp [h1]),Below.refl _ _⟩
end XInteger
theorem qnh (s:ByteArray):Fn Tryz.prog G 144 [.str s] (.bool (Qg s.data.toList)):=
 qcd (fun vs w=>by simp) fun w S β n vs hv=>by
  rw [qtd hv]
  refine (XInteger.V.calls s _ w rfl).mono ?_
  rintro e w' ⟨rfl,hb⟩
  exact ⟨⟨_,rfl,fun _ _ _=> .bool _⟩,hb⟩
end Go.Proofs.YtpnkemogepoioaaGreatDoorW.Ex.Gr
