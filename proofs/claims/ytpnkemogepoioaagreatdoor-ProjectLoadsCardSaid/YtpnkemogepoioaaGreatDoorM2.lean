/- Contract by hand: a part of a path. Conditions: those in each theorem. -/
import Derived.Test.YtpnkemogepoioaaGreatDoorSb
namespace Go.Proofs.YtpnkemogepoioaaGreatDoorW.Ex.Gr
open Go Go.Proofs.YtpnkemogepoioaaGreatDoorW.Ex Go.RowKit Go.Proofs.YtpnkemogepoioaaGreatDoorW.Plain
set_option linter.all false
set_option maxRecDepth 100000
variable {G:Nat→List AV}
def prtB (c:Int):Bool:=Yc c || vo c || decide (c=45) || decide (c=46)
def qi5 (l:List UInt8):Bool:= !(l.isEmpty || l== [46] || l== [46,46]) && l.all fun c=>prtB (c.toNat:Int)
namespace XPart
open XValid
theorem step (s:ByteArray) (k:Nat) (h:k < s.size):(s.data.toList.drop k).all (fun c=>prtB (c.toNat:Int))=(prtB (s[k]'h).toNat && (s.data.toList.drop (k+1)).all fun c=>prtB (c.toNat:Int)):=by
 have hl:k < s.data.toList.length:=by rw [V.len_bytes];exact h
 rw [Be hl]
 rfl
theorem done (s:ByteArray) (k:Nat) (h:¬k < s.size):(s.data.toList.drop k).all (fun c=>prtB (c.toNat:Int))=true:=by
 rw [AW (by rw [V.len_bytes];omega)]
 rfl
theorem part_no (s:ByteArray) (w:World) (h:(s.toList.isEmpty || s.toList== [46] || s.toList== [46,46])=true):Calls Tryz.prog 56 #[.string s] w fun e w'=>e= .returned (.bool false)∧w=w':=by
 by_cases h0:s.toList= []
 ·have h1:s.toList.isEmpty=true:=by rw [h0];rfl
  clear h
  go_enter Tryz.func56,Tryz.ntmps56
  go_wp2
  go_ret
  exact ⟨rfl,rfl⟩
 have h1:s.toList.isEmpty=false:=by cases hl:s.toList with | nil=>exact absurd hl h0 | cons _ _=>rfl
 by_cases h2:s.toList= [46]
 ·have h3:(s.toList== [46])=true:=by rw [h2];rfl
  clear h
  go_enter Tryz.func56,Tryz.ntmps56
  go_wp2
  go_ret
  exact ⟨rfl,rfl⟩
 have h3:(s.toList== [46])=false:=by rw [beq_eq_false_iff_ne];exact h2
 have h4:s.toList= [46,46]:=by simpa [h1,h3] using h
 have h5:(s.toList== [46,46])=true:=by rw [h4];rfl
 clear h
 go_enter Tryz.func56,Tryz.ntmps56
 go_wp2
 go_ret
 exact ⟨rfl,rfl⟩
set_option maxHeartbeats 2000000 in
theorem part_ok (s:ByteArray) (w:World) (h:(s.toList.isEmpty || s.toList== [46] || s.toList== [46,46])=false):
 Calls Tryz.prog 56 #[.string s] w fun e w'=>e= .returned (.bool (s.data.toList.all fun c=>prtB (c.toNat:Int)))∧Below w.heap.size w w':=by
 simp only [Bool.or_eq_false_iff] at h
 obtain ⟨⟨h1,h3⟩,h5⟩:=h
 have h0:s.toList≠ []:=by intro e;rw [e] at h1;cases h1
 have h2:s.toList≠ [46]:=by rwa [beq_eq_false_iff_ne] at h3
 have h4:s.toList≠ [46,46]:=by rwa [beq_eq_false_iff_ne] at h5
 go_enter Tryz.func56,Tryz.ntmps56
 go_wp2
 clear h0 h1 h2 h3 h4 h5
 go_loopw [] (fun w'=>∃k:Nat,k≤s.size∧w'=w.iter s k∧(s.data.toList.all fun c=>prtB (c.toNat:Int))=(s.data.toList.drop k).all fun c=>prtB (c.toNat:Int)) (fun w'=>s.size - w'.iterPos w.heap.size)
 case atStart=>exact ⟨0,AD _,rfl,rfl⟩
 case round=>
  obtain ⟨k,hk,rfl,hn⟩:=hrel
  have Hn:=Go.Lib.hid hn
  clear hn
  by_cases hlt:k < s.size
  ·have Hs:=Go.Lib.hid (step s k hlt)
   by_cases ha:(s[k]'hlt).toNat < 128
   ·have hnx:∀ty,(Instr.next (.pointer (some ⟨w.heap.size,0,none⟩)) true ty).run Tryz.prog (w.iter s k)=_:=fun ty=>run_next_ascii w s k ty hlt ha
    by_cases hL:Yc ((s[k]'hlt).toNat:Int)=true
    ·go_wp2_with (go_at_call 87;refine (V.letter_same _ _).mono ?_;rintro e w' ⟨rfl,rfl⟩;rw [hL])
     go_roundw
     case rel=>exact ⟨k+1,by omega,rfl,by rw [Hn.out,Hs.out,prtB,hL];simp⟩
     case measure=>simp;omega
    have hL':Yc ((s[k]'hlt).toNat:Int)=false:=by simpa using hL
    clear hL
    by_cases hD:vo ((s[k]'hlt).toNat:Int)=true
    ·go_wp2_with (first | (go_at_call 87;refine (V.letter_same _ _).mono ?_;rintro e w' ⟨rfl,rfl⟩;rw [hL']) | (go_at_call 88;refine (V.digit_same _ _).mono ?_;rintro e w' ⟨rfl,rfl⟩;rw [hD]))
     go_roundw
     case rel=>exact ⟨k+1,by omega,rfl,by rw [Hn.out,Hs.out,prtB,hL',hD];simp⟩
     case measure=>simp;omega
    have hD':vo ((s[k]'hlt).toNat:Int)=false:=by simpa using hD
    clear hD
    by_cases hA:((s[k]'hlt).toNat:Int)=45
    ·have hA2:(((s[k]'hlt).toNat:Int) !=45)=false:=by rw [hA];rfl
     have HA:=Go.Lib.hid (decide_eq_true hA)
     clear hA
     go_wp2_with (first | (go_at_call 87;refine (V.letter_same _ _).mono ?_;rintro e w' ⟨rfl,rfl⟩;rw [hL']) | (go_at_call 88;refine (V.digit_same _ _).mono ?_;rintro e w' ⟨rfl,rfl⟩;rw [hD']))
     go_roundw
     case rel=>exact ⟨k+1,by omega,rfl,by rw [Hn.out,Hs.out,prtB,HA.out];simp⟩
     case measure=>simp;omega
    have hA2:(((s[k]'hlt).toNat:Int) !=45)=true:=by rw [bne_iff_ne];exact hA
    by_cases hB:((s[k]'hlt).toNat:Int)=46
    ·have hB2:(((s[k]'hlt).toNat:Int) !=46)=false:=by rw [hB];rfl
     have HB:=Go.Lib.hid (decide_eq_true hB)
     clear hB
     go_wp2_with (first | (go_at_call 87;refine (V.letter_same _ _).mono ?_;rintro e w' ⟨rfl,rfl⟩;rw [hL']) | (go_at_call 88;refine (V.digit_same _ _).mono ?_;rintro e w' ⟨rfl,rfl⟩;rw [hD']))
     go_roundw
     case rel=>exact ⟨k+1,by omega,rfl,by rw [Hn.out,Hs.out,prtB,HB.out];simp⟩
     case measure=>simp;omega
    have hB2:(((s[k]'hlt).toNat:Int) !=46)=true:=by rw [bne_iff_ne];exact hB
    go_wp2_with (first | (go_at_call 87;refine (V.letter_same _ _).mono ?_;rintro e w' ⟨rfl,rfl⟩;rw [hL']) | (go_at_call 88;refine (V.digit_same _ _).mono ?_;rintro e w' ⟨rfl,rfl⟩;rw [hD']))
    go_ret
    exact ⟨V.ret_bool (by rw [Hn.out,Hs.out,prtB,hL',hD',decide_eq_false hA,decide_eq_false hB];rfl),(Below.refl _ _).alloc (Aj _) _⟩
   have hnx:∀ty,(Instr.next (.pointer (some ⟨w.heap.size,0,none⟩)) true ty).run Tryz.prog (w.iter s k)=_:=fun ty=>run_next_any w s k ty hlt
   have hr:=(decode_high s k hlt (by omega)).1
   have H1:=Go.Lib.hid (V.letterB_high ((s[k]'hlt).toNat:Int) (by omega))
   have H2:=Go.Lib.hid (V.digitB_high ((s[k]'hlt).toNat:Int) (by omega))
   have Hf:RowKit.Hid ((s.data.toList.all fun c=>prtB (c.toNat:Int))=false):=by
    have e:=Hn.out
    rw [Hs.out,prtB,H1.out,H2.out,decide_eq_false (by omega:¬((s[k]'hlt).toNat:Int)=45),decide_eq_false (by omega:¬((s[k]'hlt).toNat:Int)=46)] at e
    exact Go.Lib.hid (by simpa using e)
   have hA2:(((Utf8.decode s k).1:Int) !=45)=true:=by rw [bne_iff_ne];omega
   have hB2:(((Utf8.decode s k).1:Int) !=46)=true:=by rw [bne_iff_ne];omega
   go_wp2_with (first | (go_at_call 87;refine (V.letter_same _ _).mono ?_;rintro e w' ⟨rfl,rfl⟩;rw [V.letterB_high _ (by omega)]) | (go_at_call 88;refine (V.digit_same _ _).mono ?_;rintro e w' ⟨rfl,rfl⟩;rw [V.digitB_high _ (by omega)]))
   go_ret
   exact ⟨V.ret_bool (by rw [Hf.out]),(Below.refl _ _).alloc (Aj _) _⟩
  have hnx:∀ty,(Instr.next (.pointer (some ⟨w.heap.size,0,none⟩)) true ty).run Tryz.prog (w.iter s k)=_:=fun ty=>run_next_end w s k ty hlt
  have He:=Go.Lib.hid (done s k hlt)
  go_wp2
  go_ret
  exact ⟨V.ret_bool (by rw [Hn.out,He.out]),(Below.refl _ _).alloc (Aj _) _⟩
end XPart
theorem q15 (s:ByteArray):Fn Tryz.prog G 56 [.str s] (.bool (qi5 s.data.toList)):=
 qcd (fun vs w=>by simp) fun w S β n vs hv=>by
  rw [qtd hv]
  have e:s.data.toList=s.toList:=(ByteArray.toList_eq s).symm
  cases h:(s.toList.isEmpty || s.toList== [46] || s.toList== [46,46]) with
  | true=>
    refine (XPart.part_no s w h).mono ?_
    rintro e2 w' ⟨rfl,rfl⟩
    exact ⟨⟨_,rfl,fun _ _ _=>by rw [qi5,e,h];exact .bool _⟩,Below.refl _ _⟩
  | false=>
    refine (XPart.part_ok s w h).mono ?_
    rintro e2 w' ⟨rfl,hb⟩
    refine ⟨⟨_,rfl,fun _ _ _=> ?_⟩,hb⟩
    rw [show qi5 s.data.toList=s.data.toList.all (fun c=>prtB (c.toNat:Int)) by rw [qi5,e,h];rfl]
    exact .bool _
end Go.Proofs.YtpnkemogepoioaaGreatDoorW.Ex.Gr
