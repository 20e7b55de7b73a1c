/-
  Joined and packed by program.
-/
import Derived.Test.YtikbegmodacopaaGreatDoorQ10
import Derived.Test.YtikbegmodacopaaGreatDoorQ06
import Derived.Deep.CutRange
import Derived.Test.YtikbegmodacopaaGreatDoorQ08
namespace Go.Proofs.YtikbegmodacopaaGreatDoor
open Go.RowKit Go.PlainAid
set_option linter.unusedVariables false
set_option maxRecDepth 100000
def plainR (r:Int):Bool:=(decide (65≤r) && decide (r≤90)) || (decide (97≤r) && decide (r≤122))
theorem rdigit_any (x:Int) (w:World):Calls Tryz.prog 187 #[.int .u8 x] w fun e w'=>e=.returned (.bool (digR x))∧w'=w:=by
 rcases (show (x<48)∨(48≤x∧x≤57)∨(57<x) by omega) with a | ⟨a,b⟩ | a
 ·have e:digR x=false:=by unfold digR;simp;omega
  rw [e]
  clear e
  go_enter Tryz.func187,Tryz.ntmps187
  go_wp2
  go_ret
  exact ⟨by first | rfl | (simp;omega) | simp,rfl⟩
 ·have e:digR x=true:=by unfold digR;simp;omega
  rw [e]
  clear e
  go_enter Tryz.func187,Tryz.ntmps187
  go_wp2
  go_ret
  exact ⟨by first | rfl | (simp;omega) | simp,rfl⟩
 ·have e:digR x=false:=by unfold digR;simp;omega
  rw [e]
  clear e
  go_enter Tryz.func187,Tryz.ntmps187
  go_wp2
  go_ret
  exact ⟨by first | rfl | (simp;omega) | simp,rfl⟩
theorem rplain_any (x:Int) (w:World):Calls Tryz.prog 204 #[.int .u8 x] w fun e w'=>e=.returned (.bool (plainR x))∧w'=w:=by
 rcases (show (x<65)∨(65≤x∧x≤90)∨(90<x∧x<97)∨(97≤x∧x≤122)∨(122<x) by omega) with a | ⟨a,b⟩ | ⟨a,b⟩ | ⟨a,b⟩ | a
 ·have e:plainR x=false:=by unfold plainR;simp;omega
  rw [e]
  clear e
  go_enter Tryz.func204,Tryz.ntmps204
  go_wp2
  go_ret
  exact ⟨by first | rfl | (simp;omega) | simp,rfl⟩
 ·have e:plainR x=true:=by unfold plainR;simp;omega
  rw [e]
  clear e
  go_enter Tryz.func204,Tryz.ntmps204
  go_wp2
  go_ret
  exact ⟨by first | rfl | (simp;omega) | simp,rfl⟩
 ·have e:plainR x=false:=by unfold plainR;simp;omega
  rw [e]
  clear e
  go_enter Tryz.func204,Tryz.ntmps204
  go_wp2
  go_ret
  exact ⟨by first | rfl | (simp;omega) | simp,rfl⟩
 ·have e:plainR x=true:=by unfold plainR;simp;omega
  rw [e]
  clear e
  go_enter Tryz.func204,Tryz.ntmps204
  go_wp2
  go_ret
  exact ⟨by first | rfl | (simp;omega) | simp,rfl⟩
 ·have e:plainR x=false:=by unfold plainR;simp;omega
  rw [e]
  clear e
  go_enter Tryz.func204,Tryz.ntmps204
  go_wp2
  go_ret
  exact ⟨by first | rfl | (simp;omega) | simp,rfl⟩
def signZ (x:Int):Bool:=decide (32<x) && decide (x<127) && !digR x && !plainR x && !(decide (x=34) || decide (x=35) || decide (x=39) || decide (x=92) || decide (x=95) || decide (x=96))
theorem signZ_nat (c:Nat):signZ (c:Int)=signC c:=by
 unfold signZ signC digR plainR
 rw [Bool.eq_iff_iff]
 simp
 omega
set_option maxHeartbeats 1000000 in
theorem signByte_any (x:Int) (w:World):Calls Tryz.prog 186 #[.int .u8 x] w fun e w'=>e=.returned (.bool (signZ x))∧w'=w:=by
 have HD:=hide_ (fun W=>rdigit_any x W)
 have HL:=hide_ (fun W=>rplain_any x W)
 rcases (show (x≤32)∨(127≤x)∨(48≤x∧x≤57)∨((65≤x∧x≤90)∨(97≤x∧x≤122))∨x=34∨x=35∨x=39∨x=92∨x=95∨x=96∨(32<x∧x<127∧¬ (48≤x∧x≤57)∧¬ (65≤x∧x≤90)∧¬ (97≤x∧x≤122)∧x≠34∧x≠35∧x≠39∧x≠92∧x≠95∧x≠96) by omega) with a | a | a | a | rfl | rfl | rfl | rfl | rfl | rfl | a
 ·have e:signZ x=false:=by unfold signZ;simp;omega
  rw [e]
  have d1:decide (x≤32)=true:=decide_eq_true a
  clear e
  go_enter Tryz.func186,Tryz.ntmps186
  go_wp2
  go_ret
  exact ⟨rfl,rfl⟩
 ·have e:signZ x=false:=by unfold signZ;simp;omega
  rw [e]
  have d1:decide (x≤32)=false:=decide_eq_false (by omega)
  have d2:decide (127≤x)=true:=decide_eq_true a
  clear e
  go_enter Tryz.func186,Tryz.ntmps186
  go_wp2
  go_ret
  exact ⟨rfl,rfl⟩
 ·have hd:digR x=true:=by unfold digR;simp;omega
  have e:signZ x=false:=by unfold signZ;rw [hd];simp
  rw [e]
  rw [hd] at HD
  have d1:decide (x≤32)=false:=decide_eq_false (by omega)
  have d2:decide (127≤x)=false:=decide_eq_false (by omega)
  clear e hd
  go_enter Tryz.func186,Tryz.ntmps186
  go_wp2_with fail
  refine (HD.out _).mono ?_
  rintro e w2 ⟨rfl,rfl⟩
  go_wp2
  go_ret
  exact ⟨rfl,rfl⟩
 ·have hd:digR x=false:=by unfold digR;simp;omega
  have hl:plainR x=true:=by unfold plainR;simp;omega
  have e:signZ x=false:=by unfold signZ;rw [hl];simp
  rw [e]
  rw [hd] at HD
  rw [hl] at HL
  have d1:decide (x≤32)=false:=decide_eq_false (by omega)
  have d2:decide (127≤x)=false:=decide_eq_false (by omega)
  clear e hd hl a
  go_enter Tryz.func186,Tryz.ntmps186
  go_wp2_with fail
  refine (HD.out _).mono ?_
  rintro e w2 ⟨rfl,rfl⟩
  go_wp2_with fail
  refine (HL.out _).mono ?_
  rintro e w2 ⟨rfl,rfl⟩
  go_wp2
  go_ret
  exact ⟨rfl,rfl⟩
 ·rw [show digR 34=false from rfl] at HD
  rw [show plainR 34=false from rfl] at HL
  go_enter Tryz.func186,Tryz.ntmps186
  go_wp2_with fail
  refine (HD.out _).mono ?_
  rintro e w2 ⟨rfl,rfl⟩
  go_wp2_with fail
  refine (HL.out _).mono ?_
  rintro e w2 ⟨rfl,rfl⟩
  go_wp2
  go_ret
  exact ⟨rfl,rfl⟩
 ·rw [show digR 35=false from rfl] at HD
  rw [show plainR 35=false from rfl] at HL
  go_enter Tryz.func186,Tryz.ntmps186
  go_wp2_with fail
  refine (HD.out _).mono ?_
  rintro e w2 ⟨rfl,rfl⟩
  go_wp2_with fail
  refine (HL.out _).mono ?_
  rintro e w2 ⟨rfl,rfl⟩
  go_wp2
  go_ret
  exact ⟨rfl,rfl⟩
 ·rw [show digR 39=false from rfl] at HD
  rw [show plainR 39=false from rfl] at HL
  go_enter Tryz.func186,Tryz.ntmps186
  go_wp2_with fail
  refine (HD.out _).mono ?_
  rintro e w2 ⟨rfl,rfl⟩
  go_wp2_with fail
  refine (HL.out _).mono ?_
  rintro e w2 ⟨rfl,rfl⟩
  go_wp2
  go_ret
  exact ⟨rfl,rfl⟩
 ·rw [show digR 92=false from rfl] at HD
  rw [show plainR 92=false from rfl] at HL
  go_enter Tryz.func186,Tryz.ntmps186
  go_wp2_with fail
  refine (HD.out _).mono ?_
  rintro e w2 ⟨rfl,rfl⟩
  go_wp2_with fail
  refine (HL.out _).mono ?_
  rintro e w2 ⟨rfl,rfl⟩
  go_wp2
  go_ret
  exact ⟨rfl,rfl⟩
 ·rw [show digR 95=false from rfl] at HD
  rw [show plainR 95=false from rfl] at HL
  go_enter Tryz.func186,Tryz.ntmps186
  go_wp2_with fail
  refine (HD.out _).mono ?_
  rintro e w2 ⟨rfl,rfl⟩
  go_wp2_with fail
  refine (HL.out _).mono ?_
  rintro e w2 ⟨rfl,rfl⟩
  go_wp2
  go_ret
  exact ⟨rfl,rfl⟩
 ·rw [show digR 96=false from rfl] at HD
  rw [show plainR 96=false from rfl] at HL
  go_enter Tryz.func186,Tryz.ntmps186
  go_wp2_with fail
  refine (HD.out _).mono ?_
  rintro e w2 ⟨rfl,rfl⟩
  go_wp2_with fail
  refine (HL.out _).mono ?_
  rintro e w2 ⟨rfl,rfl⟩
  go_wp2
  go_ret
  exact ⟨rfl,rfl⟩
 ·have hd:digR x=false:=by unfold digR;simp;omega
  have hl:plainR x=false:=by unfold plainR;simp;omega
  have e:signZ x=true:=by unfold signZ;rw [hd,hl];simp;omega
  rw [e]
  rw [hd] at HD
  rw [hl] at HL
  have d1:decide (x≤32)=false:=decide_eq_false (by omega)
  have d2:decide (127≤x)=false:=decide_eq_false (by omega)
  have n1:(x != 34)=true:=bne_iff_ne.2 (by omega)
  have n2:(x != 35)=true:=bne_iff_ne.2 (by omega)
  have n3:(x != 39)=true:=bne_iff_ne.2 (by omega)
  have n4:(x != 92)=true:=bne_iff_ne.2 (by omega)
  have n5:(x != 95)=true:=bne_iff_ne.2 (by omega)
  have n6:(x != 96)=true:=bne_iff_ne.2 (by omega)
  clear e hd hl a
  go_enter Tryz.func186,Tryz.ntmps186
  go_wp2_with fail
  refine (HD.out _).mono ?_
  rintro e w2 ⟨rfl,rfl⟩
  go_wp2_with fail
  refine (HL.out _).mono ?_
  rintro e w2 ⟨rfl,rfl⟩
  go_wp2
  go_ret
  exact ⟨by simp,rfl⟩
set_option maxHeartbeats 1000000 in
theorem nameEnd_any (s:ByteArray) (i:Nat) (w:World) (hz:s.size≤140737488351232) (hi:i≤s.size) :
  Calls Tryz.prog 189 #[.string s,.int .i64 i] w fun e w'=>e=.returned (.int .i64 (nameE s i))∧w=w':=by
 have hbt:=get_bt s
 obtain ⟨R,hR⟩:∃ R,R=nameE s i:=⟨_,rfl⟩
 have HR:=hide_ hR
 rw [← hR]
 clear hR
 go_enter Tryz.func189,Tryz.ntmps189
 go_wp2
 go_loopw [1] (fun v wr=>∃ m:Nat,v=.int .i64 m∧m≤s.size∧Hid (R=nameE s m)∧w=wr) (fun v _=>s.size - (intOf v).toNat)
 case atStart=>exact ⟨i,rfl,hi,HR,rfl⟩
 case round =>
  clear HR
  obtain ⟨m,rfl,hm,HR,rfl⟩:=hrel
  by_cases hlt:m<s.size
  ·have hbm:=bt_eq s m hlt
   have hb0:=bt_nonneg s m
   have hb1:=bt_le s m
   by_cases hl:lost s m
   ·have HF:=hide_ (runeAt_lost s m w (by omega) hlt hl)
    have HRM:=hide_ (show R=m by
     rw [HR.out,nameE_stop]
     unfold cutR
     rw [if_pos hl]
     unfold namR letR digR
     simp
     omega)
    clear hl HR hbm
    go_wp2_with fail
    refine HF.out.mono ?_
    rintro e w2 ⟨rfl,rfl⟩
    go_wp2
    go_ret
    exact ⟨by rw [HRM.out];rfl,by trivial⟩
   ·have HF:=hide_ (runeAt_found s m w (by omega) hlt hl)
    have hfit:=cutN_fits s m hlt
    have hpos:=cutN_pos s m
    have HGO:=hide_ (fun h=>(HR.out).trans (nameE_step s m hlt h))
    have HST:=hide_ (fun h=>(HR.out).trans (nameE_stop s m h))
    have hr0:0≤cutR s m:=by unfold cutR;rw [if_neg hl];omega
    have hlow:=cutR_low s m
    have hhigh:=cutR_high s m
    obtain ⟨r,hr⟩:∃ r,r=cutR s m:=⟨_,rfl⟩
    obtain ⟨k,hk⟩:∃ k,k=cutN s m:=⟨_,rfl⟩
    rw [← hr] at HF HGO HST hr0 hlow hhigh
    rw [← hk] at HF HGO hfit hpos
    clear hr hk hl HR
    have hk0:((k:Int) == 0)=false:=by simp;omega
    have hku:k≤140737488351232:=by omega
    by_cases h192:192≤r
    ·have HG:=hide_ (HGO.out (by unfold namR letR;simp;omega))
     have d1:decide (r<192)=false:=decide_eq_false (by omega)
     clear HGO HST hlow hhigh hbm h192
     go_wp2_with fail
     refine HF.out.mono ?_
     rintro e w2 ⟨rfl,rfl⟩
     go_wp2
     go_roundw
     case rel=>exact ⟨m+k,by go_num,hfit,HG,by trivial⟩
     case measure=>simp [intOf];omega
    have d1:decide (r<192)=true:=decide_eq_true (by omega)
    have HPL:=hide_ (fun W=>rplain_any (bt s m) W)
    have HDG:=hide_ (fun W=>rdigit_any (bt s m) W)
    by_cases hpl:plainR (bt s m)=true
    ·have HG:=hide_ (HGO.out (by
      have:bn s m<128:=by unfold plainR at hpl;simp at hpl;omega
      rw [hlow this,← hbm]
      unfold plainR at hpl
      unfold namR letR
      simp at hpl ⊢
      omega))
     rw [hpl] at HPL
     clear HGO HST hlow hhigh hbm h192 hpl
     go_wp2_with fail
     refine HF.out.mono ?_
     rintro e w2 ⟨rfl,rfl⟩
     go_wp2_with fail
     refine (HPL.out _).mono ?_
     rintro e w2 ⟨rfl,rfl⟩
     go_wp2
     go_roundw
     case rel=>exact ⟨m+k,by go_num,hfit,HG,by trivial⟩
     case measure=>simp [intOf];omega
    rw [Bool.not_eq_true] at hpl
    rw [hpl] at HPL
    by_cases hdg:digR (bt s m)=true
    ·have HG:=hide_ (HGO.out (by
      have:bn s m<128:=by unfold digR at hdg;simp at hdg;omega
      rw [hlow this,← hbm]
      unfold namR
      rw [hdg]
      simp))
     rw [hdg] at HDG
     clear HGO HST hlow hhigh hbm h192 hpl hdg
     go_wp2_with fail
     refine HF.out.mono ?_
     rintro e w2 ⟨rfl,rfl⟩
     go_wp2_with fail
     refine (HPL.out _).mono ?_
     rintro e w2 ⟨rfl,rfl⟩
     go_wp2_with fail
     refine (HDG.out _).mono ?_
     rintro e w2 ⟨rfl,rfl⟩
     go_wp2
     go_roundw
     case rel=>exact ⟨m+k,by go_num,hfit,HG,by trivial⟩
     case measure=>simp [intOf];omega
    rw [Bool.not_eq_true] at hdg
    rw [hdg] at HDG
    by_cases h95:bn s m=95
    ·have HG:=hide_ (HGO.out (by
      rw [hlow (by omega),h95]
      rfl))
     have e95:(bt s m != 95)=false:=by rw [hbm];simp;omega
     clear HGO HST hlow hhigh hbm h192 hpl hdg h95
     go_wp2_with fail
     refine HF.out.mono ?_
     rintro e w2 ⟨rfl,rfl⟩
     go_wp2_with fail
     refine (HPL.out _).mono ?_
     rintro e w2 ⟨rfl,rfl⟩
     go_wp2_with fail
     refine (HDG.out _).mono ?_
     rintro e w2 ⟨rfl,rfl⟩
     go_wp2
     go_roundw
     case rel=>exact ⟨m+k,by go_num,hfit,HG,by trivial⟩
     case measure=>simp [intOf];omega
    ·have HRM:=hide_ (HST.out (by
      unfold namR letR digR
      unfold plainR at hpl
      unfold digR at hdg
      by_cases h128:bn s m<128
      ·rw [hlow h128,← hbm]
       simp at hpl hdg ⊢
       omega
      ·have:=hhigh (by omega)
       simp
       omega))
     have e95:(bt s m != 95)=true:=by rw [hbm];simp;omega
     clear HGO HST hlow hhigh hbm h192 hpl hdg h95
     go_wp2_with fail
     refine HF.out.mono ?_
     rintro e w2 ⟨rfl,rfl⟩
     go_wp2_with fail
     refine (HPL.out _).mono ?_
     rintro e w2 ⟨rfl,rfl⟩
     go_wp2_with fail
     refine (HDG.out _).mono ?_
     rintro e w2 ⟨rfl,rfl⟩
     go_wp2
     go_ret
     exact ⟨by rw [HRM.out];rfl,by trivial⟩
  ·have HRM:=hide_ (show R=m by rw [HR.out,nameE_ge s m (by omega)])
   clear HR
   go_wp2
   go_ret
   exact ⟨by rw [HRM.out];rfl,by trivial⟩
end Go.Proofs.YtikbegmodacopaaGreatDoor
namespace Go.Proofs.YtikbegmodacopaaGreatDoor
open Go.RowKit Go.PlainAid
set_option linter.unusedVariables false
set_option maxRecDepth 100000
set_option maxHeartbeats 4000000 in
theorem figureEnd_any (s:ByteArray) (i:Nat) (w:World) (hz:s.size≤140737488351232) (hi:i<s.size) :
  Calls Tryz.prog 188 #[.string s,.int .i64 i] w fun e w'=>e=.returned (.int .i64 (figE s i))∧w=w':=by
 have hbt:=get_bt s
 obtain ⟨X,hX⟩:∃ X,X=hexB s i:=⟨_,rfl⟩
 obtain ⟨R,hR⟩:∃ R,R=figE s i:=⟨_,rfl⟩
 have HFE:=hide_ (show R=figF s X (s.size - (i+1)) (i+1) by rw [hR,hX];rfl)
 rw [← hR]
 have HX:=hide_ hX
 clear hR hX
 have hbi:=bt_eq s i hi
 have hbj:i+1<s.size→bt s (i+1)=(bn s (i+1):Int):=fun h=>bt_eq s (i+1) h
 have HBI:=hide_ hbi
 have HBJ:=hide_ hbj
 clear hbi hbj
 go_enter Tryz.func188,Tryz.ntmps188
 go_upto_region 1 with (fail)
 go_cut [5] from 10 (fun x wx=>x=.bool X∧w=wx)
 case first =>
  by_cases h1:i+1<s.size
  ·by_cases h48:bn s i=48
   ·by_cases h120:bn s (i+1)=120
    ·have HE:=hide_ (show X=true by rw [HX.out];unfold hexB;rw [decide_eq_true h1,decide_eq_true h48,decide_eq_true h120];rfl)
     have e1:(bt s i == 48)=true:=by rw [HBI.out];simp;omega
     have e2:(bt s (i+1) == 120)=true:=by rw [HBJ.out h1];simp;omega
     clear h48 h120
     go_wp2
     go_meet
     exact ⟨by rw [HE.out],rfl⟩
    ·have HE:=hide_ (show X=decide (bn s (i+1)=88) by rw [HX.out];unfold hexB;rw [decide_eq_true h1,decide_eq_true h48,decide_eq_false h120];simp)
     have e1:(bt s i == 48)=true:=by rw [HBI.out];simp;omega
     have e2:(bt s (i+1) == 120)=false:=by rw [HBJ.out h1];simp;omega
     have e3:(bt s (i+1) == 88)=decide (bn s (i+1)=88):=by rw [HBJ.out h1,Bool.eq_iff_iff];simp;omega
     obtain ⟨q,hq⟩:∃ q,q=decide (bn s (i+1)=88):=⟨_,rfl⟩
     rw [← hq] at e3 HE
     clear h48 h120 hq
     go_wp2
     go_meet
     exact ⟨by rw [HE.out],rfl⟩
   ·have HE:=hide_ (show X=false by rw [HX.out];unfold hexB;rw [decide_eq_false h48];simp)
    have e1:(bt s i == 48)=false:=by rw [HBI.out];simp;omega
    clear h48
    go_wp2
    go_meet
    exact ⟨by rw [HE.out],rfl⟩
  ·have HE:=hide_ (show X=false by rw [HX.out];unfold hexB;rw [decide_eq_false h1];simp)
   go_wp2
   go_meet
   exact ⟨by rw [HE.out],rfl⟩
 case rest =>
  obtain ⟨rfl,rfl⟩:=hcut
  clear HX HBI HBJ
  go_wp2_with fail
  go_loopw [6] (fun k wr=>∃ m:Nat,k=.int .i64 m∧i<m∧m≤s.size∧Hid (R=figF s X (s.size - m) m)∧w=wr) (fun k _=>s.size - (intOf k).toNat)
  case atStart=>exact ⟨i+1,by go_num,by omega,by omega,HFE,rfl⟩
  case round =>
   clear HFE
   obtain ⟨m,rfl,him,hm,HF,rfl⟩:=hrel
   by_cases hlt:m<s.size
   ·obtain ⟨P,hP⟩:∃ P,P=powB X (bn s (m - 1)):=⟨_,rfl⟩
    have hst:=HF.out.trans (figF_step s X m hlt)
    unfold figS at hst
    rw [← hP] at hst
    have HG:=hide_ (fun h:(figB (bn s m) || (P && (decide (bn s m=43) || decide (bn s m=45))))=true=>hst.trans (if_pos h))
    have HN:=hide_ (fun h:(figB (bn s m) || (P && (decide (bn s m=43) || decide (bn s m=45))))=false=>hst.trans (if_neg (by rw [h];decide)))
    have HP:=hide_ hP
    have HLB:=hide_ (bt_eq s (m - 1) (by omega))
    have hm1:((m:Int) - 1)=((m - 1:Nat):Int):=by omega
    clear hst hP HF
    go_upto_region 6 with (fail)
    go_cut [8,9] from 37 to 99 (fun _ p wx=>p=.bool P∧w=wx)
    case first =>
     have f1:(bt s (m - 1) == 101)=decide (bn s (m - 1)=101):=by rw [HLB.out,Bool.eq_iff_iff];simp;omega
     have f2:(bt s (m - 1) == 69)=decide (bn s (m - 1)=69):=by rw [HLB.out,Bool.eq_iff_iff];simp;omega
     have f3:(bt s (m - 1) == 112)=decide (bn s (m - 1)=112):=by rw [HLB.out,Bool.eq_iff_iff];simp;omega
     have f4:(bt s (m - 1) == 80)=decide (bn s (m - 1)=80):=by rw [HLB.out,Bool.eq_iff_iff];simp;omega
     have HPP:=HP.out
     unfold powB at HPP
     obtain ⟨b1,hb1⟩:∃ b,b=decide (bn s (m - 1)=101):=⟨_,rfl⟩
     obtain ⟨b2,hb2⟩:∃ b,b=decide (bn s (m - 1)=69):=⟨_,rfl⟩
     obtain ⟨b3,hb3⟩:∃ b,b=decide (bn s (m - 1)=112):=⟨_,rfl⟩
     obtain ⟨b4,hb4⟩:∃ b,b=decide (bn s (m - 1)=80):=⟨_,rfl⟩
     rw [← hb1] at f1 HPP
     rw [← hb2] at f2 HPP
     rw [← hb3] at f3 HPP
     rw [← hb4] at f4 HPP
     have HQ:=hide_ HPP
     clear HPP hb1 hb2 hb3 hb4 HLB HP HG HN
     cases X
     ·cases b1 <;> cases b2
      all_goals
       go_wp2
       go_meet
       exact ⟨by rw [HQ.out];rfl,rfl⟩
     ·cases b3 <;> cases b4
      all_goals
       go_wp2
       go_meet
       exact ⟨by rw [HQ.out];rfl,rfl⟩
    case rest =>
     obtain ⟨rfl,rfl⟩:=hcut
     clear HP HLB hm1
     have hbm:=bt_eq s m hlt
     have hb0:=bt_nonneg s m
     have hb1:=bt_le s m
     have HDG:=hide_ (fun W=>rdigit_any (bt s m) W)
     have HPL:=hide_ (fun W=>rplain_any (bt s m) W)
     have hdg:digR (bt s m)=decide (48≤bn s m∧bn s m≤57):=by unfold digR;rw [hbm,Bool.eq_iff_iff];simp;omega
     have hpl:plainR (bt s m)=decide ((65≤bn s m∧bn s m≤90)∨(97≤bn s m∧bn s m≤122)):=by unfold plainR;rw [hbm,Bool.eq_iff_iff];simp;omega
     rw [hdg] at HDG
     rw [hpl] at HPL
     have hcl:=fig_class (bn s m) P
     rcases hcl with hc | hc | ⟨hc,rfl⟩ | ⟨hc,rfl⟩ | ⟨hc,rfl⟩ | ⟨hc,rfl⟩ | hc | hc | hc | hc | hc | hc
     all_goals
      first | (have d95:(bt s m != 95)=true:=by rw [hbm];simp;omega) | (have d95:(bt s m != 95)=false:=by rw [hbm];simp;omega)
      first | (have d46:(bt s m != 46)=true:=by rw [hbm];simp;omega) | (have d46:(bt s m != 46)=false:=by rw [hbm];simp;omega)
      first | (have d43:(bt s m == 43)=true:=by rw [hbm];simp;omega) | (have d43:(bt s m == 43)=false:=by rw [hbm];simp;omega)
      first | (have d45:(bt s m == 45)=true:=by rw [hbm];simp;omega) | (have d45:(bt s m == 45)=false:=by rw [hbm];simp;omega)
      first | rw [decide_eq_true (by omega)] at HDG | rw [decide_eq_false (by omega)] at HDG
      first | rw [decide_eq_true (by omega)] at HPL | rw [decide_eq_false (by omega)] at HPL
      first
       | have HST:=hide_ (HG.out (by unfold figB;simp;omega))
       | have HST:=hide_ (HN.out (by unfold figB;simp;omega))
      clear hdg hpl hc hbm HG HN
      go_wp2_with fail
      refine (HDG.out _).mono ?_
      rintro e w5 ⟨rfl,rfl⟩
      clear HDG
      first
       | (go_wp2_with fail;refine (HPL.out _).mono ?_;rintro e w6 ⟨rfl,rfl⟩;clear HPL;go_wp2)
       | go_wp2
      all_goals first
       | (go_roundw
          case rel=>(repeat apply Exists.intro);exact ⟨⟨m+1,by go_num,by omega,by omega,HST,by trivial⟩,rfl⟩
          case measure=>simp [intOf];omega)
       | (go_roundw
          case rel=>exact ⟨m+1,by go_num,by omega,by omega,HST,by trivial⟩
          case measure=>simp [intOf];omega)
       | (go_ret
          exact ⟨by rw [HST.out];rfl,by trivial⟩)
   ·have HR:=hide_ (show R=m by rw [HF.out,show s.size - m=0 by omega];rfl)
    clear HF
    go_wp2
    go_ret
    exact ⟨by rw [HR.out];rfl,by trivial⟩
def litZ (s:ByteArray) (i:Nat):Int:=match litE s i with | none => -1 | some e=>(e:Int)
theorem litZ_none (s:ByteArray) (i:Nat) (h:litE s i=none):litZ s i = -1:=by unfold litZ;rw [h]
theorem litZ_some (s:ByteArray) (i e:Nat) (h:litE s i=some e):litZ s i=e:=by unfold litZ;rw [h]
set_option maxHeartbeats 1000000 in
theorem litEnd_any (s:ByteArray) (i:Nat) (w:World) (hz:s.size≤140737488351232) (hi:i<s.size) (hq:bn s i=34∨bn s i=39) :
  Calls Tryz.prog 205 #[.string s,.int .i64 i,.int .u8 (bt s i)] w fun e w'=>e=.returned (.int .i64 (litZ s i))∧w=w':=by
 have hbt:=get_bt s
 obtain ⟨q,hqq⟩:∃ q,q=bn s i:=⟨_,rfl⟩
 have hbi:bt s i=(q:Int):=by rw [hqq];exact bt_eq s i hi
 have HL:=hide_ (show litE s i=litF s q (s.size - (i+1)) (i+1) by rw [hqq];rfl)
 rw [← hqq] at hq
 obtain ⟨R,hR⟩:∃ R,R=litE s i:=⟨_,rfl⟩
 obtain ⟨Z,hZ⟩:∃ Z,Z=litZ s i:=⟨_,rfl⟩
 rw [← hR] at HL
 have HN:=hide_ (show R=none→Z = -1 from fun h=>by rw [hZ,litZ_none s i (hR.symm.trans h)])
 have HS:=hide_ (show ∀ e:Nat,R=some e→Z=e from fun e h=>by rw [hZ,litZ_some s i e (hR.symm.trans h)])
 rw [← hZ,hbi]
 clear hqq hR hZ hbi
 go_enter Tryz.func205,Tryz.ntmps205
 go_wp2
 go_loopw [7] (fun k wr=>∃ m:Nat,k=.int .i64 m∧m≤s.size+1∧Hid (R=litF s q (s.size - m) m)∧w=wr) (fun k _=>s.size+1 - (intOf k).toNat)
 case atStart=>exact ⟨i+1,by go_num,by omega,HL,rfl⟩
 case round =>
  clear HL
  obtain ⟨m,rfl,hm,HL,rfl⟩:=hrel
  by_cases hlt:m<s.size
  ·have hbm:bt s m=(bn s m:Int):=bt_eq s m hlt
   have hstep:litF s q (s.size - m) m=(if bn s m=q then some (m+1) else if bn s m=92 then litF s q (s.size - (m+1)) (m+2) else if bn s m=10 then none else litF s q (s.size - (m+1)) (m+1)):=by rw [show s.size - m=(s.size - (m+1))+1 by omega,litF,if_pos hlt]
   by_cases c2:bn s m=92
   ·rw [if_neg (by omega),if_pos c2,litF_fuel s q _ (s.size - (m+2)) (m+2) (by omega) (by omega)] at hstep
    have HR:=hide_ (HL.out.trans hstep)
    have d2:(bt s m == 92)=true:=by rw [hbm];simp;omega
    clear HL hstep c2 hbm
    go_wp2
    go_roundw
    case rel=>exact ⟨m+2,by go_num,by omega,HR,by trivial⟩
    case measure=>simp [intOf];omega
   have d2:(bt s m == 92)=false:=by rw [hbm];simp;omega
   by_cases c3:bn s m=10
   ·rw [if_neg (by omega),if_neg c2,if_pos c3] at hstep
    have HR:=hide_ (HN.out (HL.out.trans hstep))
    have d3:(bt s m == 10)=true:=by rw [hbm];simp;omega
    clear HL hstep c2 c3 hbm
    go_wp2
    go_ret
    exact ⟨by rw [HR.out];rfl,by trivial⟩
   have d3:(bt s m == 10)=false:=by rw [hbm];simp;omega
   by_cases c1:bn s m=q
   ·rw [if_pos c1] at hstep
    have HR:=hide_ (HS.out (m+1) (HL.out.trans hstep))
    have d1:(bt s m == (q:Int))=true:=by rw [hbm];simp;omega
    clear HL hstep c1 c2 c3 hbm
    go_wp2
    go_ret
    exact ⟨by rw [HR.out];simp,by trivial⟩
   ·rw [if_neg c1,if_neg c2,if_neg c3] at hstep
    have HR:=hide_ (HL.out.trans hstep)
    have d1:(bt s m == (q:Int))=false:=by rw [hbm];simp;omega
    clear HL hstep c1 c2 c3 hbm
    go_wp2
    go_roundw
    case rel=>exact ⟨m+1,by go_num,by omega,HR,by trivial⟩
    case measure=>simp [intOf];omega
  ·have HR:=hide_ (HN.out (HL.out.trans (show litF s q (s.size - m) m=none by rw [show s.size - m=0 by omega];rfl)))
   clear HL
   go_wp2
   go_ret
   exact ⟨by rw [HR.out];rfl,by trivial⟩
def pasF (s:ByteArray):Nat→Nat→Nat
 | 0,i=>i
 | f+1,i=>if i<s.size then (if bn s i=9∨bn s i=13∨bn s i=32 then pasF s f (i+1) else if bn s i=35 then pasF s f (lineE s i) else i) else i
def pasE (s:ByteArray) (i:Nat):Nat:=pasF s (s.size - i) i
theorem pasF_fuel (s:ByteArray):∀ (f g i:Nat),s.size - i≤f→s.size - i≤g→pasF s f i=pasF s g i:=by
 intro f
 induction f with
 | zero =>
  intro g i hf _
  cases g with
  | zero=>rfl
  | succ g=>rw [pasF,pasF,if_neg (by omega)]
 | succ f ih =>
  intro g i hf hg
  cases g with
  | zero=>rw [pasF,pasF,if_neg (by omega)]
  | succ g =>
   rw [pasF,pasF]
   split
   ·rename_i hi
    split
    ·exact ih g _ (by omega) (by omega)
    ·split
     ·rename_i h35
      have:=lineE_lt s i hi h35
      exact ih g _ (by omega) (by omega)
     ·rfl
   ·rfl
theorem pasE_ge (s:ByteArray) (i:Nat) (h:s.size≤i):pasE s i=i:=by
 unfold pasE
 rw [pasF_fuel s _ 1 i (Nat.le_refl _) (by omega),pasF,if_neg (by omega)]
theorem pasE_blank (s:ByteArray) (i:Nat) (h:i<s.size) (hb:bn s i=9∨bn s i=13∨bn s i=32):pasE s i=pasE s (i+1):=by
 unfold pasE
 rw [pasF_fuel s _ ((s.size - (i+1))+1) i (Nat.le_refl _) (by omega),pasF,if_pos h,if_pos hb]
theorem pasE_note (s:ByteArray) (i:Nat) (h:i<s.size) (hb:bn s i=35):pasE s i=pasE s (lineE s i):=by
 have:=lineE_lt s i h hb
 unfold pasE
 rw [pasF_fuel s _ ((s.size - (i+1))+1) i (Nat.le_refl _) (by omega),pasF,if_pos h,if_neg (by omega),if_pos hb]
 exact pasF_fuel s _ _ _ (by omega) (by omega)
theorem pasE_stop (s:ByteArray) (i:Nat) (h35:bn s i≠35) (hb:¬ (bn s i=9∨bn s i=13∨bn s i=32)):pasE s i=i:=by
 unfold pasE
 rw [pasF_fuel s _ ((s.size - i)+1) i (Nat.le_refl _) (by omega),pasF]
 by_cases hl:i<s.size
 ·rw [if_pos hl,if_neg hb,if_neg h35]
 ·rw [if_neg hl]
theorem pasE_bd (s:ByteArray):∀ (f i:Nat),s.size - i≤f→i≤s.size→i≤pasE s i∧pasE s i≤s.size∧(pasE s i<s.size→bn s (pasE s i)≠35∧¬ (bn s (pasE s i)=9∨bn s (pasE s i)=13∨bn s (pasE s i)=32))∧∀ sg,toksAt s sg i=toksAt s sg (pasE s i):=by
 intro f
 induction f with
 | zero =>
  intro i hf hi
  rw [pasE_ge s i (by omega)]
  exact ⟨Nat.le_refl _,hi,fun h=>by omega,fun _=>rfl⟩
 | succ f ih =>
  intro i hf hi
  by_cases hlt:i<s.size
  ·by_cases hb:bn s i=9∨bn s i=13∨bn s i=32
   ·rw [pasE_blank s i hlt hb]
    obtain ⟨h1,h2,h3,h4⟩:=ih (i+1) (by omega) (by omega)
    exact ⟨by omega,h2,h3,fun sg=>(toksAt_blank s sg i hlt hb).trans (h4 sg)⟩
   by_cases h35:bn s i=35
   ·have hl:=lineE_lt s i hlt h35
    rw [pasE_note s i hlt h35]
    obtain ⟨h1,h2,h3,h4⟩:=ih (lineE s i) (by omega) (by omega)
    exact ⟨by omega,h2,h3,fun sg=>(toksAt_note s sg i hlt h35).trans (h4 sg)⟩
   ·rw [pasE_stop s i h35 hb]
    exact ⟨Nat.le_refl _,hi,fun _=>⟨h35,hb⟩,fun _=>rfl⟩
  ·rw [pasE_ge s i (by omega)]
   exact ⟨Nat.le_refl _,hi,fun h=>by omega,fun _=>rfl⟩
set_option maxHeartbeats 1000000 in
theorem passed_any (s:ByteArray) (i:Nat) (w:World) (hz:s.size≤140737488351232) (hi:i≤s.size) :
  Calls Tryz.prog 177 #[.string s,.int .i64 i] w fun e w'=>e=.returned (.int .i64 (pasE s i))∧w=w':=by
 have hbt:=get_bt s
 obtain ⟨R,hR⟩:∃ R,R=pasE s i:=⟨_,rfl⟩
 have HR:=hide_ hR
 rw [← hR]
 clear hR
 go_enter Tryz.func177,Tryz.ntmps177
 go_wp2
 go_loopw [1] (fun v wr=>∃ m:Nat,v=.int .i64 m∧m≤s.size∧Hid (R=pasE s m)∧w=wr) (fun v _=>s.size - (intOf v).toNat)
 case atStart=>exact ⟨i,rfl,hi,HR,rfl⟩
 case round =>
  clear HR
  obtain ⟨m,rfl,hm,HR,rfl⟩:=hrel
  by_cases hlt:m<s.size
  ·have hbm:=bt_eq s m hlt
   by_cases hb:bn s m=9∨bn s m=13∨bn s m=32
   ·have HX2:=hide_ (HR.out.trans (pasE_blank s m hlt hb))
    have hhb:bt s m=9∨bt s m=13∨bt s m=32:=by omega
    clear HR hb hbm
    rcases hhb with h9 | h9 | h9
    all_goals
     go_wp2
     go_roundw
     case rel=>exact ⟨m+1,by go_num,by omega,HX2,by trivial⟩
     case measure=>simp [intOf];omega
   have e9:(bt s m == 9)=false:=by rw [hbm];simp;omega
   have e13:(bt s m == 13)=false:=by rw [hbm];simp;omega
   have e32:(bt s m == 32)=false:=by rw [hbm];simp;omega
   by_cases h35:bn s m=35
   ·have e35:(bt s m != 35)=false:=by rw [hbm];simp;omega
    have hl:=lineE_lt s m hlt h35
    have HL:=hide_ (show lineF s (s.size - m) m=lineE s m from rfl)
    have hq1:=HR.out.trans (pasE_note s m hlt h35)
    obtain ⟨q,hq⟩:∃ q,q=lineE s m:=⟨_,rfl⟩
    rw [← hq] at hq1 hl HL
    have HQ:=hide_ hq1
    clear hq1 hq HR hbm h35 hb
    go_wp2
    go_loopw [1] (fun v wr=>∃ j:Nat,v=.int .i64 j∧m≤j∧j≤q∧Hid (lineF s (s.size - j) j=q)∧w=wr) (fun v _=>s.size - (intOf v).toNat)
    case atStart=>exact ⟨m,rfl,by omega,by omega,HL,rfl⟩
    case round =>
     clear HL
     obtain ⟨j,rfl,hj1,hj2,HJ,rfl⟩:=hrel
     by_cases hjk:j<s.size
     ·have hbj:=bt_eq s j hjk
      by_cases h10:bn s j=10
      ·have e10:(bt s j != 10)=false:=by rw [hbj];simp;omega
       have hjq:j=q:=by
        have:=HJ.out
        rw [show s.size - j=(s.size - (j+1))+1 by omega,lineF,if_pos (by omega),if_pos h10] at this
        exact this
       subst hjq
       clear hbj h10
       go_wp2
       go_roundw
       case rel=>exact ⟨j,rfl,by omega,HQ,by trivial⟩
       case measure=>simp [intOf];omega
      ·have e10:(bt s j != 10)=true:=by rw [hbj];simp;omega
       have HJ2:=hide_ (show lineF s (s.size - (j+1)) (j+1)=q by
        have:=HJ.out
        rw [show s.size - j=(s.size - (j+1))+1 by omega,lineF,if_pos (by omega),if_neg h10] at this
        exact this)
       have hjq:j+1≤q:=by
        have:=lineF_bd s (s.size - (j+1)) (j+1) (by omega)
        have:=HJ2.out
        omega
       clear hbj h10 HJ
       go_wp2
       go_roundw
       case rel=>exact ⟨j+1,by go_num,by omega,by omega,HJ2,by trivial⟩
       case measure=>simp [intOf];omega
     ·have hjq:j=q:=by omega
      subst hjq
      go_wp2
      go_roundw
      case rel=>exact ⟨j,rfl,by omega,HQ,by trivial⟩
      case measure=>simp [intOf];omega
   ·have e35:(bt s m != 35)=true:=by rw [hbm];simp;omega
    have HRM:=hide_ (HR.out.trans (pasE_stop s m h35 hb))
    clear HR hbm h35 hb
    go_wp2
    go_ret
    exact ⟨by rw [HRM.out];rfl,by trivial⟩
  ·have HRM:=hide_ (HR.out.trans (pasE_ge s m (by omega)))
   clear HR
   go_wp2
   go_ret
   exact ⟨by rw [HRM.out];rfl,by trivial⟩
end Go.Proofs.YtikbegmodacopaaGreatDoor
namespace Go.Proofs.YtikbegmodacopaaGreatDoor
open Go.RowKit Go.PlainAid Go.BigFrame
set_option linter.unusedVariables false
set_option maxRecDepth 100000
def Drew (w w':World):Prop:=∃ k,w'=w.drewN k
theorem Drew.refl (w:World):Drew w w:=⟨0,rfl⟩
theorem Drew.more {w w':World} (h:Drew w w') (k:Nat):Drew w (w'.drewN k):=by
 obtain ⟨n,rfl⟩:=h
 exact ⟨n+k,World.drewN_drewN _ _ _⟩
theorem Drew.trans {a b c:World} (h:Drew a b) (k:Drew b c):Drew a c:=by
 obtain ⟨n,rfl⟩:=k
 exact h.more n
theorem Drew.cell {w w':World} (h:Drew w w') (p:Addr):w'.cell? p=w.cell? p:=by obtain ⟨n,rfl⟩:=h;rfl
theorem Drew.size {w w':World} (h:Drew w w'):w'.heap.size=w.heap.size:=by obtain ⟨n,rfl⟩:=h;rfl
theorem Drew.below {w w':World} (h:Drew w w') (B:Nat):Below B w w':=by obtain ⟨n,rfl⟩:=h;exact ⟨rfl,rfl,rfl,Nat.le_refl _,fun _ _=>rfl⟩
theorem toList_ne {a b:ByteArray} (h:a≠b):(a.toList == b.toList)=false:=by
 rw [beq_eq_false_iff_ne]
 intro h2
 rw [ByteArray.toList_eq,ByteArray.toList_eq] at h2
 exact h (ByteArray.ext (Array.toList_inj.1 h2))
theorem reads_strs {w:World} {B n:Nat} {A:Option Addr} {sg:List ByteArray} (hr:Reads w B 1 A n (sg.map Value.string)) (hn:0<n) :
  ∃ b o,A=some ⟨b,o,none⟩∧b<B∧∀ j g,sg[j]?=some g→w.cell? ⟨b,o+j,none⟩=some (.string g):=by
 obtain ⟨⟨b,o,sp⟩,rfl,hbk,hcl⟩:=hr.2 hn
 have hl:sg.length=n:=by have:=hr.1;simpa using this
 have hsp:sp=none:=by
  cases hs0:sg with
  | nil=>rw [hs0] at hl;simp at hl;omega
  | cons g0 r =>
   have h0:=hcl 0 (.string g0) (by rw [hs0];rfl)
   have:=World.cell?_spot h0
   simpa [Addr.add] using this
 subst hsp
 refine ⟨b,o,rfl,hbk,fun j g hg=>?_⟩
 have:=hcl j (.string g) (by rw [List.getElem?_map,hg];rfl)
 rw [← this]
 congr 1
 unfold Addr.add
 split <;> simp_all
set_option maxHeartbeats 2000000 in
theorem signAt_any (s:ByteArray) (i:Nat) (A:Option Addr) (n c B:Nat) (sg:List ByteArray) (w:World) (hz:s.size≤1048576) (hi:i<s.size) (hn:n≤1048576) (hsz:∀ g ∈ sg,g.size≤140737488351232) (hr:Reads w B 1 A n (sg.map Value.string)) (hB:B≤w.heap.size) :
  Calls Tryz.prog 191 #[.string s,.int .i64 i,.slice A n c] w fun e w'=>e=.returned (.string (signN s i sg))∧Drew w w':=by
 have hlen:sg.length=n:=by have:=hr.1;simpa using this
 have HR:=hide_ hr
 have HLEN:=hide_ hlen
 have HBB:=hide_ hB
 have HSZ:=hide_ hsz
 clear hr hlen hB hsz
 go_enter Tryz.func191,Tryz.ntmps191
 go_wp2
 go_loopw [7,8] (fun b k wr=>∃ m:Nat,m≤n∧k=.int .i64 m∧b=.string (signN s i (sg.take m))∧Drew w wr) (fun _ k _=>n - (intOf k).toNat)
 case atStart=>exact ⟨0,Nat.zero_le _,rfl,rfl,Drew.refl w⟩
 case round =>
  obtain ⟨m,hm,rfl,rfl,hd⟩:=hrel
  have HD:=hide_ hd
  by_cases hlt:m<n
  ·obtain ⟨g,hg⟩:∃ g,sg[m]?=some g:=⟨_,List.getElem?_eq_getElem (by have:=HLEN.out;omega)⟩
   obtain ⟨b,o,rfl,hbk,hcl⟩:=reads_strs HR.out (by omega)
   have hcm:wr.cell? ⟨b,o+m,none⟩=some (.string g):=(hd.cell _).trans (hcl m g hg)
   have hbs:b<wr.heap.size:=by rw [hd.size];have:=HBB.out;omega
   have hgs:g.size≤140737488351232:=HSZ.out g (List.mem_of_getElem? hg)
   have hst:=signN_take s i sg m g hg
   obtain ⟨bst,hbst⟩:∃ b,b=signN s i (sg.take m):=⟨_,rfl⟩
   rw [← hbst] at hst ⊢
   unfold bestS at hst
   have s1:IntKind.i64.wrap ((i:Int)+g.size)=(i:Int)+g.size:=IntWalk.i64_in _ (by omega)
   have s2:(0:Int)≤(i:Int)+g.size:=by omega
   have s3:((i:Int)+g.size).toNat=i+g.size:=by omega
   clear hcl hg hbst hd
   by_cases h1:bst.size<g.size
   ·have d1:decide (bst.size<g.size)=true:=decide_eq_true h1
    by_cases h2:i+g.size≤s.size
    ·have d2:decide ((i:Int)+g.size≤s.size)=true:=decide_eq_true (by omega)
     have d2':(i:Int)+g.size≤s.size:=by omega
     by_cases h3:s.extract i (i+g.size)=g
     ·rw [if_pos ⟨h1,h2,h3⟩] at hst
      have HST:=hide_ hst
      clear hst h1
      go_upto_region 6 with (fail)
      go_big_quiet (fail)
      go_wp2
      go_roundw
      case rel=>exact ⟨m+1,by omega,by go_num,by rw [HST.out],HD.out.more _⟩
      case measure=>simp [intOf];omega
     ·rw [if_neg (fun h=>h3 h.2.2)] at hst
      have HST:=hide_ hst
      have d3:=toList_ne h3
      clear hst h1 h3
      go_upto_region 6 with (fail)
      go_big_quiet (fail)
      go_wp2
      go_roundw
      case rel=>exact ⟨m+1,by omega,by go_num,by rw [HST.out],HD.out.more _⟩
      case measure=>simp [intOf];omega
    ·rw [if_neg (fun h=>h2 h.2.1)] at hst
     have HST:=hide_ hst
     have d2:decide ((i:Int)+g.size≤s.size)=false:=decide_eq_false (by omega)
     clear hst h1
     go_upto_region 6 with (fail)
     go_big_quiet (fail)
     go_wp2
     go_roundw
     case rel=>exact ⟨m+1,by omega,by go_num,by rw [HST.out],HD.out.more _⟩
     case measure=>simp [intOf];omega
   ·rw [if_neg (fun h=>h1 h.1)] at hst
    have HST:=hide_ hst
    have d1:decide (bst.size<g.size)=false:=by simpa using h1
    clear hst h1
    go_upto_region 6 with (fail)
    go_big_quiet (fail)
    go_wp2
    go_roundw
    case rel=>exact ⟨m+1,by omega,by go_num,by rw [HST.out],HD.out.more _⟩
    case measure=>simp [intOf];omega
  ·obtain rfl:m=n:=by omega
   have HT:=hide_ (show sg.take m=sg from List.take_of_length_le (by have:=HLEN.out;omega))
   clear hd
   go_wp2
   go_ret
   exact ⟨by rw [HT.out];rfl,HD.out⟩
theorem signC_all (g:ByteArray) (h:∀ t,t<g.size→signC (bn g t)=true):g.data.toList.all (fun b=>signC b.toNat)=true:=by
 rw [List.all_eq_true]
 intro x hx
 obtain ⟨t,ht,rfl⟩:=List.mem_iff_getElem.1 hx
 have ht':t<g.size:=by simpa using ht
 have:=h t ht'
 rw [← bn_eq g t ht'] at this
 have e:g.data.toList[t]=g[t]'ht':=by rw [Array.getElem_toList];rfl
 rw [e]
 exact this
theorem signC_not (g:ByteArray) (t:Nat) (ht:t<g.size) (h:signC (bn g t)=false):g.data.toList.all (fun b=>signC b.toNat)=false:=by
 rw [Bool.eq_false_iff]
 intro ha
 rw [List.all_eq_true] at ha
 have:=ha (g[t]) (by rw [List.mem_iff_getElem];exact ⟨t,by simpa using ht,by rw [Array.getElem_toList];rfl⟩)
 rw [← bn_eq g t ht] at h
 rw [h] at this
 cases this
set_option maxHeartbeats 2000000 in
theorem SignsMay_any (A:Option Addr) (n c B:Nat) (sg:List ByteArray) (w:World) (hn:n≤140737488351232) (hsz:∀ g ∈ sg,g.size≤140737488351232) (hr:Reads w B 1 A n (sg.map Value.string)) (hB:B≤w.heap.size) :
  Calls Tryz.prog 176 #[.slice A n c] w fun e w'=>e=.returned (.bool (signsOk sg))∧Drew w w':=by
 have hlen:sg.length=n:=by have:=hr.1;simpa using this
 by_cases hbig:64<n
 ·rw [signsOk_long sg (by omega)]
  have d0:decide (64<(n:Int))=true:=decide_eq_true (by omega)
  clear hlen hr
  go_enter Tryz.func176,Tryz.ntmps176
  go_wp2
  go_ret
  exact ⟨rfl,Drew.refl w⟩
 have HG:=hide_ (fun h=>signsOk_good sg (by omega) h)
 have HBAD:=hide_ (fun k hk h=>signsOk_bad sg k hk h)
 have d64:decide (64<(n:Int))=false:=decide_eq_false (by omega)
 obtain ⟨R,hR⟩:∃ R,R=signsOk sg:=⟨_,rfl⟩
 rw [← hR] at HG HBAD ⊢
 clear hR
 have HR:=hide_ hr
 have HLEN:=hide_ hlen
 have HBB:=hide_ hB
 have HSZ:=hide_ hsz
 clear hr hlen hB hsz
 go_enter Tryz.func176,Tryz.ntmps176
 go_wp2
 go_loopw [3] (fun k wr=>∃ m:Nat,m≤n∧k=.int .i64 m∧Hid (∀ j,j<m→signAtOk sg j=true)∧Drew w wr) (fun k _=>n - (intOf k).toNat)
 case atStart=>exact ⟨0,Nat.zero_le _,rfl,hide_ (fun j hj=>absurd hj (by omega)),Drew.refl w⟩
 case round =>
  obtain ⟨m,hm,rfl,HM,hd⟩:=hrel
  have HD:=hide_ hd
  by_cases hlt:m<n
  ·obtain ⟨g,hg⟩:∃ g,sg[m]?=some g:=⟨_,List.getElem?_eq_getElem (by have:=HLEN.out;omega)⟩
   obtain ⟨b,o,rfl,hbk,hcl⟩:=reads_strs HR.out (by omega)
   have hgd:sg.getD m ⟨#[]⟩=g:=by rw [List.getD_eq_getElem?_getD,hg];rfl
   have hgs:g.size≤140737488351232:=HSZ.out g (List.mem_of_getElem? hg)
   have HCL:=hide_ hcl
   have HGM:=hide_ hg
   have hcm:wr.cell? ⟨b,o+m,none⟩=some (.string g):=(hd.cell _).trans (hcl m g hg)
   have hbs:b<wr.heap.size:=by rw [hd.size];have:=HBB.out;omega
   have HSA:=hide_ (show signAtOk sg m=(signOk g && !(memB (sg.take m) g)) by unfold signAtOk;rw [hgd])
   have HBm:=hide_ (fun h=>HBAD.out m (by have:=HLEN.out;omega) h)
   clear hcl hgd hg hd
   by_cases h1:g.size<1
   ·have HRF:=hide_ (HBm.out (by rw [HSA.out];unfold signOk;rw [decide_eq_false (by omega:¬ 1≤g.size)];rfl))
    have d1:decide ((g.size:Int)<1)=true:=decide_eq_true (by omega)
    clear h1
    go_wp2
    go_ret
    exact ⟨by rw [HRF.out];rfl,HD.out⟩
   have d1:decide ((g.size:Int)<1)=false:=decide_eq_false (by omega)
   by_cases h3:3<g.size
   ·have HRF:=hide_ (HBm.out (by rw [HSA.out];unfold signOk;rw [decide_eq_false (by omega:¬ g.size≤3)];simp))
    have d3:decide (3<(g.size:Int))=true:=decide_eq_true (by omega)
    go_wp2
    go_ret
    exact ⟨by rw [HRF.out];rfl,HD.out⟩
   have d3:decide (3<(g.size:Int))=false:=decide_eq_false (by omega)
   have hbt:=get_bt g
   obtain ⟨W0,hW0⟩:∃ W0,W0=wr:=⟨_,rfl⟩
   rw [← hW0] at hcm hbs HD ⊢
   clear hW0
   go_wp2
   go_loopw [4] (fun k wr=>∃ j:Nat,j≤g.size∧k=.int .i64 j∧Hid (∀ t,t<j→signC (bn g t)=true)∧W0=wr) (fun k _=>g.size - (intOf k).toNat)
   case atStart=>exact ⟨0,Nat.zero_le _,rfl,hide_ (fun j hj=>absurd hj (by omega)),rfl⟩
   case round =>
    obtain ⟨j,hj,rfl,HJ,rfl⟩:=hrel
    by_cases hjl:j<g.size
    ·have HSB:=hide_ (fun W=>signByte_any (bt g j) W)
     have hbj:=bt_eq g j hjl
     have hb0:=bt_nonneg g j
     have hb1:=bt_le g j
     have hz:signZ (bt g j)=signC (bn g j):=by rw [hbj,signZ_nat]
     cases hc:signC (bn g j) with
     | true =>
      rw [hz,hc] at HSB
      have HJ2:=hide_ (show ∀ t,t<j+1→signC (bn g t)=true from fun t ht=>by
       rcases Nat.lt_or_ge t j with h | h
       ·exact HJ.out t h
       ·obtain rfl:t=j:=by omega
        exact hc)
      clear hz hc hbj HJ
      go_wp2_with fail
      refine (HSB.out _).mono ?_
      rintro e w2 ⟨rfl,rfl⟩
      go_wp2
      go_roundw
      case rel=>exact ⟨j+1,by omega,by go_num,HJ2,by trivial⟩
      case measure=>simp [intOf];omega
     | false =>
      rw [hz,hc] at HSB
      have HRF:=hide_ (HBm.out (by rw [HSA.out];unfold signOk;rw [signC_not g j hjl hc];simp))
      clear hz hc hbj HJ
      go_wp2_with fail
      refine (HSB.out _).mono ?_
      rintro e w2 ⟨rfl,rfl⟩
      go_wp2
      go_ret
      exact ⟨by rw [HRF.out];rfl,HD.out⟩
    ·obtain rfl:j=g.size:=by omega
     have HOK:=hide_ (show signOk g=true by
      unfold signOk
      rw [signC_all g HJ.out,decide_eq_true (by omega:1≤g.size),decide_eq_true (by omega:g.size≤3)]
      rfl)
     clear HJ
     go_wp2
     go_loopw [5] (fun k wr=>∃ j:Nat,j≤m∧k=.int .i64 j∧Hid (∀ t,t<j→sg[t]?≠some g)∧Drew W0 wr) (fun k _=>m - (intOf k).toNat)
     case atStart=>exact ⟨0,Nat.zero_le _,rfl,hide_ (fun j hj=>absurd hj (by omega)),Drew.refl W0⟩
     case round =>
      obtain ⟨j,hj,rfl,HJ,hd2⟩:=hrel
      have HD2:=hide_ (HD.out.trans hd2)
      have HDW:=hide_ hd2
      by_cases hjm:j<m
      ·obtain ⟨x,hx⟩:∃ x,sg[j]?=some x:=⟨_,List.getElem?_eq_getElem (by have:=HLEN.out;omega)⟩
       have hcx:wr.cell? ⟨b,o+j,none⟩=some (.string x):=(HD2.out.cell _).trans (HCL.out j x hx)
       have hcm2:wr.cell? ⟨b,o+m,none⟩=some (.string g):=(hd2.cell _).trans hcm
       have hbs2:b<wr.heap.size:=by rw [hd2.size];exact hbs
       by_cases hxg:x=g
       ·subst hxg
        have hmem:x ∈ sg.take m:=by
         refine List.mem_of_getElem? (i:=j) ?_
         rw [List.getElem?_take]
         rw [if_pos hjm]
         exact hx
        have HRF:=hide_ (HBm.out (by
         rw [HSA.out,(memB_iff (sg.take m) x).2 hmem]
         simp))
        clear hx HJ hd2 hmem
        go_upto_region 16 with (fail)
        go_big_quiet (fail)
        go_wp2
        go_ret
        exact ⟨by rw [HRF.out];rfl,HD2.out.more _⟩
       ·have HJ2:=hide_ (show ∀ t,t<j+1→sg[t]?≠some g from fun t ht=>by
         rcases Nat.lt_or_ge t j with h | h
         ·exact HJ.out t h
         ·obtain rfl:t=j:=by omega
          rw [hx]
          intro h2
          injection h2 with h2
          exact hxg h2)
        have dne:=toList_ne hxg
        clear hx HJ hd2 hxg
        go_upto_region 16 with (fail)
        go_big_quiet (fail)
        go_wp2
        go_roundw
        case rel=>exact ⟨j+1,by omega,by go_num,HJ2,HDW.out.more _⟩
        case measure=>simp [intOf];omega
      ·obtain rfl:j=m:=by omega
       have HNX:=hide_ (show signAtOk sg j=true by
        rw [HSA.out,HOK.out]
        have:memB (sg.take j) g=false:=by
         rw [Bool.eq_false_iff]
         intro h
         rw [memB_iff] at h
         obtain ⟨t,ht⟩:=List.mem_iff_getElem?.1 h
         rw [List.getElem?_take] at ht
         split at ht
         ·rename_i h9
          exact HJ.out t h9 ht
         ·cases ht
        rw [this]
        rfl)
       clear hd2
       go_wp2
       go_roundw
       case rel=>exact ⟨j+1,by omega,by go_num,hide_ (fun t ht=>by
        rcases Nat.lt_or_ge t j with h | h
        ·exact HM.out t h
        ·obtain rfl:t=j:=by omega
         exact HNX.out),HD2.out⟩
       case measure=>simp [intOf];omega
  ·obtain rfl:m=n:=by omega
   have HRT:=hide_ (HG.out (fun k hk=>HM.out k (by have:=HLEN.out;omega)))
   clear hd
   go_wp2
   go_ret
   exact ⟨by rw [HRT.out];rfl,HD.out⟩
end Go.Proofs.YtikbegmodacopaaGreatDoor
