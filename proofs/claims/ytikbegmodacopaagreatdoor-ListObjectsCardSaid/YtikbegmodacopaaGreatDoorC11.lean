/-
  Joined and packed by program.
-/
import Derived.Test.YtikbegmodacopaaGreatDoorC10
import Derived.Sort.WalkC
import Derived.Sort.WalkC4
import Derived.Sort.WalkD1
import Derived.Sort.WalkD2
import Derived.Sort.LotD4
import Derived.Deep.Cut
import Derived.Test.YtikbegmodacopaaGreatDoorC04
import Derived.Sort.Walk7a
import Derived.Sort.Walk7
import Derived.Sort.WalkA14
namespace Go.Proofs.YtikbegmodacopaaGreatDoor
open Go.RowKit Go.PlainAid Go.BigFrame
open Go.Sort (swp ltInt scanUp scanDown partLoop partition)
set_option linter.unusedSimpArgs false
set_option linter.unusedVariables false
set_option maxRecDepth 100000
set_option maxHeartbeats 4000000 in
theorem srt_part (B ix g c n a b pv:Nat) (rs:List Ro) (w wr:World) (d:Array Int) (r0:Ro) (h:SAt B ix g c n rs w wr d) (hr:rs[ix]?=some r0) (hap:a≤pv) (hpb:pv<b) (hb:b≤n) (hn:n<4611686018427387904) :
  Calls Tryz.prog 145 #[.slice (some ⟨g,0,none⟩) n c,.int .i64 a,.int .i64 b,.int .i64 pv] wr fun e w'=>e=.returned (.tuple #[.int .i64 ((partition ltInt d a b pv).1:Nat),.bool (partition ltInt d a b pv).2.1])∧SAt B ix g c n rs w w' (partition ltInt d a b pv).2.2:=by
 obtain ⟨x,hx⟩:∃ x,x=d[a]! := ⟨_,rfl⟩
 obtain ⟨y,hy⟩:∃ y,y=d[pv]! := ⟨_,rfl⟩
 have ca:=h.cell hr (t:=a) (by omega)
 have cp:=h.cell hr (t:=pv) (by omega)
 have fa:=h.frz hr a
 have fp:=h.frz hr pv
 rw [← hx] at ca
 rw [← hy] at cp
 obtain ⟨v',hy'⟩:=cell?_setCell_some (w:=wr) (p:=⟨g,a,none⟩) (x:=.int .u32 y) (q:=⟨g,pv,none⟩) cp
 have HSW:=hide_ (fun (W':World) (h:SAt B ix g c n rs w W' d)=>h.swap hr (j:=a) (k:=pv) (by omega) (by omega) hy hx)
 have HS:=hide_ h
 have HR:=hide_ hr
 clear h hr hx hy
 obtain ⟨d1,hd1⟩:∃ z,z=swp d a pv:=⟨_,rfl⟩
 rw [← hd1] at HSW
 have HDK:=hide_ hd1
 clear hd1
 obtain ⟨x1,hx1⟩:∃ x,x=d1[a]! := ⟨_,rfl⟩
 have HX1:=hide_ hx1
 clear hx1
 have b1:(b:Int) - 1=((b - 1:Nat):Int):=by omega
 go_enter Tryz.func145,Tryz.ntmps145
 go_wp2
 go_region
 go_wp2
 go_loopw [10] (fun vi W=>∃ p1:Nat,vi=.int .i64 p1∧a+1≤p1∧p1≤b - 1+1∧Hid (SAt B ix g c n rs w W d1)∧Hid (scanUp (fun x=>ltInt x d1[a]!) d1 (b - 1) p1=scanUp (fun x=>ltInt x d1[a]!) d1 (b - 1) (a+1))) (fun vi _=>(b - 1)+1 - (intOf vi).toNat)
 case atStart =>
  refine ⟨a+1,by first | rfl | go_num,Nat.le_refl _,by omega,?_,hide_ rfl⟩
  first
   | exact hide_ (HSW.out _ HS.out).drew
   | exact hide_ (HSW.out _ HS.out.drew)
 case round =>
  clear ca fa cp fp hy' HSW HS v'
  obtain ⟨p1,rfl,hip1,hpj1,HS1,HU1⟩:=hrel
  by_cases hle:p1≤b - 1
  ·obtain ⟨y11,hy1⟩:∃ x,x=d1[p1]! := ⟨_,rfl⟩
   have c0:=HS1.out.cell HR.out (t:=a) (by omega)
   have c1:=HS1.out.cell HR.out (t:=p1) (by omega)
   rw [← HX1.out] at c0
   rw [← hy1] at c1
   have HY11:=hide_ hy1
   clear hy1
   have gz:decide ((p1:Int)≤((b - 1:Nat):Int))=true:=decide_eq_true (by omega)
   go_wp2_with fail
   go_big_quiet (first | (go_at_call 143;refine Calls.quiet_of_same (srt_less _ _ _)))
   go_wp2
   ·have ht:ltInt y11 x1=true:=by assumption
    go_roundw
    case rel=>exact ⟨p1+1,by go_num,by omega,by omega,hide_ (HS1.out.drewN _),hide_ ((scanUp_go (fun x=>ltInt x d1[a]!) d1 (b - 1) p1 hle (by show ltInt d1[p1]! d1[a]! = true;rw [← HX1.out,← HY11.out];exact ht)).symm.trans HU1.out)⟩
    case measure=>simp [intOf] <;> omega
   ·have ht:ltInt y11 x1=false:=by assumption
    have HI21:=hide_ ((scanUp_end (fun x=>ltInt x d1[a]!) d1 (b - 1) p1 (.inr (by show ltInt d1[p1]! d1[a]! = false;rw [← HX1.out,← HY11.out];exact ht))).symm.trans HU1.out)
    have HS21:=hide_ (HS1.out.drewN nq)
    clear ht c0 c1 HS1 HU1
    go_loopw [11] (fun vj W=>∃ q1:Nat,vj=.int .i64 q1∧q1≤b - 1∧p1≤q1+1∧Hid (SAt B ix g c n rs w W d1)∧Hid (scanDown (fun x=>!ltInt x d1[a]!) d1 p1 q1=scanDown (fun x=>!ltInt x d1[a]!) d1 p1 (b - 1))) (fun vj _=>(intOf vj).toNat)
    case atStart=>exact ⟨b - 1,by first | rfl | go_num,Nat.le_refl _,hpj1,HS21,hide_ rfl⟩
    case round =>
     clear HS21
     obtain ⟨q1,rfl,hqj1,hpq1,HS1,HDN1⟩:=hrel
     by_cases hle2:p1≤q1
     ·obtain ⟨y21,hy2⟩:∃ x,x=d1[q1]! := ⟨_,rfl⟩
      obtain ⟨z21,hz2⟩:∃ x,x=d1[p1]! := ⟨_,rfl⟩
      have c0:=HS1.out.cell HR.out (t:=a) (by omega)
      have c1:=HS1.out.cell HR.out (t:=q1) (by omega)
      have c2:=HS1.out.cell HR.out (t:=p1) (by omega)
      have f1:=HS1.out.frz HR.out q1
      have f2:=HS1.out.frz HR.out p1
      rw [← HX1.out] at c0
      rw [← hy2] at c1
      rw [← hz2] at c2
      have HY21:=hide_ (And.intro hy2 hz2)
      clear hy2 hz2
      have gz2:decide ((p1:Int)≤(q1:Int))=true:=decide_eq_true (by omega)
      go_wp2_with fail
      go_big_quiet (first | (go_at_call 143;refine Calls.quiet_of_same (srt_less _ _ _)))
      go_wp2_with fail
      ·have ht:(!ltInt y21 x1)=true:=by assumption
       go_wp2
       go_roundw
       case rel=>exact ⟨q1 - 1,by go_num,by omega,by omega,hide_ (HS1.out.drewN _),hide_ ((scanDown_go (fun x=>!ltInt x d1[a]!) d1 p1 q1 hle2 (by omega) (by show (!ltInt d1[q1]! d1[a]!)=true;rw [← HX1.out,← HY21.out.1];exact ht)).symm.trans HDN1.out)⟩
       case measure=>simp [intOf] <;> omega
      ·have ht:(!ltInt y21 x1)=false:=by assumption
       have HJ21:=hide_ ((scanDown_end (fun x=>!ltInt x d1[a]!) d1 p1 q1 (.inr (by show (!ltInt d1[q1]! d1[a]!)=false;rw [← HX1.out,← HY21.out.1];exact ht))).symm.trans HDN1.out)
       have hlt1:p1<q1:=part_scans_lt ltInt a (a+1) (b - 1) d1 (by omega) HI21.out HJ21.out hle2
       have gz3:decide ((q1:Int)<(p1:Int))=false:=decide_eq_false (by omega)
       have gz4:¬ (q1:Int)<(p1:Int):=by omega
       have HSW1:=hide_ (fun (W':World) (h:SAt B ix g c n rs w W' d1)=>h.swap HR.out (j:=p1) (k:=q1) (by omega) (by omega) HY21.out.1 HY21.out.2)
       clear ht c0
       go_wp2_with fail
       go_region
       go_wp2
       have HGO:=hide_ (part_first_go ltInt d a b pv rfl rfl HDK.out HI21.out HJ21.out (by omega))
       go_loopw [10,11] (fun vi vj W=>∃ (i j:Nat) (dk:Array Int),vi=.int .i64 i∧vj=.int .i64 j∧a<i∧i≤j+1∧j<b∧Hid (SAt B ix g c n rs w W dk)∧Hid (partLoop ltInt a i j dk=partLoop ltInt a (p1+1) (q1 - 1) (swp d1 p1 q1))) (fun vi vj _=>(intOf vj).toNat+1 - (intOf vi).toNat)
       case atStart =>
        refine ⟨p1+1,q1 - 1,swp d1 p1 q1,by go_num,by go_num,by omega,by omega,by omega,?_,hide_ rfl⟩
        first
         | exact hide_ (HSW1.out _ (HS1.out.drewN _)).drew
         | exact hide_ (HSW1.out _ (HS1.out.drewN _))
         | exact hide_ (HSW1.out _ (HS1.out.drewN _).drew)
       case round =>
        clear HSW1 HS1 HX1
        obtain ⟨i,j,dk,rfl,rfl,hai,hij,hjb,HS2,HE2⟩:=hrel
        obtain ⟨x2,hx2⟩:∃ x,x=dk[a]! := ⟨_,rfl⟩
        have HX2:=hide_ hx2
        clear hx2
        go_wp2
        go_loopw [10] (fun vi W=>∃ p2:Nat,vi=.int .i64 p2∧i≤p2∧p2≤j+1∧Hid (SAt B ix g c n rs w W dk)∧Hid (scanUp (fun x=>ltInt x dk[a]!) dk (j) p2=scanUp (fun x=>ltInt x dk[a]!) dk (j) (i))) (fun vi _=>(j)+1 - (intOf vi).toNat)
        case atStart=>exact ⟨i,by first | rfl | go_num,Nat.le_refl _,by omega,HS2,hide_ rfl⟩
        case round =>
         clear HS2
         obtain ⟨p2,rfl,hip2,hpj2,HS2,HU2⟩:=hrel
         by_cases hle:p2≤j
         ·obtain ⟨y12,hy1⟩:∃ x,x=dk[p2]! := ⟨_,rfl⟩
          have c0:=HS2.out.cell HR.out (t:=a) (by omega)
          have c1:=HS2.out.cell HR.out (t:=p2) (by omega)
          rw [← HX2.out] at c0
          rw [← hy1] at c1
          have HY12:=hide_ hy1
          clear hy1
          have gz:decide ((p2:Int)≤(j:Int))=true:=decide_eq_true (by omega)
          go_wp2_with fail
          go_big_quiet (first | (go_at_call 143;refine Calls.quiet_of_same (srt_less _ _ _)))
          go_wp2
          ·have ht:ltInt y12 x2=true:=by assumption
           go_roundw
           case rel=>exact ⟨p2+1,by go_num,by omega,by omega,hide_ (HS2.out.drewN _),hide_ ((scanUp_go (fun x=>ltInt x dk[a]!) dk (j) p2 hle (by show ltInt dk[p2]! dk[a]! = true;rw [← HX2.out,← HY12.out];exact ht)).symm.trans HU2.out)⟩
           case measure=>simp [intOf] <;> omega
          ·have ht:ltInt y12 x2=false:=by assumption
           have HI22:=hide_ ((scanUp_end (fun x=>ltInt x dk[a]!) dk (j) p2 (.inr (by show ltInt dk[p2]! dk[a]! = false;rw [← HX2.out,← HY12.out];exact ht))).symm.trans HU2.out)
           have HS22:=hide_ (HS2.out.drewN nq)
           clear ht c0 c1 HS2 HU2
           go_loopw [11] (fun vj W=>∃ q2:Nat,vj=.int .i64 q2∧q2≤j∧p2≤q2+1∧Hid (SAt B ix g c n rs w W dk)∧Hid (scanDown (fun x=>!ltInt x dk[a]!) dk p2 q2=scanDown (fun x=>!ltInt x dk[a]!) dk p2 (j))) (fun vj _=>(intOf vj).toNat)
           case atStart=>exact ⟨j,by first | rfl | go_num,Nat.le_refl _,hpj2,HS22,hide_ rfl⟩
           case round =>
            clear HS22
            obtain ⟨q2,rfl,hqj2,hpq2,HS2,HDN2⟩:=hrel
            by_cases hle2:p2≤q2
            ·obtain ⟨y22,hy2⟩:∃ x,x=dk[q2]! := ⟨_,rfl⟩
             obtain ⟨z22,hz2⟩:∃ x,x=dk[p2]! := ⟨_,rfl⟩
             have c0:=HS2.out.cell HR.out (t:=a) (by omega)
             have c1:=HS2.out.cell HR.out (t:=q2) (by omega)
             have c2:=HS2.out.cell HR.out (t:=p2) (by omega)
             have f1:=HS2.out.frz HR.out q2
             have f2:=HS2.out.frz HR.out p2
             rw [← HX2.out] at c0
             rw [← hy2] at c1
             rw [← hz2] at c2
             have HY22:=hide_ (And.intro hy2 hz2)
             clear hy2 hz2
             have gz2:decide ((p2:Int)≤(q2:Int))=true:=decide_eq_true (by omega)
             go_wp2_with fail
             go_big_quiet (first | (go_at_call 143;refine Calls.quiet_of_same (srt_less _ _ _)))
             go_wp2_with fail
             ·have ht:(!ltInt y22 x2)=true:=by assumption
              go_wp2
              go_roundw
              case rel=>exact ⟨q2 - 1,by go_num,by omega,by omega,hide_ (HS2.out.drewN _),hide_ ((scanDown_go (fun x=>!ltInt x dk[a]!) dk p2 q2 hle2 (by omega) (by show (!ltInt dk[q2]! dk[a]!)=true;rw [← HX2.out,← HY22.out.1];exact ht)).symm.trans HDN2.out)⟩
              case measure=>simp [intOf] <;> omega
             ·have ht:(!ltInt y22 x2)=false:=by assumption
              have HJ22:=hide_ ((scanDown_end (fun x=>!ltInt x dk[a]!) dk p2 q2 (.inr (by show (!ltInt dk[q2]! dk[a]!)=false;rw [← HX2.out,← HY22.out.1];exact ht))).symm.trans HDN2.out)
              have hlt2:p2<q2:=part_scans_lt ltInt a (i) (j) dk (by omega) HI22.out HJ22.out hle2
              have gz3:decide ((q2:Int)<(p2:Int))=false:=decide_eq_false (by omega)
              have gz4:¬ (q2:Int)<(p2:Int):=by omega
              have HSW2:=hide_ (fun (W':World) (h:SAt B ix g c n rs w W' dk)=>h.swap HR.out (j:=p2) (k:=q2) (by omega) (by omega) HY22.out.1 HY22.out.2)
              clear ht c0
              go_wp2_with fail
              go_region
              go_wp2
              go_roundw
              case rel =>
               refine ⟨p2+1,q2 - 1,swp dk p2 q2,by go_num,by go_num,by omega,by omega,by omega,?_,hide_ ((part_go ltInt a i j dk HI22.out HJ22.out (by omega)).symm.trans HE2.out)⟩
               first
                | exact hide_ (HSW2.out _ (HS2.out.drewN _)).drew
                | exact hide_ (HSW2.out _ (HS2.out.drewN _))
                | exact hide_ (HSW2.out _ (HS2.out.drewN _).drew)
              case measure=>simp [intOf] <;> omega
            ·have gz2:decide ((p2:Int)≤(q2:Int))=false:=decide_eq_false (by omega)
             have HJ22:=hide_ ((scanDown_end (fun x=>!ltInt x dk[a]!) dk p2 q2 (.inl hle2)).symm.trans HDN2.out)
             have gz3:decide ((q2:Int)<(p2:Int))=true:=decide_eq_true (by omega)
             have gz4:(q2:Int)<(p2:Int):=by omega
             obtain ⟨y32,hy3⟩:∃ x,x=dk[q2]! := ⟨_,rfl⟩
             have c0:=HS2.out.cell HR.out (t:=a) (by omega)
             have c1:=HS2.out.cell HR.out (t:=q2) (by omega)
             have f0:=HS2.out.frz HR.out a
             have f1:=HS2.out.frz HR.out q2
             rw [← HX2.out] at c0
             rw [← hy3] at c1
             have HSZ2:=hide_ (fun (W':World) (h:SAt B ix g c n rs w W' dk)=>h.swap HR.out (j:=q2) (k:=a) (by omega) (by omega) HX2.out hy3)
             clear hy3
             go_wp2_with fail
             go_big_quiet (first | (go_at_call 143;refine Calls.quiet_of_same (srt_less _ _ _)))
             obtain ⟨v',hy'⟩:=cell?_setCell_some (w:=wr.drewN (nq+1)) (p:=⟨g,q2,none⟩) (x:=.int .u32 x2) (q:=⟨g,a,none⟩) c0
             go_wp2_with fail
             go_region
             go_wp2
             go_ret2
             rw [HGO.out,← HE2.out,part_break ltInt a i j dk HI22.out HJ22.out (by omega)]
             first
              | exact ⟨rfl,(HSZ2.out _ (HS2.out.drewN _)).drew⟩
              | exact ⟨rfl,HSZ2.out _ (HS2.out.drewN _)⟩
              | exact ⟨rfl,HSZ2.out _ (HS2.out.drewN _).drew⟩
         ·have gz:decide ((p2:Int)≤(j:Int))=false:=decide_eq_false (by omega)
          have HI22:=hide_ ((scanUp_end (fun x=>ltInt x dk[a]!) dk (j) p2 (.inl hle)).symm.trans HU2.out)
          go_wp2_with fail
          go_big_quiet (first | (go_at_call 143;refine Calls.quiet_of_same (srt_less _ _ _)))
          go_wp2
          have HS22:=hide_ (HS2.out.drewN nq)
          clear HS2 HU2
          go_loopw [11] (fun vj W=>∃ q2:Nat,vj=.int .i64 q2∧q2≤j∧p2≤q2+1∧Hid (SAt B ix g c n rs w W dk)∧Hid (scanDown (fun x=>!ltInt x dk[a]!) dk p2 q2=scanDown (fun x=>!ltInt x dk[a]!) dk p2 (j))) (fun vj _=>(intOf vj).toNat)
          case atStart=>exact ⟨j,by first | rfl | go_num,Nat.le_refl _,hpj2,HS22,hide_ rfl⟩
          case round =>
           clear HS22
           obtain ⟨q2,rfl,hqj2,hpq2,HS2,HDN2⟩:=hrel
           by_cases hle2:p2≤q2
           ·exact absurd (Nat.le_trans hle2 hqj2) hle
           ·have gz2:decide ((p2:Int)≤(q2:Int))=false:=decide_eq_false (by omega)
            have HJ22:=hide_ ((scanDown_end (fun x=>!ltInt x dk[a]!) dk p2 q2 (.inl hle2)).symm.trans HDN2.out)
            have gz3:decide ((q2:Int)<(p2:Int))=true:=decide_eq_true (by omega)
            have gz4:(q2:Int)<(p2:Int):=by omega
            obtain ⟨y32,hy3⟩:∃ x,x=dk[q2]! := ⟨_,rfl⟩
            have c0:=HS2.out.cell HR.out (t:=a) (by omega)
            have c1:=HS2.out.cell HR.out (t:=q2) (by omega)
            have f0:=HS2.out.frz HR.out a
            have f1:=HS2.out.frz HR.out q2
            rw [← HX2.out] at c0
            rw [← hy3] at c1
            have HSZ2:=hide_ (fun (W':World) (h:SAt B ix g c n rs w W' dk)=>h.swap HR.out (j:=q2) (k:=a) (by omega) (by omega) HX2.out hy3)
            clear hy3
            go_wp2_with fail
            go_big_quiet (first | (go_at_call 143;refine Calls.quiet_of_same (srt_less _ _ _)))
            obtain ⟨v',hy'⟩:=cell?_setCell_some (w:=wr.drewN (nq+1)) (p:=⟨g,q2,none⟩) (x:=.int .u32 x2) (q:=⟨g,a,none⟩) c0
            go_wp2_with fail
            go_region
            go_wp2
            go_ret2
            rw [HGO.out,← HE2.out,part_break ltInt a i j dk HI22.out HJ22.out (by omega)]
            first
             | exact ⟨rfl,(HSZ2.out _ (HS2.out.drewN _)).drew⟩
             | exact ⟨rfl,HSZ2.out _ (HS2.out.drewN _)⟩
             | exact ⟨rfl,HSZ2.out _ (HS2.out.drewN _).drew⟩
     ·have gz2:decide ((p1:Int)≤(q1:Int))=false:=decide_eq_false (by omega)
      have HJ21:=hide_ ((scanDown_end (fun x=>!ltInt x d1[a]!) d1 p1 q1 (.inl hle2)).symm.trans HDN1.out)
      have gz3:decide ((q1:Int)<(p1:Int))=true:=decide_eq_true (by omega)
      have gz4:(q1:Int)<(p1:Int):=by omega
      obtain ⟨y31,hy3⟩:∃ x,x=d1[q1]! := ⟨_,rfl⟩
      have c0:=HS1.out.cell HR.out (t:=a) (by omega)
      have c1:=HS1.out.cell HR.out (t:=q1) (by omega)
      have f0:=HS1.out.frz HR.out a
      have f1:=HS1.out.frz HR.out q1
      rw [← HX1.out] at c0
      rw [← hy3] at c1
      have HSZ1:=hide_ (fun (W':World) (h:SAt B ix g c n rs w W' d1)=>h.swap HR.out (j:=q1) (k:=a) (by omega) (by omega) HX1.out hy3)
      clear hy3
      go_wp2_with fail
      go_big_quiet (first | (go_at_call 143;refine Calls.quiet_of_same (srt_less _ _ _)))
      obtain ⟨v',hy'⟩:=cell?_setCell_some (w:=wr.drewN (nq+1)) (p:=⟨g,q1,none⟩) (x:=.int .u32 x1) (q:=⟨g,a,none⟩) c0
      go_wp2_with fail
      go_region
      go_wp2
      go_ret2
      rw [part_first_break ltInt d a b pv rfl rfl HDK.out HI21.out HJ21.out (by omega)]
      first
       | exact ⟨rfl,(HSZ1.out _ (HS1.out.drewN _)).drew⟩
       | exact ⟨rfl,HSZ1.out _ (HS1.out.drewN _)⟩
       | exact ⟨rfl,HSZ1.out _ (HS1.out.drewN _).drew⟩
  ·have gz:decide ((p1:Int)≤((b - 1:Nat):Int))=false:=decide_eq_false (by omega)
   have HI21:=hide_ ((scanUp_end (fun x=>ltInt x d1[a]!) d1 (b - 1) p1 (.inl hle)).symm.trans HU1.out)
   go_wp2_with fail
   go_big_quiet (first | (go_at_call 143;refine Calls.quiet_of_same (srt_less _ _ _)))
   go_wp2
   have HS21:=hide_ (HS1.out.drewN nq)
   clear HS1 HU1
   go_loopw [11] (fun vj W=>∃ q1:Nat,vj=.int .i64 q1∧q1≤b - 1∧p1≤q1+1∧Hid (SAt B ix g c n rs w W d1)∧Hid (scanDown (fun x=>!ltInt x d1[a]!) d1 p1 q1=scanDown (fun x=>!ltInt x d1[a]!) d1 p1 (b - 1))) (fun vj _=>(intOf vj).toNat)
   case atStart=>exact ⟨b - 1,by first | rfl | go_num,Nat.le_refl _,hpj1,HS21,hide_ rfl⟩
   case round =>
    clear HS21
    obtain ⟨q1,rfl,hqj1,hpq1,HS1,HDN1⟩:=hrel
    by_cases hle2:p1≤q1
    ·exact absurd (Nat.le_trans hle2 hqj1) hle
    ·have gz2:decide ((p1:Int)≤(q1:Int))=false:=decide_eq_false (by omega)
     have HJ21:=hide_ ((scanDown_end (fun x=>!ltInt x d1[a]!) d1 p1 q1 (.inl hle2)).symm.trans HDN1.out)
     have gz3:decide ((q1:Int)<(p1:Int))=true:=decide_eq_true (by omega)
     have gz4:(q1:Int)<(p1:Int):=by omega
     obtain ⟨y31,hy3⟩:∃ x,x=d1[q1]! := ⟨_,rfl⟩
     have c0:=HS1.out.cell HR.out (t:=a) (by omega)
     have c1:=HS1.out.cell HR.out (t:=q1) (by omega)
     have f0:=HS1.out.frz HR.out a
     have f1:=HS1.out.frz HR.out q1
     rw [← HX1.out] at c0
     rw [← hy3] at c1
     have HSZ1:=hide_ (fun (W':World) (h:SAt B ix g c n rs w W' d1)=>h.swap HR.out (j:=q1) (k:=a) (by omega) (by omega) HX1.out hy3)
     clear hy3
     go_wp2_with fail
     go_big_quiet (first | (go_at_call 143;refine Calls.quiet_of_same (srt_less _ _ _)))
     obtain ⟨v',hy'⟩:=cell?_setCell_some (w:=wr.drewN (nq+1)) (p:=⟨g,q1,none⟩) (x:=.int .u32 x1) (q:=⟨g,a,none⟩) c0
     go_wp2_with fail
     go_region
     go_wp2
     go_ret2
     rw [part_first_break ltInt d a b pv rfl rfl HDK.out HI21.out HJ21.out (by omega)]
     first
      | exact ⟨rfl,(HSZ1.out _ (HS1.out.drewN _)).drew⟩
      | exact ⟨rfl,HSZ1.out _ (HS1.out.drewN _)⟩
      | exact ⟨rfl,HSZ1.out _ (HS1.out.drewN _).drew⟩
end Go.Proofs.YtikbegmodacopaaGreatDoor
namespace Go.Proofs.YtikbegmodacopaaGreatDoor
open Go.RowKit Go.PlainAid Go.BigFrame
open Go.Sort (swp ltInt order2 median medianAdjacent choosePivot)
set_option linter.unusedSimpArgs false
set_option linter.unusedVariables false
set_option maxRecDepth 100000
def sbox (sb s:Nat):Ro:=⟨3,1,.slice (some ⟨sb,0,none⟩) 1 1,1,[.int .i64 (s:Int)]⟩
section
variable {B i g c n m sb s:Nat} {rs:List Ro} {w wr:World} {d:Array Int} {r0:Ro}
theorem sbox_at (hm:rs[m]?=some (sbox sb s)) (hne:m≠i) (r:Ro):(rs.set i r)[m]?=some (sbox sb s):=by
 rw [List.getElem?_set_ne (fun e=>hne e.symm)];exact hm
theorem SAt.boxc (h:SAt B i g c n rs w wr d) (hm:rs[m]?=some (sbox sb s)) (hne:m≠i):wr.cell? ⟨sb,0,none⟩=some (.int .i64 (s:Int)):=h.ow.cell (sbox_at hm hne _) rfl
theorem SAt.boxf (h:SAt B i g c n rs w wr d) (hm:rs[m]?=some (sbox sb s)) (hne:m≠i):wr.frozen? ⟨sb,0,none⟩=false:=h.ow.frozen (sbox_at hm hne _) 0
theorem SAt.boxset (h:SAt B i g c n rs w wr d) (hm:rs[m]?=some (sbox sb s)) (hne:m≠i) (s':Nat):SAt B i g c n (rs.set m (sbox sb s')) w (wr.setCell ⟨sb,0,none⟩ (.int .i64 (s':Int))) d:=by
 have hb:=(h.ow.base (sbox_at hm hne _)).1
 refine ⟨h.sz,?_,h.bl.setCell (p:=⟨sb,0,none⟩) hb _⟩
 have h1:=h.ow.store (sbox_at hm hne _) (j:=0) (by simp) (.int .i64 (s':Int))
 rw [List.set_comm _ _ (fun e=>hne e)]
 exact h1
theorem SAt.boxsame (h:SAt B i g c n rs w wr d) (hm:rs[m]?=some (sbox sb s)):SAt B i g c n (rs.set m (sbox sb s)) w wr d:=by
 have:rs.set m (sbox sb s)=rs:=by
  apply List.ext_getElem?
  intro j
  rw [List.getElem?_set]
  split
  ·rename_i e
   subst e
   rw [if_pos (List.getElem?_eq_some_iff.1 hm).1,hm]
  ·rfl
 rw [this]
 exact h
end
set_option maxHeartbeats 4000000 in
theorem srt_order2 (B i g c n a b m sb s:Nat) (rs:List Ro) (w wr:World) (d:Array Int) (r0:Ro) (h:SAt B i g c n rs w wr d) (hr:rs[i]?=some r0) (hm:rs[m]?=some (sbox sb s)) (hne:m≠i) (ha:a<n) (hb:b<n) (hn:n<4611686018427387904) (hs:s≤1000) :
  Calls Tryz.prog 180 #[.slice (some ⟨g,0,none⟩) n c,.int .i64 a,.int .i64 b,.pointer (some ⟨sb,0,none⟩)] wr fun e w'=>e=.returned (.tuple #[.int .i64 ((order2 ltInt d a b s).1:Nat),.int .i64 ((order2 ltInt d a b s).2.1:Nat)])∧SAt B i g c n (rs.set m (sbox sb (order2 ltInt d a b s).2.2)) w w' d:=by
 obtain ⟨x,hx⟩:∃ x,x=d[a]! := ⟨_,rfl⟩
 obtain ⟨y,hy⟩:∃ y,y=d[b]! := ⟨_,rfl⟩
 have c0:=h.cell hr (t:=a) ha
 have c1:=h.cell hr (t:=b) hb
 have cb:=h.boxc hm hne
 have fb:=h.boxf hm hne
 rw [← hx] at c0
 rw [← hy] at c1
 have HSAME:=hide_ (h.boxsame hm)
 have HSET:=hide_ (fun q=>(h.drewN q).boxset hm hne (s+1))
 have HO:=hide_ (show order2 ltInt d a b s=if ltInt y x then (b,a,s+1) else (a,b,s) by rw [hx,hy];rfl)
 clear h hr hm hx hy
 go_enter Tryz.func180,Tryz.ntmps180
 go_wp2_with fail
 go_big_quiet (first | (go_at_call 143;refine Calls.quiet_of_same (srt_less _ _ _)))
 go_wp2
 ·have hl:ltInt y x=true:=by assumption
  go_ret2
  rw [HO.out,if_pos hl]
  exact ⟨rfl,by first | exact HSET.out _ | (have:=HSET.out nq;simpa using this)⟩
 ·have hl:ltInt y x=false:=by assumption
  go_ret2
  rw [HO.out,if_neg (by rw [hl];exact Bool.false_ne_true)]
  exact ⟨rfl,HSAME.out.drewN _⟩
theorem ord_lt (d:Array Int) {a b n:Nat} (s:Nat) (ha:a<n) (hb:b<n):(order2 ltInt d a b s).1<n∧(order2 ltInt d a b s).2.1<n:=by unfold order2;split <;> simp <;> omega
theorem ord_sw (d:Array Int) (a b s:Nat):(order2 ltInt d a b s).2.2≤s+1:=by unfold order2;split <;> simp
set_option maxHeartbeats 4000000 in
theorem srt_median (B i g c n a b q m sb s:Nat) (rs:List Ro) (w wr:World) (d:Array Int) (r0:Ro) (h:SAt B i g c n rs w wr d) (hr:rs[i]?=some r0) (hm:rs[m]?=some (sbox sb s)) (hne:m≠i) (ha:a<n) (hb:b<n) (hq:q<n) (hn:n<4611686018427387904) (hs:s≤900) :
  Calls Tryz.prog 169 #[.slice (some ⟨g,0,none⟩) n c,.int .i64 a,.int .i64 b,.int .i64 q,.pointer (some ⟨sb,0,none⟩)] wr fun e w'=>e=.returned (.int .i64 ((median ltInt d a b q s).1:Nat))∧SAt B i g c n (rs.set m (sbox sb (median ltInt d a b q s).2)) w w' d:=by
 have HO:=hide_ (fun (a b s:Nat) (rs:List Ro) (W:World) (r0:Ro) (h:SAt B i g c n rs w W d) (hr:rs[i]?=some r0) (hm:rs[m]?=some (sbox sb s)) (ha:a<n) (hb:b<n) (hs:s≤1000)=>srt_order2 B i g c n a b m sb s rs w W d r0 h hr hm hne ha hb hn hs)
 obtain ⟨r1,h1⟩:∃ r,r=order2 ltInt d a b s:=⟨_,rfl⟩
 obtain ⟨r2,h2⟩:∃ r,r=order2 ltInt d r1.2.1 q r1.2.2:=⟨_,rfl⟩
 obtain ⟨r3,h3⟩:∃ r,r=order2 ltInt d r1.1 r2.1 r2.2.2:=⟨_,rfl⟩
 have l1:=ord_lt d s ha hb
 rw [← h1] at l1
 have l2:=ord_lt d r1.2.2 l1.2 hq
 rw [← h2] at l2
 have s1:=ord_sw d a b s
 rw [← h1] at s1
 have s2:=ord_sw d r1.2.1 q r1.2.2
 rw [← h2] at s2
 have HM:=hide_ (show median ltInt d a b q s=(r3.2.1,r3.2.2) by rw [h3,h2,h1];rfl)
 have C1:=HO.out a b s rs wr r0 h hr hm ha hb (by omega)
 rw [← h1] at C1
 have hlen:m<rs.length:=(List.getElem?_eq_some_iff.1 hm).1
 have at1:∀ (R:List Ro) (v:Nat),m<R.length→(R.set m (sbox sb v))[m]?=some (sbox sb v):=fun R v hl=>by rw [List.getElem?_set,if_pos rfl,if_pos hl]
 have at2:∀ (R:List Ro) (v:Nat),R[i]?=some r0→(R.set m (sbox sb v))[i]?=some r0:=fun R v hR=>by rw [List.getElem?_set_ne hne];exact hR
 have C2:=hide_ (fun (W:World) (h:SAt B i g c n (rs.set m (sbox sb r1.2.2)) w W d)=>by
  have:=HO.out r1.2.1 q r1.2.2 (rs.set m (sbox sb r1.2.2)) W r0 h (at2 _ _ hr) (at1 _ _ hlen) l1.2 hq (by omega)
  rw [← h2,List.set_set] at this
  exact this)
 have C3:=hide_ (fun (W:World) (h:SAt B i g c n (rs.set m (sbox sb r2.2.2)) w W d)=>by
  have:=HO.out r1.1 r2.1 r2.2.2 (rs.set m (sbox sb r2.2.2)) W r0 h (at2 _ _ hr) (at1 _ _ hlen) l1.1 l2.1 (by omega)
  rw [← h3,List.set_set] at this
  exact this)
 obtain ⟨p1,p2,p3⟩:=r1
 obtain ⟨q1,q2,q3⟩:=r2
 obtain ⟨t1,t2,t3⟩:=r3
 dsimp only at C1 C2 C3 HM
 have HC1:=hide_ C1
 clear C1 h1 h2 h3 l1 l2 s1 s2 h hr hm HO at1 at2 hlen
 go_enter Tryz.func169,Tryz.ntmps169
 go_wp2_with fail
 refine HC1.out.mono ?_
 rintro e w1 ⟨rfl,hs1⟩
 have HS1:=hide_ hs1
 clear hs1
 go_wp2_with fail
 refine (C2.out _ HS1.out).mono ?_
 rintro e w2 ⟨rfl,hs2⟩
 have HS2:=hide_ hs2
 clear hs2 HS1
 go_wp2_with fail
 refine (C3.out _ HS2.out).mono ?_
 rintro e w3 ⟨rfl,hs3⟩
 have HS3:=hide_ hs3
 clear hs3 HS2
 go_wp2
 go_ret
 rw [HM.out]
 exact ⟨rfl,HS3.out⟩
theorem srt_adj (B i g c n a m sb s:Nat) (rs:List Ro) (w wr:World) (d:Array Int) (r0:Ro) (h:SAt B i g c n rs w wr d) (hr:rs[i]?=some r0) (hm:rs[m]?=some (sbox sb s)) (hne:m≠i) (ha0:1≤a) (ha:a+1<n) (hn:n<4611686018427387904) (hs:s≤900) :
  Calls Tryz.prog 168 #[.slice (some ⟨g,0,none⟩) n c,.int .i64 a,.pointer (some ⟨sb,0,none⟩)] wr fun e w'=>e=.returned (.int .i64 ((medianAdjacent ltInt d a s).1:Nat))∧SAt B i g c n (rs.set m (sbox sb (medianAdjacent ltInt d a s).2)) w w' d:=by
 have hc:=srt_median B i g c n (a - 1) a (a+1) m sb s rs w wr d r0 h hr hm hne (by omega) (by omega) ha hn hs
 rw [show ((a - 1:Nat):Int)=(a:Int) - 1 by omega,show ((a+1:Nat):Int)=(a:Int)+1 by omega] at hc
 have HC:=hide_ hc
 clear hc h hr hm
 go_enter Tryz.func168,Tryz.ntmps168
 go_wp2_with fail
 refine HC.out.mono ?_
 rintro e w1 ⟨rfl,hs1⟩
 have HS1:=hide_ hs1
 clear hs1
 go_wp2
 go_ret
 exact ⟨rfl,HS1.out⟩
end Go.Proofs.YtikbegmodacopaaGreatDoor
namespace Go.Proofs.YtikbegmodacopaaGreatDoor
open Go.RowKit Go.PlainAid Go.BigFrame
open Go.Sort (swp ltInt order2 median medianAdjacent choosePivot rawPivot hintOf hintCode choosePivot_eq median_count medianAdjacent_count)
set_option linter.unusedSimpArgs false
set_option linter.unusedVariables false
set_option maxRecDepth 100000
section
variable {B i g c n sb s:Nat} {rs:List Ro} {w wr:World} {d:Array Int} {r0:Ro}
theorem SAt.openbox (h:SAt B i g c n rs w wr d) (hr:rs[i]?=some r0):SAt B i g c n (rs ++ [sbox wr.heap.size 0]) w (wr.alloc (.cells #[.int .i64 0] 3)) d:=by
 have hb:=h.base hr
 have hi:=(List.getElem?_eq_some_iff.1 hr).1
 refine ⟨h.sz,?_,h.bl.alloc (by omega) _⟩
 rw [List.set_append_left _ _ hi]
 exact h.ow.box 3 #[.int .i64 0] (by omega) (by simp [maxLen])
theorem SAt.closebox {x:Ro} (h:SAt B i g c n (rs ++ [x]) w wr d) (hr:rs[i]?=some r0):SAt B i g c n rs w wr d:=by
 have hi:=(List.getElem?_eq_some_iff.1 hr).1
 have h1:=h.ow
 rw [List.set_append_left _ _ hi] at h1
 exact ⟨h.sz,h1.sub (List.sublist_append_left _ _),h.bl⟩
theorem last_set (x y:Ro):(rs ++ [x]).set rs.length y=rs ++ [y]:=by
 rw [List.set_append_right _ _ (Nat.le_refl _),Nat.sub_self];rfl
end
theorem med_lt (d:Array Int) {a b c n:Nat} (s:Nat) (ha:a<n) (hb:b<n) (hc:c<n):(median ltInt d a b c s).1<n:=by
 unfold median
 have l1:=ord_lt d s ha hb
 have l2:=ord_lt d (order2 ltInt d a b s).2.2 l1.2 hc
 exact (ord_lt d _ l1.1 l2.1).2
set_option maxHeartbeats 2000000 in
theorem srt_pivot (B i g c n a L:Nat) (rs:List Ro) (w wr:World) (d:Array Int) (r0:Ro) (h:SAt B i g c n rs w wr d) (hr:rs[i]?=some r0) (hL:0<L) (hb:a+L≤n) (hn:n<4611686018427387904) :
  Calls Tryz.prog 140 #[.slice (some ⟨g,0,none⟩) n c,.int .i64 a,.int .i64 ((a+L:Nat):Int)] wr fun e w'=>e=.returned (.tuple #[.int .i64 ((choosePivot ltInt d a (a+L)).1:Nat),.int .i64 (hintCode (choosePivot ltInt d a (a+L)).2)])∧SAt B i g c n rs w w' d:=by
 have hi:=(List.getElem?_eq_some_iff.1 hr).1
 have hri:∀ x:Ro,(rs ++ [x])[i]?=some r0:=fun x=>by rw [List.getElem?_append_left hi];exact hr
 have hrm:∀ x:Ro,(rs ++ [x])[rs.length]?=some x:=fun x=>by simp
 have hne:rs.length≠i:=by omega
 obtain ⟨sb,hsb⟩:∃ k,k=wr.heap.size:=⟨_,rfl⟩
 obtain ⟨W1,hW1⟩:∃ W,W=wr.alloc (.cells #[.int .i64 0] 3):=⟨_,rfl⟩
 have HS:=hide_ (show SAt B i g c n (rs ++ [sbox sb 0]) w W1 d by rw [hsb,hW1];exact h.openbox hr)
 have CLOSE:=hide_ (fun (W:World) (x:Ro) (h:SAt B i g c n (rs ++ [x]) w W d)=>h.closebox hr)
 have ADJ:=hide_ (fun (p s:Nat) (W:World) (h:SAt B i g c n (rs ++ [sbox sb s]) w W d) (h1:1≤p) (h2:p+1<n) (hs:s≤900)=>by
  have:=srt_adj B i g c n p rs.length sb s (rs ++ [sbox sb s]) w W d r0 h (hri _) (hrm _) hne h1 h2 hn hs
  rw [last_set] at this
  exact this)
 have MED:=hide_ (fun (p q r s:Nat) (W:World) (h:SAt B i g c n (rs ++ [sbox sb s]) w W d) (h1:p<n) (h2:q<n) (h3:r<n) (hs:s≤900)=>by
  have:=srt_median B i g c n p q r rs.length sb s (rs ++ [sbox sb s]) w W d r0 h (hri _) (hrm _) hne h1 h2 h3 hn hs
  rw [last_set] at this
  exact this)
 have BOX:=hide_ (fun (s:Nat) (W:World) (h:SAt B i g c n (rs ++ [sbox sb s]) w W d)=>h.boxc (hrm _) hne)
 obtain ⟨q,hq⟩:∃ q,q=L / 4:=⟨_,rfl⟩
 have d1:(L:Int).tdiv 4=(q:Int):=by rw [Int.tdiv_eq_ediv_of_nonneg (by omega)];omega
 have d2:(L:Int) / 4=(q:Int):=by omega
 have d0:(a:Int)+(L:Int) - (a:Int)=(L:Int):=by omega
 have hq4:4 * q≤L:=by omega
 have hqL:L<4 * q+4:=by omega
 have HRAW:=hide_ (show rawPivot ltInt d a (a+L)=if L ≥ 8 then
  if L ≥ 50 then
   median ltInt d (medianAdjacent ltInt d (a+q * 1) 0).1 (medianAdjacent ltInt d (a+q * 2) (medianAdjacent ltInt d (a+q * 1) 0).2).1
    (medianAdjacent ltInt d (a+q * 3) (medianAdjacent ltInt d (a+q * 2) (medianAdjacent ltInt d (a+q * 1) 0).2).2).1
    (medianAdjacent ltInt d (a+q * 3) (medianAdjacent ltInt d (a+q * 2) (medianAdjacent ltInt d (a+q * 1) 0).2).2).2
  else median ltInt d (a+q * 1) (a+q * 2) (a+q * 3) 0
 else (a+q * 2,0) by unfold rawPivot;rw [Nat.add_sub_cancel_left,hq])
 have FIN:=hide_ (fun (P s:Nat) (hR:rawPivot ltInt d a (a+L)=(P,s))=>show choosePivot ltInt d a (a+L)=(P,hintOf s) by rw [choosePivot_eq,hR])
 have e1:((a:Int)+(q:Int) * 2)=((a+q * 2:Nat):Int):=by omega
 have e2:((a:Int)+(q:Int) * 3)=((a+q * 3:Nat):Int):=by omega
 have e3:((a:Int)+(q:Int))=((a+q * 1:Nat):Int):=by omega
 have HQ:=hide_ (And.intro e1 (And.intro e2 e3))
 clear hq h hr hi hri hrm hne e1 e2 e3
 go_enter Tryz.func140,Tryz.ntmps140
 go_upto_region 3 with (fail)
 rw [← hW1,← hsb]
 clear hW1 hsb
 by_cases h8:L ≥ 8
 ·have g8:(8:Int)≤(L:Int):=by omega
  by_cases h50:L ≥ 50
  ·have g50:(50:Int)≤(L:Int):=by omega
   obtain ⟨r1,hr1⟩:∃ r,r=medianAdjacent ltInt d (a+q * 1) 0:=⟨_,rfl⟩
   obtain ⟨r2,hr2⟩:∃ r,r=medianAdjacent ltInt d (a+q * 2) r1.2:=⟨_,rfl⟩
   obtain ⟨r3,hr3⟩:∃ r,r=medianAdjacent ltInt d (a+q * 3) r2.2:=⟨_,rfl⟩
   obtain ⟨r4,hr4⟩:∃ r,r=median ltInt d r1.1 r2.1 r3.1 r3.2:=⟨_,rfl⟩
   have k1:=medianAdjacent_count ltInt d (a+q * 1) 0
   rw [← hr1] at k1
   have k2:=medianAdjacent_count ltInt d (a+q * 2) r1.2
   rw [← hr2] at k2
   have k3:=medianAdjacent_count ltInt d (a+q * 3) r2.2
   rw [← hr3] at k3
   have l1:r1.1<n:=by rw [hr1];exact med_lt d _ (by omega) (by omega) (by omega)
   have l2:r2.1<n:=by rw [hr2];exact med_lt d _ (by omega) (by omega) (by omega)
   have l3:r3.1<n:=by rw [hr3];exact med_lt d _ (by omega) (by omega) (by omega)
   have A1:=hide_ (fun W h=>ADJ.out (a+q * 1) 0 W h (by omega) (by omega) (by omega))
   have A2:=hide_ (fun W h=>ADJ.out (a+q * 2) r1.2 W h (by omega) (by omega) (by omega))
   have A3:=hide_ (fun W h=>ADJ.out (a+q * 3) r2.2 W h (by omega) (by omega) (by omega))
   have A4:=hide_ (fun W h=>MED.out r1.1 r2.1 r3.1 r3.2 W h l1 l2 l3 (by omega))
   rw [← hr1,← HQ.out.2.2] at A1
   rw [← hr2,← HQ.out.1] at A2
   rw [← hr3,← HQ.out.2.1] at A3
   rw [← hr4] at A4
   have HRR:=hide_ (show rawPivot ltInt d a (a+L)=r4 by rw [HRAW.out,if_pos h8,if_pos h50,hr4,hr3,hr2,hr1])
   obtain ⟨p1,s1⟩:=r1
   obtain ⟨p2,s2⟩:=r2
   obtain ⟨p3,s3⟩:=r3
   obtain ⟨p4,s4⟩:=r4
   dsimp only at A1 A2 A3 A4
   clear hr1 hr2 hr3 hr4 k1 k2 k3 l1 l2 l3
   go_wp2_with fail
   refine (A1.out _ HS.out).mono ?_
   rintro e w1 ⟨rfl,hs1⟩
   have HS1:=hide_ hs1
   clear hs1 HS
   go_wp2_with fail
   refine (A2.out _ HS1.out).mono ?_
   rintro e w2 ⟨rfl,hs2⟩
   have HS2:=hide_ hs2
   clear hs2 HS1
   go_wp2_with fail
   refine (A3.out _ HS2.out).mono ?_
   rintro e w3 ⟨rfl,hs3⟩
   have HS3:=hide_ hs3
   clear hs3 HS2
   go_wp2_with fail
   refine (A4.out _ HS3.out).mono ?_
   rintro e w4 ⟨rfl,hs4⟩
   have HS4:=hide_ hs4
   clear hs4 HS3
   have cb:=BOX.out _ _ HS4.out
   have hR:rawPivot ltInt d a (a+L)=(p4,s4):=by exact HRR.out
   have HF:=hide_ (FIN.out _ _ hR)
   clear hR
   by_cases z0:s4=0
   ·have z1:((s4:Int) == 0)=true:=by rw [z0];rfl
    have z2:(s4:Int)=0:=by rw [z0];rfl
    rw [z2] at cb
    go_wp2
    go_ret2
    rw [HF.out,show hintOf s4=.increasing from if_pos z0]
    exact ⟨rfl,CLOSE.out _ _ HS4.out⟩
   ·have z1:((s4:Int) == 0)=false:=by simp;omega
    by_cases z3:s4=12
    ·have z2:(s4:Int)=12:=by rw [z3];rfl
     rw [z2] at cb
     go_wp2
     go_ret2
     rw [HF.out,show hintOf s4=.decreasing by unfold hintOf;rw [if_neg z0,if_pos z3]]
     exact ⟨rfl,CLOSE.out _ _ HS4.out⟩
    ·have z2:((s4:Int) == 12)=false:=by simp;omega
     have z4:¬ (s4:Int)=0:=by omega
     have z5:¬ (s4:Int)=12:=by omega
     go_wp2
     go_ret2
     rw [HF.out,show hintOf s4=.unknown by unfold hintOf;rw [if_neg z0,if_neg z3]]
     exact ⟨rfl,CLOSE.out _ _ HS4.out⟩
  ·have g50:¬ (50:Int)≤(L:Int):=by omega
   obtain ⟨r4,hr4⟩:∃ r,r=median ltInt d (a+q * 1) (a+q * 2) (a+q * 3) 0:=⟨_,rfl⟩
   have A4:=hide_ (fun W h=>MED.out (a+q * 1) (a+q * 2) (a+q * 3) 0 W h (by omega) (by omega) (by omega) (by omega))
   rw [← hr4,← HQ.out.2.2,← HQ.out.1,← HQ.out.2.1] at A4
   have HRR:=hide_ (show rawPivot ltInt d a (a+L)=r4 by rw [HRAW.out,if_pos h8,if_neg h50,hr4])
   obtain ⟨p4,s4⟩:=r4
   dsimp only at A4
   clear hr4
   go_wp2_with fail
   refine (A4.out _ HS.out).mono ?_
   rintro e w4 ⟨rfl,hs4⟩
   have HS4:=hide_ hs4
   clear hs4 HS
   have cb:=BOX.out _ _ HS4.out
   have hR:rawPivot ltInt d a (a+L)=(p4,s4):=by exact HRR.out
   have HF:=hide_ (FIN.out _ _ hR)
   clear hR
   by_cases z0:s4=0
   ·have z1:((s4:Int) == 0)=true:=by rw [z0];rfl
    have z2:(s4:Int)=0:=by rw [z0];rfl
    rw [z2] at cb
    go_wp2
    go_ret2
    rw [HF.out,show hintOf s4=.increasing from if_pos z0]
    exact ⟨rfl,CLOSE.out _ _ HS4.out⟩
   ·have z1:((s4:Int) == 0)=false:=by simp;omega
    by_cases z3:s4=12
    ·have z2:(s4:Int)=12:=by rw [z3];rfl
     rw [z2] at cb
     go_wp2
     go_ret2
     rw [HF.out,show hintOf s4=.decreasing by unfold hintOf;rw [if_neg z0,if_pos z3]]
     exact ⟨rfl,CLOSE.out _ _ HS4.out⟩
    ·have z2:((s4:Int) == 12)=false:=by simp;omega
     have z4:¬ (s4:Int)=0:=by omega
     have z5:¬ (s4:Int)=12:=by omega
     go_wp2
     go_ret2
     rw [HF.out,show hintOf s4=.unknown by unfold hintOf;rw [if_neg z0,if_neg z3]]
     exact ⟨rfl,CLOSE.out _ _ HS4.out⟩
 ·have g8:¬ (8:Int)≤(L:Int):=by omega
  have cb:=BOX.out _ _ HS.out
  have hR:rawPivot ltInt d a (a+L)=(a+q * 2,0):=by rw [HRAW.out,if_neg h8]
  have HF:=hide_ (FIN.out _ _ hR)
  clear hR
  have e1:=hide_ HQ.out.1
  go_wp2
  go_ret2
  rw [HF.out,show hintOf 0=.increasing from rfl,← e1.out]
  exact ⟨rfl,CLOSE.out _ _ HS.out⟩
end Go.Proofs.YtikbegmodacopaaGreatDoor

namespace Go.Proofs.YtikbegmodacopaaGreatDoor
open Go.RowKit Go.PlainAid Go.BigFrame
open Go.Sort (xorNextN bitsLen)
set_option linter.unusedSimpArgs false
set_option linter.unusedVariables false
set_option maxRecDepth 100000
theorem xor_step {X Y:Nat} {y:Int} (hX:X<18446744073709551616) (hY:Y<18446744073709551616) (hy:y=(Y:Int)):bits .xor .u64 (X:Int) y=((X ^^^ Y:Nat):Int)∧X ^^^ Y<18446744073709551616:=by
 subst hy
 exact ⟨bits_xor_u64_nat _ _ hX hY,Nat.xor_lt_two_pow (n:=64) hX hY⟩
set_option maxHeartbeats 2000000 in
theorem srt_next (sb X:Nat) (hX:X<18446744073709551616) (w:World) (hc:w.cell? ⟨sb,0,none⟩=some (.int .u64 X)) (hf:w.frozen? ⟨sb,0,none⟩=false) :
  Calls Tryz.prog 167 #[.pointer (some ⟨sb,0,none⟩)] w fun e w'=>e=.returned (.int .u64 (xorNextN X:Nat))∧w'=(w.setCell ⟨sb,0,none⟩ (.int .u64 (xorNextN X:Nat))).drewN 3:=by
 obtain ⟨e1,l1⟩:=xor_step (y:=IntKind.u64.wrap ((X:Int) * 8192)) hX (Y:=X * 8192 % 18446744073709551616) (by omega) (by rw [IntKind.wrap_u64];omega)
 obtain ⟨A,hA⟩:∃ A,A=X ^^^ (X * 8192 % 18446744073709551616):=⟨_,rfl⟩
 rw [← hA] at e1 l1
 obtain ⟨e2,l2⟩:=xor_step (y:=(A:Int) / 128) l1 (Y:=A / 128) (by omega) (by omega)
 obtain ⟨C,hC⟩:∃ C,C=A ^^^ (A / 128):=⟨_,rfl⟩
 rw [← hC] at e2 l2
 obtain ⟨e3,l3⟩:=xor_step (y:=IntKind.u64.wrap ((C:Int) * 131072)) l2 (Y:=C * 131072 % 18446744073709551616) (by omega) (by rw [IntKind.wrap_u64];omega)
 obtain ⟨D,hD⟩:∃ D,D=C ^^^ (C * 131072 % 18446744073709551616):=⟨_,rfl⟩
 rw [← hD] at e3
 have hv:xorNextN X=D:=by unfold xorNextN;simp only [];rw [← hA,← hC,← hD]
 rw [hv]
 clear hv hA hC hD l1 l2 l3
 have hss:∀ v v',(w.setCell ⟨sb,0,none⟩ v).setCell ⟨sb,0,none⟩ v'=w.setCell ⟨sb,0,none⟩ v':=setCell_setCell w sb 0
 go_enter Tryz.func167,Tryz.ntmps167
 go_wp2
 go_region
 all_goals go_wp2
 all_goals go_region
 all_goals go_wp2
 all_goals go_region
 all_goals go_wp2
 go_ret
 exact ⟨rfl,rfl⟩
theorem srt_pow2 (n:Nat) (hn:n<4611686018427387904) (w:World):Calls Tryz.prog 166 #[.int .i64 n] w fun e w'=>e=.returned (.int .u64 ((1 <<< bitsLen n:Nat):Int))∧w'=w:=by
 have HL:=hide_ (fun (W:World)=>show Calls Tryz.prog 105 #[.int .u64 (n:Int)] W fun e w'=>e=.returned (.int .i64 (bitsLen n:Nat))∧w'=W by
  have h:=Tryz.bits_Len (n:Int) W (by omega) (by omega)
  rwa [Int.toNat_natCast,bitLen_eq _ (by omega)] at h)
 have hk:bitsLen n≤62:=(Go.Sort.bitsLen_le_iff n 62).2 (by omega)
 have hp:=wrap_two_pow (bitsLen n) hk
 go_enter Tryz.func166,Tryz.ntmps166
 go_wp2_with (first | (go_at_call 105;refine (HL.out _).mono ?_;rintro e w' ⟨rfl,rfl⟩))
 go_ret
 exact ⟨rfl,rfl⟩
end Go.Proofs.YtikbegmodacopaaGreatDoor
