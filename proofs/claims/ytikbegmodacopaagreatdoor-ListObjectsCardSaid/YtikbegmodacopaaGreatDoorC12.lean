/-
  Joined and packed by program.
-/
import Derived.Test.YtikbegmodacopaaGreatDoorC11
import Derived.Sort.LotD5
import Derived.Test.YtikbegmodacopaaGreatDoorC10
import Derived.Sort.WalkA6
import Derived.Deep.Cut
import Derived.Deep.CutRange
import Derived.Sort.AssemblyPlain
import Derived.Sort.Walk13
namespace Go.Proofs.YtikbegmodacopaaGreatDoor
open Go.RowKit Go.PlainAid Go.BigFrame
open Go.Sort (swp xorNext xorNextN xorNext_toNat xorNextN_lt bitsLen breakPatterns)
set_option linter.unusedSimpArgs false
set_option linter.unusedVariables false
set_option maxRecDepth 100000
def xbox (sb X:Nat):Ro:=⟨202,1,.slice (some ⟨sb,0,none⟩) 1 1,1,[.int .u64 (X:Int)]⟩
section
variable {B i g c n sb X:Nat} {rs:List Ro} {w wr:World} {d:Array Int} {r0:Ro}
theorem SAt.openx (h:SAt B i g c n rs w wr d) (hr:rs[i]?=some r0) (X:Nat):SAt B i g c n (rs ++ [xbox wr.heap.size X]) w (wr.alloc (.cells #[.int .u64 (X:Int)] 202)) d:=by
 have hb:=h.base hr
 have hi:=(List.getElem?_eq_some_iff.1 hr).1
 refine ⟨h.sz,?_,h.bl.alloc (by omega) _⟩
 rw [List.set_append_left _ _ hi]
 exact h.ow.box 202 #[.int .u64 (X:Int)] (by omega) (by simp [maxLen])
theorem xrow (hi:i<rs.length) (r:Ro):((rs ++ [xbox sb X]).set i r)[rs.length]?=some (xbox sb X):=by
 rw [List.getElem?_set_ne (by omega)];simp
theorem SAt.xc (h:SAt B i g c n (rs ++ [xbox sb X]) w wr d) (hi:i<rs.length):wr.cell? ⟨sb,0,none⟩=some (.int .u64 (X:Int))∧wr.frozen? ⟨sb,0,none⟩=false:=⟨h.ow.cell (xrow hi _) rfl,h.ow.frozen (xrow hi _) 0⟩
theorem SAt.xset (h:SAt B i g c n (rs ++ [xbox sb X]) w wr d) (hi:i<rs.length) (Y:Nat):SAt B i g c n (rs ++ [xbox sb Y]) w (wr.setCell ⟨sb,0,none⟩ (.int .u64 (Y:Int))) d:=by
 have hb:=(h.ow.base (xrow hi _)).1
 refine ⟨h.sz,?_,h.bl.setCell (p:=⟨sb,0,none⟩) hb _⟩
 have h1:=h.ow.store (xrow hi _) (j:=0) (by simp) (.int .u64 (Y:Int))
 rw [List.set_append_left _ _ hi,List.set_append_right _ _ (by rw [List.length_set];exact Nat.le_refl _),List.length_set,Nat.sub_self] at h1
 rw [List.set_append_left _ _ hi]
 exact h1
end
set_option maxHeartbeats 4000000 in
theorem srt_break8 (B ix g c n a L:Nat) (rs:List Ro) (w wr:World) (d:Array Int) (r0:Ro) (h:SAt B ix g c n rs w wr d) (hr:rs[ix]?=some r0) (h8:8≤L) (hb:a+L≤n) (hn:n<4611686018427387904) :
  Calls Tryz.prog 139 #[.slice (some ⟨g,0,none⟩) n c,.int .i64 a,.int .i64 ((a+L:Nat):Int)] wr fun e w'=>e=.returned (.tuple #[])∧SAt B ix g c n rs w w' (breakPatterns d a (a+L)):=by
 have hi:=(List.getElem?_eq_some_iff.1 hr).1
 have hri:∀ x:Ro,(rs ++ [x])[ix]?=some r0:=fun x=>by rw [List.getElem?_append_left hi];exact hr
 rw [breakPatterns_eq d a L h8]
 obtain ⟨M,hM⟩:∃ M:Nat,M=1 <<< bitsLen L:=⟨_,rfl⟩
 have hM1:1≤M:=by rw [hM,Nat.one_shiftLeft];exact Nat.two_pow_pos _
 have hM2:M≤2 * L:=by rw [hM,Nat.one_shiftLeft];exact Go.Sort.two_pow_bitsLen_le (by omega)
 have HNP:=hide_ (fun W=>srt_pow2 L (by omega) W)
 rw [← hM] at HNP ⊢
 clear hM
 obtain ⟨sb,hsb⟩:∃ k,k=wr.heap.size:=⟨_,rfl⟩
 obtain ⟨W1,hW1⟩:∃ W,W=wr.alloc (.cells #[.int .u64 (L:Int)] 202):=⟨_,rfl⟩
 have HS:=hide_ (show SAt B ix g c n (rs ++ [xbox sb (UInt64.ofNat L).toNat]) w W1 d by
  rw [hsb,hW1,show (UInt64.ofNat L).toNat=L from by simp;omega];exact h.openx hr L)
 have CLOSE:=hide_ (fun (W:World) (d:Array Int) (x:Ro) (h:SAt B ix g c n (rs ++ [x]) w W d)=>h.closebox hr)
 have HRI:=hide_ hri
 have HI:=hide_ hi
 have d0:(a:Int)+(L:Int) - (a:Int)=(L:Int):=by omega
 obtain ⟨q,hq⟩:∃ q,q=L / 4:=⟨_,rfl⟩
 have d2:(L:Int) / 4=(q:Int):=by omega
 have hq4:4 * q≤L:=by omega
 have hqL:L<4 * q+4:=by omega
 rw [← hq]
 clear h hr hri hi hq
 go_enter Tryz.func139,Tryz.ntmps139
 go_upto_region 3 with (fail)
 rw [← hW1,← hsb]
 clear hW1 hsb
 go_wp2_with fail
 refine (HNP.out _).mono ?_
 rintro e w2 ⟨rfl,rfl⟩
 go_wp2_with fail
 go_loopw [9] (fun vi W=>∃ (t:Nat) (r:UInt64) (dk:Array Int),vi=.int .i64 ((a+q * 2 - 1+t:Nat):Int)∧t≤3∧Hid (SAt B ix g c n (rs ++ [xbox sb r.toNat]) w W dk)∧Hid (bpRest a L M (a+q * 2 - 1) (3 - t) t (r,dk)=bpRest a L M (a+q * 2 - 1) 3 0 (UInt64.ofNat L,d))) (fun vi _=>a+q * 2+3 - (intOf vi).toNat)
 case atStart=>exact ⟨0,UInt64.ofNat L,d,by congr 1;omega,by omega,HS,hide_ rfl⟩
 case round =>
  clear HS
  obtain ⟨t,r,dk,rfl,ht,HS,HR⟩:=hrel
  by_cases hle:t<3
  ·obtain ⟨R,hRr⟩:∃ R:Nat,R=r.toNat:=⟨_,rfl⟩
   have lR:R<18446744073709551616:=by rw [hRr];exact r.toNat_lt
   obtain ⟨R',hR'⟩:∃ R':Nat,R'=xorNextN R:=⟨_,rfl⟩
   have lR':R' < 18446744073709551616:=by rw [hR'];exact xorNextN_lt R lR
   obtain ⟨O,hO⟩:∃ O:Nat,O=R' &&& (M - 1):=⟨_,rfl⟩
   have lO:O≤M - 1:=by rw [hO];exact Nat.and_le_right
   have eAnd:bits .and .u64 (R':Int) ((M:Int) - 1)=(O:Int):=by
    rw [show ((M:Int) - 1)=((M - 1:Nat):Int) by omega,bits_and_u64_nat _ _ lR' (by omega),hO]
   have HN:=hide_ (show R'=(xorNext r).toNat∧O=(xorNext r).toNat &&& (M - 1) by
    have e:R'=(xorNext r).toNat:=by rw [hR',hRr,xorNext_toNat]
    exact ⟨e,by rw [hO,e]⟩)
   rw [← hRr] at HS
   have HNX:=hide_ (srt_next sb R lR wr (HS.out.xc HI.out).1 (HS.out.xc HI.out).2)
   rw [← hR'] at HNX
   have HS9:=hide_ ((HS.out.xset HI.out R').drewN 3)
   have gz:(a:Int)+(q:Int) * 2+1 ≥ ((a+q * 2 - 1+t:Nat):Int):=by omega
   clear hRr hR' hO lR lR' HS
   go_wp2_with fail
   refine HNX.out.mono ?_
   rintro e w5 ⟨rfl,hw5⟩
   rw [← hw5] at HS9
   have HS2:=HS9
   clear hw5 HS9 HNX
   by_cases hLO0:L≤O
   ·have hLO:L≤O:=by omega
    have hLz:(L:Int)≤(O:Int):=by omega
    have hLd:decide ((L:Int)≤(O:Int))=true:=by simp;omega
    obtain ⟨x,hx⟩:∃ x,x=dk[a+q * 2 - 1+t]! := ⟨_,rfl⟩
    obtain ⟨y,hy⟩:∃ y,y=dk[a+(O - L)]! := ⟨_,rfl⟩
    have c0:=HS2.out.cell (HRI.out _) (t:=a+q * 2 - 1+t) (by omega)
    have c1:=HS2.out.cell (HRI.out _) (t:=a+(O - L)) (by omega)
    have f0:=HS2.out.frz (HRI.out _) (a+q * 2 - 1+t)
    have f1:=HS2.out.frz (HRI.out _) (a+(O - L))
    rw [← hx] at c0
    rw [← hy] at c1
    obtain ⟨v',hy'⟩:=cell?_setCell_some (w:=w5.drewN 1) (p:=⟨g,a+q * 2 - 1+t,none⟩) (x:=.int .u32 y) (q:=⟨g,a+(O - L),none⟩) c1
    have hy2:(w5.drew.setCell ⟨g,a+q * 2 - 1+t,none⟩ (.int .u32 y)).cell? ⟨g,a+(O - L),none⟩=some v':=hy'
    have hy3:(w5.setCell ⟨g,a+q * 2 - 1+t,none⟩ (.int .u32 y)).cell? ⟨g,a+(O - L),none⟩=some v':=hy'
    have HSW:=hide_ (fun (W':World) (h:SAt B ix g c n (rs ++ [xbox sb R']) w W' dk)=>h.swap (HRI.out _) (j:=a+q * 2 - 1+t) (k:=a+(O - L)) (by omega) (by omega) hy hx)
    have HB:=hide_ ((bp_step a L M (a+q * 2 - 1) t r dk (O - L) (by omega) (by rw [← HN.out.2,if_pos hLO])).symm.trans HR.out)
    clear hx hy hle
    go_wp2_with fail
    go_region
    go_wp2
    go_roundw
    case rel =>
     refine ⟨t+1,xorNext r,swp dk (a+q * 2 - 1+t) (a+(O - L)),by first | rfl | (congr 1 <;> omega),by omega,?_,HB⟩
     rw [← HN.out.1]
     first
      | exact hide_ (HSW.out _ HS2.out).drew
      | exact hide_ (HSW.out _ HS2.out.drew)
      | exact hide_ (HSW.out _ (HS2.out.drewN _))
    case measure=>simp [intOf] <;> omega
   ·have hLO:¬ L≤O:=by omega
    have hLz:¬ (L:Int)≤(O:Int):=by omega
    have hLd:decide ((L:Int)≤(O:Int))=false:=by simp;omega
    obtain ⟨x,hx⟩:∃ x,x=dk[a+q * 2 - 1+t]! := ⟨_,rfl⟩
    obtain ⟨y,hy⟩:∃ y,y=dk[a+(O)]! := ⟨_,rfl⟩
    have c0:=HS2.out.cell (HRI.out _) (t:=a+q * 2 - 1+t) (by omega)
    have c1:=HS2.out.cell (HRI.out _) (t:=a+(O)) (by omega)
    have f0:=HS2.out.frz (HRI.out _) (a+q * 2 - 1+t)
    have f1:=HS2.out.frz (HRI.out _) (a+(O))
    rw [← hx] at c0
    rw [← hy] at c1
    obtain ⟨v',hy'⟩:=cell?_setCell_some (w:=w5.drewN 1) (p:=⟨g,a+q * 2 - 1+t,none⟩) (x:=.int .u32 y) (q:=⟨g,a+(O),none⟩) c1
    have hy2:(w5.drew.setCell ⟨g,a+q * 2 - 1+t,none⟩ (.int .u32 y)).cell? ⟨g,a+(O),none⟩=some v':=hy'
    have hy3:(w5.setCell ⟨g,a+q * 2 - 1+t,none⟩ (.int .u32 y)).cell? ⟨g,a+(O),none⟩=some v':=hy'
    have HSW:=hide_ (fun (W':World) (h:SAt B ix g c n (rs ++ [xbox sb R']) w W' dk)=>h.swap (HRI.out _) (j:=a+q * 2 - 1+t) (k:=a+(O)) (by omega) (by omega) hy hx)
    have HB:=hide_ ((bp_step a L M (a+q * 2 - 1) t r dk (O) (by omega) (by rw [← HN.out.2,if_neg hLO])).symm.trans HR.out)
    clear hx hy hle
    go_wp2_with fail
    go_region
    go_wp2
    go_roundw
    case rel =>
     refine ⟨t+1,xorNext r,swp dk (a+q * 2 - 1+t) (a+(O)),by first | rfl | (congr 1 <;> omega),by omega,?_,HB⟩
     rw [← HN.out.1]
     first
      | exact hide_ (HSW.out _ HS2.out).drew
      | exact hide_ (HSW.out _ HS2.out.drew)
      | exact hide_ (HSW.out _ (HS2.out.drewN _))
    case measure=>simp [intOf] <;> omega
  ·obtain rfl:t=3:=by omega
   have gz:¬ (a:Int)+(q:Int) * 2+1 ≥ ((a+q * 2 - 1+3:Nat):Int):=by omega
   go_wp2
   go_end0
   refine ⟨rfl,?_⟩
   rw [← HR.out]
   exact CLOSE.out _ _ _ HS.out
end Go.Proofs.YtikbegmodacopaaGreatDoor
namespace Go.Proofs.YtikbegmodacopaaGreatDoor
open Go.RowKit Go.PlainAid Go.BigFrame
open Go.Sort (swp ltInt scanSorted shiftDown shiftUp partialIns partialInsertionSort fixUp fixDown)
set_option linter.unusedSimpArgs false
set_option linter.unusedVariables false
set_option maxRecDepth 100000
theorem SAt.again {B i g c n:Nat} {rs:List Ro} {w w1:World} {d d':Array Int} (h:SAt B i g c n rs w w1 d) (e:d=d'):SAt B i g c n rs w w1 d':=e ▸ h
set_option maxHeartbeats 8000000 in
theorem srt_partial (B ix g c n a b:Nat) (rs:List Ro) (w wr:World) (d:Array Int) (r0:Ro) (h:SAt B ix g c n rs w wr d) (hr:rs[ix]?=some r0) (hab:a<b) (hb:b≤n) (hn:n<4611686018427387904) :
  Calls Tryz.prog 142 #[.slice (some ⟨g,0,none⟩) n c,.int .i64 a,.int .i64 b] wr fun e w'=>e=.returned (.bool (partialInsertionSort ltInt d a b).2)∧SAt B ix g c n rs w w' (partialInsertionSort ltInt d a b).1:=by
 have HS:=hide_ h
 have HR:=hide_ hr
 clear h hr
 go_enter Tryz.func142,Tryz.ntmps142
 go_wp2
 go_loopw [7,8] (fun vi vs W=>∃ (i s:Nat) (dk:Array Int),vi=.int .i64 i∧vs=.int .i64 s∧a<i∧i≤b∧s≤5∧Hid (SAt B ix g c n rs w W dk)∧Hid (partialIns ltInt a b (5 - s) i dk=partialIns ltInt a b 5 (a+1) d)) (fun _ vs _=>5 - (intOf vs).toNat)
 case atStart=>exact ⟨a+1,0,d,by go_num,rfl,by omega,by omega,by omega,HS,hide_ rfl⟩
 case round =>
  clear HS
  obtain ⟨i,s,dk,rfl,rfl,hai,hib,hs,HS,HE⟩:=hrel
  by_cases h5:s<5
  ·go_wp2
   go_loopw [7] (fun vi W=>∃ k:Nat,vi=.int .i64 k∧i≤k∧k≤b∧Hid (SAt B ix g c n rs w W dk)∧Hid (scanSorted ltInt dk b k=scanSorted ltInt dk b i)) (fun vi _=>b - (intOf vi).toNat)
   case atStart=>exact ⟨i,rfl,Nat.le_refl _,hib,HS,hide_ rfl⟩
   case round =>
    clear HS
    obtain ⟨k,rfl,hik,hkb,HS,HK⟩:=hrel
    by_cases hlt:k<b
    ·obtain ⟨m,rfl⟩:∃ m,k=m+1:=⟨k - 1,by omega⟩
     obtain ⟨x,hx⟩:∃ x,x=dk[m+1]! := ⟨_,rfl⟩
     obtain ⟨y,hy⟩:∃ y,y=dk[m]! := ⟨_,rfl⟩
     have c0:=HS.out.cell HR.out (t:=m+1) (by omega)
     have c1:=HS.out.cell HR.out (t:=m) (by omega)
     have f0:=HS.out.frz HR.out (m+1)
     have f1:=HS.out.frz HR.out m
     rw [← hx] at c0
     rw [← hy] at c1
     have HX:=hide_ (And.intro hx hy)
     clear hx hy
     have g1:decide ((m:Int)+1<(b:Int))=true:=decide_eq_true (by omega)
     have g2:((m:Int)+1 == (b:Int))=false:=by simp;omega
     go_wp2_with fail
     go_big_quiet (first | (go_at_call 143;refine Calls.quiet_of_same (srt_less _ _ _)))
     go_upto_if 41 with (fail)
     ·have ht:(!ltInt x y)=true:=by assumption
      go_wp2
      go_roundw
      case rel=>exact ⟨m+1+1,by go_num,by omega,by omega,hide_ (HS.out.drewN _),hide_ ((Go.Proofs.scanSorted_go ltInt dk b (m+1) hlt (by rw [Nat.add_sub_cancel,← HX.out.1,← HX.out.2];simpa using ht)).symm.trans HK.out)⟩
      case measure=>simp [intOf] <;> omega
     ·have ht:(!ltInt x y)=false:=by assumption
      have hl:ltInt x y=true:=by simpa using ht
      have HSC:=hide_ ((Go.Proofs.scanSorted_stop ltInt dk b (m+1) (.inr (by rw [Nat.add_sub_cancel,← HX.out.1,← HX.out.2];exact hl))).symm.trans HK.out)
      by_cases h50:b - a<50
      ·have g3:decide ((b:Int) - (a:Int)<50)=true:=decide_eq_true (by omega)
       have g3':(b:Int) - (a:Int)<50:=by omega
       go_wp2
       go_ret
       have e:partialInsertionSort ltInt d a b=(dk,false):=HE.out.symm.trans (Go.Proofs.pi_short ltInt a b s i dk h5 (by rw [← HSC.out];omega) h50)
       rw [e]
       exact ⟨rfl,HS.out.drewN _⟩
      ·have g3:decide ((b:Int) - (a:Int)<50)=false:=decide_eq_false (by omega)
       have HSW:=hide_ (fun (W':World) (h:SAt B ix g c n rs w W' dk)=>h.swap HR.out (j:=m+1) (k:=m) (by omega) (by omega) HX.out.2 HX.out.1)
       have NEXT:=hide_ ((Go.Proofs.pi_go ltInt a b s i (m+1) dk h5 HSC.out.symm (by omega) h50).symm.trans HE.out)
       obtain ⟨d1,hd1⟩:∃ z,z=swp dk (m+1) m:=⟨_,rfl⟩
       rw [Nat.add_sub_cancel,← hd1] at NEXT
       rw [← hd1] at HSW
       clear hd1
       go_wp2_with fail
       go_region
       go_upto_if 61 with fail
       go_cut [] from 13 to 132 (fun wx=>Hid (SAt B ix g c n rs w wx (fixDown ltInt a (m+1) d1)))
       case first =>
        clear c0 c1 f0 f1
        by_cases h2:m+1 - a ≥ 2
        ·have g4:decide ((2:Int)≤(m:Int)+1 - (a:Int))=true:=decide_eq_true (by omega)
         have g4':(2:Int)≤(m:Int)+1 - (a:Int):=by omega
         go_wp2
         go_loopw [9] (fun vj W=>∃ (j:Nat) (dj:Array Int),vj=.int .i64 j∧j≤m∧Hid (SAt B ix g c n rs w W dj)∧Hid (shiftDown ltInt j dj=fixDown ltInt a (m+1) d1)) (fun vj _=>(intOf vj).toNat)
         case atStart =>
          refine ⟨m,d1,by first | rfl | go_num,Nat.le_refl _,?_,hide_ (by unfold fixDown;rw [if_pos h2,Nat.add_sub_cancel])⟩
          first
           | exact hide_ (HSW.out _ (HS.out.drewN _)).drew
           | exact hide_ (HSW.out _ (HS.out.drewN _))
         case round =>
          clear HS HSW
          obtain ⟨j,dj,rfl,hjm,HS,HJ⟩:=hrel
          by_cases hj:1≤j
          ·obtain ⟨t,rfl⟩:∃ t,j=t+1:=⟨j - 1,by omega⟩
           have j1:decide ((1:Int)≤(t:Int)+1)=true:=decide_eq_true (by omega)
           have j2:(1:Int)≤(t:Int)+1:=by omega
           obtain ⟨x2,hx⟩:∃ x,x=dj[t+1]! := ⟨_,rfl⟩
           obtain ⟨y2,hy⟩:∃ y,y=dj[t]! := ⟨_,rfl⟩
           have c0:=HS.out.cell HR.out (t:=t+1) (by omega)
           have c1:=HS.out.cell HR.out (t:=t) (by omega)
           have f0:=HS.out.frz HR.out (t+1)
           have f1:=HS.out.frz HR.out (t)
           rw [← hx] at c0
           rw [← hy] at c1
           have HX2:=hide_ (And.intro hx hy)
           clear hx hy
           go_wp2_with fail
           go_big_quiet (first | (go_at_call 143;refine Calls.quiet_of_same (srt_less _ _ _)))
           go_wp2_with fail
           ·have ht2:(!ltInt x2 y2)=true:=by assumption
            have hl2:ltInt x2 y2=false:=by simpa using ht2
            go_meet
            case rel=>exact hide_ ((HS.out.drewN _).again (by rw [← HJ.out,Go.Proofs.shiftDown_stop ltInt (t+1) dj (.inr (by rw [Nat.add_sub_cancel,← HX2.out.1,← HX2.out.2];exact hl2))]))
           ·have ht2:(!ltInt x2 y2)=false:=by assumption
            have hl2:ltInt x2 y2=true:=by simpa using ht2
            have HSW:=hide_ (fun (W':World) (h:SAt B ix g c n rs w W' dj)=>h.swap HR.out (j:=t+1) (k:=t) (by omega) (by omega) HX2.out.2 HX2.out.1)
            go_region
            all_goals go_wp2
            go_roundw
            case rel =>
             refine ⟨t,swp dj (t+1) t,by go_num,by omega,?_,?_⟩
             ·first
               | exact hide_ (HSW.out _ (HS.out.drewN _)).drew
               | exact hide_ (HSW.out _ (HS.out.drewN _))
             ·exact hide_ (by rw [← HJ.out,Go.Proofs.shiftDown_go ltInt (t+1) dj hj (by rw [Nat.add_sub_cancel,← HX2.out.1,← HX2.out.2];exact hl2),Nat.add_sub_cancel])
            case measure=>simp [intOf] <;> omega
          ·have hj0:j=0:=by omega
           have j1:decide ((1:Int)≤(j:Int))=false:=decide_eq_false (by omega)
           have HJ2:=hide_ (show dj=fixDown ltInt a (m+1) d1 by rw [← HJ.out,Go.Proofs.shiftDown_stop ltInt j dj (.inl hj0)])
           clear hj0
           go_wp2_with fail
           go_meet
           case rel=>exact hide_ (HS.out.again HJ2.out)
        ·have g4':¬ (2:Int)≤(m:Int)+1 - (a:Int):=by omega
         go_wp2_with fail
         go_meet
         case rel =>
          have e1:d1=fixDown ltInt a (m+1) d1:=by unfold fixDown;rw [if_neg h2]
          first
           | exact hide_ ((HSW.out _ (HS.out.drewN _)).drew.again e1)
           | exact hide_ ((HSW.out _ (HS.out.drewN _)).again e1)
       case rest =>
        clear c0 c1 f0 f1 HS HSW
        have HS2:Hid (SAt B ix g c n rs w wc (fixDown ltInt a (m+1) d1)):=hcut
        clear hcut
        obtain ⟨d2,hd2⟩:∃ z,z=fixDown ltInt a (m+1) d1:=⟨_,rfl⟩
        rw [← hd2] at HS2 NEXT
        clear hd2
        by_cases h3:b - (m+1) ≥ 2
        ·have g5:decide ((2:Int)≤(b:Int) - ((m:Int)+1))=true:=decide_eq_true (by omega)
         have g5':(2:Int)≤(b:Int) - ((m:Int)+1):=by omega
         go_wp2
         go_loopw [10] (fun vj W=>∃ (j:Nat) (dj:Array Int),vj=.int .i64 j∧m+2≤j∧j≤b∧Hid (SAt B ix g c n rs w W dj)∧Hid (shiftUp ltInt b j dj=fixUp ltInt b (m+1) d2)) (fun vj _=>b - (intOf vj).toNat)
         case atStart =>
          refine ⟨m+2,d2,by first | rfl | go_num,Nat.le_refl _,by omega,HS2,hide_ (by unfold fixUp;rw [if_pos h3])⟩
         case round =>
          clear HS2
          obtain ⟨j,dj,rfl,hjm,hjb,HS,HJ⟩:=hrel
          by_cases hj:j<b
          ·obtain ⟨t,rfl⟩:∃ t,j=t+1:=⟨j - 1,by omega⟩
           have j1:decide ((t:Int)+1<(b:Int))=true:=decide_eq_true (by omega)
           have j2:(t:Int)+1<(b:Int):=by omega
           obtain ⟨x2,hx⟩:∃ x,x=dj[t+1]! := ⟨_,rfl⟩
           obtain ⟨y2,hy⟩:∃ y,y=dj[t]! := ⟨_,rfl⟩
           have c0:=HS.out.cell HR.out (t:=t+1) (by omega)
           have c1:=HS.out.cell HR.out (t:=t) (by omega)
           have f0:=HS.out.frz HR.out (t+1)
           have f1:=HS.out.frz HR.out (t)
           rw [← hx] at c0
           rw [← hy] at c1
           have HX2:=hide_ (And.intro hx hy)
           clear hx hy
           go_wp2_with fail
           go_big_quiet (first | (go_at_call 143;refine Calls.quiet_of_same (srt_less _ _ _)))
           go_wp2_with fail
           ·have ht2:(!ltInt x2 y2)=true:=by assumption
            have hl2:ltInt x2 y2=false:=by simpa using ht2
            go_roundw
            case rel=>exact ⟨m+1,s+1,dj,by go_num,by go_num,by omega,by omega,by omega,hide_ (HS.out.drewN _),hide_ (by rw [← NEXT.out,← HJ.out,Go.Proofs.shiftUp_stop ltInt b (t+1) dj (.inr (by rw [Nat.add_sub_cancel,← HX2.out.1,← HX2.out.2];exact hl2))])⟩
            case measure=>simp [intOf] <;> omega
           ·have ht2:(!ltInt x2 y2)=false:=by assumption
            have hl2:ltInt x2 y2=true:=by simpa using ht2
            have HSW:=hide_ (fun (W':World) (h:SAt B ix g c n rs w W' dj)=>h.swap HR.out (j:=t+1) (k:=t) (by omega) (by omega) HX2.out.2 HX2.out.1)
            go_region
            all_goals go_wp2
            go_roundw
            case rel =>
             refine ⟨t+1+1,swp dj (t+1) t,by go_num,by omega,by omega,?_,?_⟩
             ·first
               | exact hide_ (HSW.out _ (HS.out.drewN _)).drew
               | exact hide_ (HSW.out _ (HS.out.drewN _))
             ·exact hide_ (by rw [← HJ.out,Go.Proofs.shiftUp_go ltInt b (t+1) dj hj (by rw [Nat.add_sub_cancel,← HX2.out.1,← HX2.out.2];exact hl2),Nat.add_sub_cancel])
            case measure=>simp [intOf] <;> omega
          ·have j1:decide ((j:Int)<(b:Int))=false:=decide_eq_false (by omega)
           have HJ2:=hide_ (show dj=fixUp ltInt b (m+1) d2 by rw [← HJ.out,Go.Proofs.shiftUp_stop ltInt b j dj (.inl hj)])
           go_wp2
           go_roundw
           case rel=>exact ⟨m+1,s+1,dj,by go_num,by go_num,by omega,by omega,by omega,HS,hide_ (by rw [← NEXT.out,HJ2.out])⟩
           case measure=>simp [intOf] <;> omega
        ·have g5':¬ (2:Int)≤(b:Int) - ((m:Int)+1):=by omega
         go_wp2
         go_roundw
         case rel=>exact ⟨m+1,s+1,d2,by go_num,by go_num,by omega,by omega,by omega,HS2,hide_ (by rw [← NEXT.out];unfold fixUp;rw [if_neg h3])⟩
         case measure=>simp [intOf] <;> omega
    ·have hkb2:k=b:=by omega
     subst hkb2
     have j1:decide ((k:Int)<(k:Int))=false:=decide_eq_false (by omega)
     have j3:((k:Int) == (k:Int))=true:=by simp
     go_wp2_with fail
     go_big_quiet (first | (go_at_call 143;refine Calls.quiet_of_same (srt_less _ _ _)))
     go_wp2
     go_ret
     have e:partialInsertionSort ltInt d a k=(dk,true):=HE.out.symm.trans (Go.Proofs.pi_true ltInt a k s i dk h5 (HK.out.symm.trans (Go.Proofs.scanSorted_stop ltInt dk k k (.inl (by omega)))))
     rw [e]
     exact ⟨rfl,HS.out.drewN _⟩
  ·have h52:s=5:=by omega
   subst h52
   go_wp2
   go_ret
   have e:partialInsertionSort ltInt d a b=(dk,false):=HE.out.symm.trans (Go.Proofs.pi_end ltInt a b i dk)
   rw [e]
   exact ⟨rfl,HS.out⟩
end Go.Proofs.YtikbegmodacopaaGreatDoor
namespace Go.Proofs.YtikbegmodacopaaGreatDoor
open Go.RowKit Go.PlainAid Go.BigFrame
open Go.Sort (swp ltInt pdq rd hintCode insertionSort heapSort breakPatterns choosePivot partialInsertionSort reverseRange partition partitionEqual pdq_small pdq_heap pdq_done pdq_eq pdq_left pdq_right rd_facts rd_dec rd_not rd_pi_yes rd_pi_no rd_lim_le round_part round_eq bitsLen)
set_option linter.unusedSimpArgs false
set_option linter.unusedVariables false
set_option maxRecDepth 1000000
theorem srt_plain:Go.Proofs.Plain13 where
 swo:=Go.Sort.swo_ltInt
 ins:=Go.Sort.insertionSort_holds
 par:=Go.Sort.partialInsertionSort_holds
 prt:=Go.Sort.partition_holds _
 peq:=Go.Sort.partitionEqual_holds _
 pdq:=Go.Sort.pdq_sorts _
set_option maxHeartbeats 16000000 in
theorem srt_pdq (B ix g c n:Nat) (rs:List Ro) (w:World) (r0:Ro) (hr:rs[ix]?=some r0) (hn:n<4611686018427387904) (S:Go.Proofs.Plain13):∀ (N a b limit:Nat) (wr:World) (d:Array Int),b - a<N→SAt B ix g c n rs w wr d→a≤b→b≤n→limit<4611686018427387904→Go.Sort.Below ltInt a b d →
  Calls Tryz.prog 104 #[.slice (some ⟨g,0,none⟩) n c,.int .i64 a,.int .i64 b,.int .i64 limit] wr fun e w'=>e=.returned (.tuple #[])∧SAt B ix g c n rs w w' (pdq ltInt d a b limit true true):=by
 have HR:=hide_ hr
 clear hr
 intro N
 induction N with
 | zero=>intro _ _ _ _ _ h;exact absurd h (Nat.not_lt_zero _)
 | succ N ih =>
  intro a b limit wr0 d hN hH hab hb hlimit hBel0
  have HIH:=hide_ ih
  have HH:=hide_ hH
  clear ih hH
  go_enter Tryz.func104,Tryz.ntmps104
  go_wp2
  go_loopg [1,2,3,8,9] (b - a) (fun k s1 s2 s3 s8 s9 wr=>∃ (a' b' lim:Nat) (wb wp:Bool) (dk:Array Int),s1=.int .i64 a'∧s2=.int .i64 b'∧s3=.int .i64 lim∧s8=.bool wb∧s9=.bool wp ∧
   a'≤b'∧b'≤n∧b' - a'≤k∧k≤b - a∧lim≤limit∧Go.Sort.Below ltInt a' b' dk∧Hid (SAt B ix g c n rs w wr dk)∧pdq ltInt dk a' b' lim wb wp=pdq ltInt d a b limit true true)
  case atStart=>exact ⟨a,b,limit,true,true,d,rfl,rfl,rfl,rfl,rfl,hab,hb,Nat.le_refl _,Nat.le_refl _,Nat.le_refl _,hBel0,HH,rfl⟩
  case round =>
   clear HH
   obtain ⟨a',b',lim,wb,wp,dk,rfl,rfl,rfl,rfl,rfl,hab',hb',hk,hkN,hlim,hBel,HS,heq⟩:=hrel
   have hds:dk.size=n:=HS.out.sz
   have HD:=hide_ hds
   have A:=hide_ heq
   clear heq hds
   by_cases h12:b' - a'≤12
   ·have h12z:(b':Int) - (a':Int)≤12:=by omega
    go_wp2_with fail
    refine (srt_ins B ix g c n a' b' rs w _ dk r0 HS.out HR.out hab' hb' hn).mono ?_
    rintro e w1 ⟨rfl,hw1⟩
    have H1:=hide_ hw1
    clear hw1
    go_wp2_with fail
    (try simp only [Exit.inBlock,Exit.then])
    refine bodyPost_ret (results_none rfl _ _ _) rfl ?_
    refine ⟨rfl,?_⟩
    rw [← A.out,pdq_small h12]
    exact H1.out
   ·have h12z:¬ ((b':Int) - (a':Int)≤12):=by omega
    by_cases hl0:lim=0
    ·subst hl0
     go_wp2_with fail
     refine (srt_heap B ix g c n a' b' rs w _ dk r0 HS.out HR.out hab' hb' hn).mono ?_
     rintro e w1 ⟨rfl,hw1⟩
     have H1:=hide_ hw1
     clear hw1
     go_wp2_with fail
     (try simp only [Exit.inBlock,Exit.then])
     refine bodyPost_ret (results_none rfl _ _ _) rfl ?_
     refine ⟨rfl,?_⟩
     rw [← A.out,pdq_heap h12 rfl]
     exact H1.out
    ·have hl0z:¬ ((lim:Int)=0):=by omega
     obtain ⟨L,hL⟩:∃ L,b'=a' + L:=⟨b' - a',by omega⟩
     have l8:8≤L:=by omega
     have ln:a' + L≤n:=by omega
     have HL:=hide_ hL
     clear hL
     obtain ⟨s1,B1,hc1,s2,B2,hpv,s3,B3⟩:=rd_facts (limit:=lim) (wb:=wb) (wp:=wp) S.swo S.par Go.Sort.reverseRange_holds (show a' < b' by omega) (show b'≤dk.size by rw [HD.out];exact hb') hBel
     have HZ:=hide_ (And.intro s1 (And.intro s2 s3))
     clear s1 s2 s3
     go_upto_if 35 with fail
     go_cut [3] from 19 (fun s3 wc=>s3=.int .i64 (rd ltInt dk a' b' lim wb wp).lim∧Hid (SAt B ix g c n rs w wc (rd ltInt dk a' b' lim wb wp).d1))
     case first =>
      cases wb
      ·have hbk:=srt_break8 B ix g c n a' L rs w wr dk r0 HS.out HR.out l8 ln hn
       rw [← HL.out] at hbk
       go_wp2_with (go_at_call 139;refine hbk.mono ?_;rintro e w1 ⟨rfl,hw1⟩)
       go_meet
       case rel =>
        refine ⟨?_,hide_ hw1⟩
        show Value.int .i64 ((lim:Int) - 1)=Value.int .i64 ((lim - 1:Nat):Int)
        congr 1
        omega
      ·go_wp2_with fail
       go_meet
       case rel=>exact ⟨rfl,HS⟩
     case rest =>
      clear HS
      obtain ⟨rfl,HS1⟩:=hcut
      have hpc:=srt_pivot B ix g c n a' L rs w wc (rd ltInt dk a' b' lim wb wp).d1 r0 HS1.out HR.out (by omega) ln hn
      rw [← HL.out,← Go.Sort.rd_c] at hpc
      have HPC:=hide_ hpc
      clear hpc
      go_upto_if 50 with (go_at_call 140;refine HPC.out.mono ?_;rintro e w2 ⟨rfl,hw2⟩)
      have HS2:=hide_ hw2
      clear hw2 HPC HS1
      go_cut [11,12] from 19 (fun s11 s12 wc=>s11=.int .i64 (rd ltInt dk a' b' lim wb wp).pivot∧s12=.int .i64 (hintCode (rd ltInt dk a' b' lim wb wp).hint)∧Hid (SAt B ix g c n rs w wc (rd ltInt dk a' b' lim wb wp).d2))
      case first =>
       by_cases hh:(rd ltInt dk a' b' lim wb wp).c.2=.decreasing
       ·have hcode:hintCode (rd ltInt dk a' b' lim wb wp).c.2=2:=by rw [hh];rfl
        obtain ⟨e2,epv,eht⟩:=rd_dec hh
        have hrv:=srt_rev B ix g c n a' b' rs w w2 (rd ltInt dk a' b' lim wb wp).d1 r0 HS2.out HR.out hab' hb' hn
        go_wp2_with (go_at_call 141;refine hrv.mono ?_;rintro e w3 ⟨rfl,hw3⟩)
        go_meet
        case rel =>
         refine ⟨?_,by rw [eht];rfl,by rw [e2];exact hide_ hw3⟩
         rw [epv]
         congr 1
         omega
       ·have hcode:¬ (hintCode (rd ltInt dk a' b' lim wb wp).c.2=2):=fun h=>hh (Go.Proofs.hintCode_two h)
        obtain ⟨e2,epv,eht⟩:=rd_not hh
        go_wp2_with fail
        go_meet
        case rel=>exact ⟨by rw [epv],by rw [eht],by rw [e2];exact HS2⟩
      case rest =>
       clear HS2
       obtain ⟨rfl,rfl,HS3⟩:=hcut
       go_upto_region 15 with fail
       go_cut [12,68] from 19 (fun s12 s68 wx=>s12=.int .i64 (hintCode (rd ltInt dk a' b' lim wb wp).hint)∧s68=.bool (wb && wp && decide ((rd ltInt dk a' b' lim wb wp).hint=.increasing))∧wx=wc)
       case first =>
        cases wb <;> cases wp <;> cases hh3:(rd ltInt dk a' b' lim _ _).hint <;>
         (have hcode3:=congrArg hintCode hh3
          simp only [hintCode] at hcode3
          go_wp2_with fail
          go_meet
          exact ⟨by simp [hh3,hintCode],by simp [hh3,hintCode],rfl⟩)
       case rest =>
        obtain ⟨rfl,rfl,rfl⟩:=hcut
        go_upto_if 68 with fail
        go_cut [] from 19 (fun wx=>(rd ltInt dk a' b' lim wb wp).pi.2=false∧Hid (SAt B ix g c n rs w wx (rd ltInt dk a' b' lim wb wp).pi.1))
        case first =>
         cases h68:(wb && wp && decide ((rd ltInt dk a' b' lim wb wp).hint=.increasing))
         ·have epi:=rd_pi_no h68
          go_wp2_with fail
          go_meet
          case rel=>exact ⟨by rw [epi],by rw [epi];exact HS3⟩
         ·have epi:=rd_pi_yes h68
          have hpp:=srt_partial B ix g c n a' b' rs w wc (rd ltInt dk a' b' lim wb wp).d2 r0 HS3.out HR.out (by omega) hb' hn
          rw [← epi] at hpp
          have HEP:=hide_ epi
          clear epi
          go_wp2_with (go_at_call 142;refine hpp.mono ?_;rintro e w4 ⟨rfl,hw4⟩)
          all_goals first
           | (have hp2:(rd ltInt dk a' b' lim wb wp).pi.2=false:=by assumption
              go_meet
              exact ⟨hp2,hide_ hw4⟩)
           | (have hp2:(rd ltInt dk a' b' lim wb wp).pi.2=true:=by assumption
              (try simp only [Exit.inBlock,Exit.then])
              refine bodyPost_ret (results_none rfl _ _ _) rfl ?_
              refine ⟨rfl,?_⟩
              rw [← A.out,pdq_done h12 hl0 hp2]
              exact hw4)
        case rest =>
         clear HS3
         obtain ⟨hp2,HS5⟩:=hcut
         have HP2:=hide_ hp2
         clear hp2
         have c0:=fun (ha0:0<a')=>HS5.out.cell HR.out (t:=a' - 1) (by omega)
         have c1:=HS5.out.cell HR.out (t:=(rd ltInt dk a' b' lim wb wp).pivot) (by omega)
         have f0:=HS5.out.frz HR.out (a' - 1)
         have f1:=HS5.out.frz HR.out (rd ltInt dk a' b' lim wb wp).pivot
         go_upto_region 17 with fail
         go_cut [87] from 19 (fun s87 wx=>s87=.bool (decide (a' > 0) && !ltInt (rd ltInt dk a' b' lim wb wp).pi.1[a' - 1]! (rd ltInt dk a' b' lim wb wp).pi.1[(rd ltInt dk a' b' lim wb wp).pivot]!)∧Hid (SAt B ix g c n rs w wx (rd ltInt dk a' b' lim wb wp).pi.1))
         case first =>
          rcases Nat.eq_zero_or_pos a' with ha0 | ha0
          ·have ha0z:decide ((a':Int) > 0)=false:=decide_eq_false (by omega)
           clear c0
           go_big_quiet (first | (go_at_call 143;refine Calls.quiet_of_same (srt_less _ _ _)))
           go_wp2_with fail
           go_meet
           case rel=>exact ⟨by simp [ha0],hide_ (HS5.out.drewN nq)⟩
          ·have ha0z:(a':Int) > 0:=by omega
           have ha1:decide ((0:Int)<(a':Int))=true:=decide_eq_true ha0z
           have c0:=c0 ha0
           go_big_quiet (first | (go_at_call 143;refine Calls.quiet_of_same (srt_less _ _ _)))
           go_wp2_with fail
           go_meet
           case rel=>exact ⟨by simp [ha0],hide_ (HS5.out.drewN nq)⟩
         case rest =>
          clear HS5 c0 c1 f0 f1
          obtain ⟨rfl,HS6⟩:=hcut
          cases h87:(decide (a' > 0) && !ltInt (rd ltInt dk a' b' lim wb wp).pi.1[a' - 1]! (rd ltInt dk a' b' lim wb wp).pi.1[(rd ltInt dk a' b' lim wb wp).pivot]!)
          ·obtain ⟨mid,ap,d4,hx⟩:∃ mid ap d4,partition ltInt (rd ltInt dk a' b' lim wb wp).pi.1 a' b' (rd ltInt dk a' b' lim wb wp).pivot=(mid,ap,d4):=⟨(partition ltInt (rd ltInt dk a' b' lim wb wp).pi.1 a' b' (rd ltInt dk a' b' lim wb wp).pivot).1,(partition ltInt (rd ltInt dk a' b' lim wb wp).pi.1 a' b' (rd ltInt dk a' b' lim wb wp).pivot).2.1,(partition ltInt (rd ltInt dk a' b' lim wb wp).pi.1 a' b' (rd ltInt dk a' b' lim wb wp).pivot).2.2,rfl⟩
           obtain ⟨r1,r2,r3,r4,r5,r6,r7⟩:=round_part S.swo S.prt hpv.1 hpv.2 (show b'≤(rd ltInt dk a' b' lim wb wp).pi.1.size by rw [HZ.out.2.2,HD.out];exact hb') B3 hx
           have hpt:=srt_part B ix g c n a' b' (rd ltInt dk a' b' lim wb wp).pivot rs w wc (rd ltInt dk a' b' lim wb wp).pi.1 r0 HS6.out HR.out hpv.1 hpv.2 hb' hn
           rw [hx] at hpt
           have X:=hide_ hx
           have H87:=hide_ h87
           have R67:=hide_ (And.intro r3 (And.intro r6 r7))
           clear hx h87 r3 r6 r7
           go_upto_if 113 with (go_at_call 145;refine hpt.mono ?_;rintro e w7 ⟨rfl,hw7⟩)
           have HS7:=hide_ hw7
           clear hw7 hpt HS6
           have hd4:d4.size=n:=HS7.out.sz
           have HD4:=hide_ hd4
           clear hd4
           by_cases h4:mid - a' < b' - mid
           ·have h4z:(mid:Int) - (a':Int)<(b':Int) - (mid:Int):=by omega
            have hih:=HIH.out a' mid (rd ltInt dk a' b' lim wb wp).lim w7 d4 (by omega) HS7.out (by omega) (by omega) (Nat.lt_of_le_of_lt (Nat.le_trans rd_lim_le hlim) hlimit) r4
            have PS:=hide_ (S.pdq S.swo d4 a' mid (rd ltInt dk a' b' lim wb wp).lim true true (by omega) (by rw [HD4.out];omega) r4)
            go_wp2_with (go_at_call 104;refine hih.mono ?_;rintro e w8 ⟨rfl,hw8⟩)
            go_roundg (b' - (mid+1))
            case measure=>omega
            case rel =>
             refine ⟨mid+1,b',(rd ltInt dk a' b' lim wb wp).lim,decide (mid - a' ≥ (b' - a') / 8),ap,pdq ltInt d4 a' mid (rd ltInt dk a' b' lim wb wp).lim true true,by simp,rfl,rfl,?_,rfl,by omega,by omega,Nat.le_refl _,by omega,Nat.le_trans rd_lim_le hlim,(R67.out.2.1 _ PS.out.1 PS.out.2).1,hide_ hw8,?_⟩
             ·exact congrArg Value.bool (Go.Proofs.eighth (by omega) (by omega))
             ·rw [← A.out,pdq_left h12 hl0 HP2.out H87.out (by rw [X.out];exact ⟨r1,r2⟩) (by rw [X.out];exact h4),X.out]
           ·have h4z:¬ ((mid:Int) - (a':Int)<(b':Int) - (mid:Int)):=by omega
            have hih:=HIH.out (mid+1) b' (rd ltInt dk a' b' lim wb wp).lim w7 d4 (by omega) HS7.out (by omega) (by omega) (Nat.lt_of_le_of_lt (Nat.le_trans rd_lim_le hlim) hlimit) r5
            have PS:=hide_ (S.pdq S.swo d4 (mid+1) b' (rd ltInt dk a' b' lim wb wp).lim true true (by omega) (by rw [HD4.out];omega) r5)
            go_wp2_with (go_at_call 104;refine hih.mono ?_;rintro e w8 ⟨rfl,hw8⟩)
            go_roundg (mid - a')
            case measure=>omega
            case rel =>
             refine ⟨a',mid,(rd ltInt dk a' b' lim wb wp).lim,decide (b' - mid ≥ (b' - a') / 8),ap,pdq ltInt d4 (mid+1) b' (rd ltInt dk a' b' lim wb wp).lim true true,rfl,rfl,rfl,?_,rfl,by omega,by omega,Nat.le_refl _,by omega,Nat.le_trans rd_lim_le hlim,(R67.out.2.2 _ PS.out.1 PS.out.2).1,hide_ hw8,?_⟩
             ·exact congrArg Value.bool (Go.Proofs.eighth (by omega) (by omega))
             ·rw [← A.out,pdq_right h12 hl0 HP2.out H87.out (by rw [X.out];exact ⟨r1,r2⟩) (by rw [X.out];exact h4),X.out]
          ·have h87':=h87
           simp only [Bool.and_eq_true,decide_eq_true_eq,Bool.not_eq_true'] at h87'
           obtain ⟨mid,d4,hx⟩:∃ mid d4,partitionEqual ltInt (rd ltInt dk a' b' lim wb wp).pi.1 a' b' (rd ltInt dk a' b' lim wb wp).pivot=(mid,d4):=⟨(partitionEqual ltInt (rd ltInt dk a' b' lim wb wp).pi.1 a' b' (rd ltInt dk a' b' lim wb wp).pivot).1,(partitionEqual ltInt (rd ltInt dk a' b' lim wb wp).pi.1 a' b' (rd ltInt dk a' b' lim wb wp).pivot).2,rfl⟩
           obtain ⟨r1,r2,r3,r4,_⟩:=round_eq S.swo S.peq h87'.1 hpv.1 hpv.2 (show b'≤(rd ltInt dk a' b' lim wb wp).pi.1.size by rw [HZ.out.2.2,HD.out];exact hb') B3 h87'.2 hx
           have hpt:=srt_parteq B ix g c n a' b' (rd ltInt dk a' b' lim wb wp).pivot rs w wc (rd ltInt dk a' b' lim wb wp).pi.1 r0 HS6.out HR.out hpv.1 hpv.2 hb' hn
           rw [hx] at hpt
           have X:=hide_ hx
           have H87:=hide_ h87
           clear hx h87 h87' r3
           go_wp2_with (go_at_call 144;refine hpt.mono ?_;rintro e w7 ⟨rfl,hw7⟩)
           go_roundg (b' - mid)
           case measure=>omega
           case rel =>
            exact ⟨mid,b',(rd ltInt dk a' b' lim wb wp).lim,wb,wp,d4,rfl,rfl,rfl,rfl,rfl,r2,hb',Nat.le_refl _,by omega,Nat.le_trans rd_lim_le hlim,r4,hide_ hw7,by rw [← A.out,pdq_eq h12 hl0 HP2.out H87.out (by rw [X.out];exact ⟨r1,r2⟩),X.out]⟩
end Go.Proofs.YtikbegmodacopaaGreatDoor
namespace Go.Proofs.YtikbegmodacopaaGreatDoor
open Go.RowKit Go.PlainAid Go.BigFrame
open Go.Sort (swp ltInt bitsLen)
set_option linter.unusedSimpArgs false
set_option linter.unusedVariables false
set_option maxRecDepth 100000
set_option maxHeartbeats 2000000 in
theorem srt_sortA (B ix g c n:Nat) (rs:List Ro) (w wr:World) (d:Array Int) (r0:Ro) (h:SAt B ix g c n rs w wr d) (hr:rs[ix]?=some r0) (hn:n<4611686018427387904) :
  Calls Tryz.prog 71 #[.slice (some ⟨g,0,none⟩) n c] wr fun e w'=>e=.returned (.tuple #[])∧SAt B ix g c n rs w w' (Go.Sort.sort ltInt d):=by
 have hds:d.size=n:=h.sz
 have hk:bitsLen n≤62:=(Go.Sort.bitsLen_le_iff n 62).2 (by omega)
 have HLen:=hide_ (fun (w:World)=>show Calls Tryz.prog 105 #[.int .u64 (n:Int)] w fun e w'=>e=.returned (.int .i64 (bitsLen n:Nat))∧w'=w by
  have h:=Tryz.bits_Len (n:Int) w (by omega) (by omega)
  rwa [Int.toNat_natCast,Go.Proofs.bitLen_eq _ (by omega)] at h)
 have HP:=hide_ (srt_pdq B ix g c n rs w r0 hr hn srt_plain (n+1) 0 n (bitsLen n) wr d (by omega) h (Nat.zero_le _) (Nat.le_refl _) (by omega) (.inl rfl))
 have HE:=hide_ (show Go.Sort.pdq ltInt d 0 n (bitsLen n) true true=Go.Sort.sort ltInt d by unfold Go.Sort.sort;rw [hds])
 clear h hr hds
 go_enter Tryz.func71,Tryz.ntmps71
 go_wp2_with fail
 refine (HLen.out _).mono ?_
 rintro e w1 ⟨rfl,rfl⟩
 go_wp2_with fail
 refine HP.out.mono ?_
 rintro e w2 ⟨rfl,h2⟩
 have H2:=hide_ h2
 clear h2
 go_wp2
 go_end0
 exact ⟨rfl,HE.out ▸ H2.out⟩
theorem ins_nil (p:Option Addr) (cap:Nat) (w:World):Calls Tryz.prog 137 #[.slice p 0 cap,.int .i64 0,.int .i64 0] w fun e w'=>e=.returned (.tuple #[])∧w'=w:=by
 go_enter Tryz.func137,Tryz.ntmps137
 go_wp2
 refine wp_loop_rounds 1 ?_
 rw [rounds_succ]
 go_wp2
 go_end0
 exact ⟨rfl,rfl⟩
theorem pdq_nil (p:Option Addr) (cap:Nat) (w:World):Calls Tryz.prog 104 #[.slice p 0 cap,.int .i64 0,.int .i64 0,.int .i64 0] w fun e w'=>e=.returned (.tuple #[])∧w'=w:=by
 go_enter Tryz.func104,Tryz.ntmps104
 go_wp2
 refine wp_loop_rounds 1 ?_
 rw [rounds_succ]
 go_wp2_with (first | (go_at_call 137;refine (ins_nil p cap _).mono ?_;rintro e w' ⟨rfl,rfl⟩))
 refine bodyPost_ret (results_none rfl _ _ _) rfl ?_
 exact ⟨rfl,rfl⟩
theorem srt_nil (p:Option Addr) (cap:Nat) (w:World):Calls Tryz.prog 71 #[.slice p 0 cap] w fun e w'=>e=.returned (.tuple #[])∧w'=w:=by
 have hLen:∀ w,Calls Tryz.prog 105 #[.int .u64 0] w fun e w'=>e=.returned (.int .i64 0)∧w'=w:=fun w=>Tryz.bits_Len 0 w (by omega) (by omega)
 go_enter Tryz.func71,Tryz.ntmps71
 go_wp2_with (first
  | (go_at_call 105;refine (hLen _).mono ?_;rintro e w' ⟨rfl,rfl⟩)
  | (go_at_call 104;refine (pdq_nil p cap _).mono ?_;rintro e w' ⟨rfl,rfl⟩))
 go_end0
 exact ⟨rfl,rfl⟩
theorem srt_row {B ix:Nat} {rs:List Ro} {w:World} {v:Value} {l:List Int} (hr:rs[ix]?=some ⟨25,1,v,l.length,l.map (Value.int .u32)⟩) (hO:Owns w B rs) (hn:l.length<4611686018427387904) :
  Calls Tryz.prog 71 #[v] w fun e w'=>e=.returned (.tuple #[])∧Owns w' B (rs.set ix ⟨25,1,v,l.length,(l.mergeSort fun x y=>decide (x≤y)).map (Value.int .u32)⟩)∧Below B w w':=by
 have hat:=hO.at_ hr
 rcases Nat.eq_zero_or_pos l.length with h0 | h0
 ·obtain ⟨A,c,hv,_,_⟩:=ownsRow_slice hat
  obtain rfl:l=[]:=List.eq_nil_of_length_eq_zero h0
  dsimp only at hv
  rw [hv]
  refine (srt_nil A c w).mono ?_
  rintro e w' ⟨rfl,rfl⟩
  refine ⟨rfl,?_,Below.refl _ _⟩
  have:(List.mergeSort ([]:List Int) fun x y=>decide (x≤y))=[]:=by simp
  rw [this,← hv]
  have e:rs.set ix ⟨25,1,v,([]:List Int).length,([]:List Int).map (Value.int .u32)⟩=rs:=by
   apply List.ext_getElem?
   intro j
   rw [List.getElem?_set]
   split
   ·rename_i e
    subst e
    rw [if_pos (List.getElem?_eq_some_iff.1 hr).1,hr]
   ·rfl
  rw [e]
  exact hO
 ·obtain ⟨g,c,hv⟩:=ownsRow_some hat h0
  dsimp only at hv
  subst hv
  have hs:SAt B ix g c l.length rs w w l.toArray:=SAt.start (by rw [hr];simp [srow]) (by simp) hO
  refine (srt_sortA B ix g c l.length rs w w l.toArray _ hs hr hn).mono ?_
  rintro e w' ⟨rfl,h⟩
  refine ⟨rfl,?_,h.bl⟩
  have h1:=h.ow
  unfold srow at h1
  rw [Go.Sort.sortInt l] at h1
  exact h1
end Go.Proofs.YtikbegmodacopaaGreatDoor
