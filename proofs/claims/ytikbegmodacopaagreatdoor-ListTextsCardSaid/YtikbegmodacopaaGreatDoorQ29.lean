/-
  Joined and packed by program.
-/
import Derived.Test.YtikbegmodacopaaGreatDoorQ28
import Derived.Deep.CutRange
namespace Go.Proofs.YtikbegmodacopaaGreatDoor
open Go.RowKit Go.PlainAid Go.BigFrame
set_option linter.unusedSimpArgs false
set_option linter.unusedVariables false
set_option maxRecDepth 100000
theorem stop_step {x:ObjV} {i j:Nat} (h1:j<i+16) (h2:j<x.data.length) (h3:clearD x j=true):stopG x (i+16 - j) j=stopG x (i+16 - (j+1)) (j+1):=by
 rw [show i+16 - j=(i+16 - (j+1))+1 by omega,stopG,if_pos ⟨h2,h3⟩]
theorem stop_end {x:ObjV} {i j:Nat} (h:¬ j<i+16∨¬ j<x.data.length∨clearD x j=false):stopG x (i+16 - j) j=j:=by
 cases hk:i+16 - j with
 | zero=>rfl
 | succ k =>
  rw [stopG,if_neg]
  rintro ⟨h2,h3⟩
  rcases h with h | h | h
  ·omega
  ·exact h h2
  ·rw [h] at h3;cases h3
def goOn (x:ObjV) (i j:Nat):Bool:=decide (j<x.data.length) && decide (j<i+16) && clearD x j
theorem stopG_le (x:ObjV) (f:Nat):∀ k,k≤stopG x f k:=by
 induction f with
 | zero=>intro k;exact Nat.le_refl _
 | succ f ih =>
  intro k
  rw [stopG]
  split
  ·exact Nat.le_trans (Nat.le_succ k) (ih (k+1))
  ·exact Nat.le_refl _
theorem stopK_lt (x:ObjV) (i:Nat):i<stopK x i:=stopG_le x 15 (i+1)
theorem dataR_step {x:ObjV} {f i:Nat} (hi:i<x.data.length):dataR x (f+1) i=atL x.labels 2 i ++
   (if fixT x.fixes 2 i=e0B then ⟨#[9,98,121,116,101,115,32]⟩ ++ showT ((x.data.drop i).take (stopK x i - i)) ++ ⟨#[10]⟩ ++ dataR x f (stopK x i)
    else ⟨#[9,119,111,114,100,32]⟩ ++ fixT x.fixes 2 i ++ ⟨#[10]⟩ ++ dataR x f (i+4)):=by rw [dataR,if_neg (by omega)]
theorem dataR_end {x:ObjV} {f i:Nat} (hi:x.data.length≤i):dataR x f i=atL x.labels 2 x.data.length:=by
 cases f with
 | zero=>rfl
 | succ f=>rw [dataR,if_pos hi]
theorem reads_part {W:World} {B n:Nat} {A:Option Addr} {l:List Int} {i j:Nat} (h:Reads W B 1 A n (u8s l)) (hij:i<j) (hj:j≤n):∃ ad,A=some ad∧Reads W B 1 (some (ad.add i)) (j - i) (u8s ((l.drop i).take (j - i))):=by
 have hl:l.length=n:=by simpa using h.1
 obtain ⟨ad,rfl,hb,hc⟩:=h.2 (by omega)
 refine ⟨ad,rfl,by simp [u8s];omega,fun _=>⟨ad.add i,rfl,by rw [block_of_add];exact hb,fun q u hu=>?_⟩⟩
 rw [add_of_add]
 have hq:q<j - i:=by
  have:=(List.getElem?_eq_some_iff.1 hu).1
  simp [u8s] at this
  omega
 refine hc (i+q) u ?_
 rw [← hu]
 simp [u8s,List.getElem?_take,List.getElem?_drop,hq]
set_option maxHeartbeats 16000000 in
theorem dataText_any (x:ObjV) (s:ObjS) (B:Nat) (w:World) (hx:ObjOk x) (hr:ObjR w B x s) (hBw:B≤w.heap.size) (hz:(dataT x).size≤140737488351232) (hnb:x.data.length≤65536)
  (hzA:∀ i:Nat,i≤x.data.length→(atL x.labels 2 i).size≤140737488351232) (hzF:∀ i:Nat,i<x.data.length→(fixT x.fixes 2 i).size≤140737488351232) :
  Calls Tryz.prog 90 #[.agg (objV x s)] w fun e w'=>e=.returned (.string (dataT x))∧Below w.heap.size w w':=by
 obtain ⟨i0,hi0,hz0,hz1,hz2⟩:=info_parts out_info
 have HLA:=hide_ (fun W (hw:Below w.heap.size w W) (i:Nat) (hi:i≤x.data.length)=>labelsAt_any x s B 2 i W hx (hr.below (hw.mono hBw)) (Nat.le_trans hBw hw.size) (hzA i hi))
 have HFA:=hide_ (fun W (hw:Below w.heap.size w W) (i:Nat) (hi:i<x.data.length)=>fixAt_any x s B 2 i W hx (hr.below (hw.mono hBw)) (Nat.le_trans hBw hw.size) (hzF i hi))
 have HMA:=hide_ (fun W (hw:Below w.heap.size w W) (i:Nat) (hi:i≤x.data.length)=>marked_any x s B 2 i W hx (hr.below (hw.mono hBw)) (Nat.le_trans hBw hw.size) (hzA i hi))
 have HHA:=hide_ (fun W (hw:Below w.heap.size w W)=>has_any x s B 2 W hx (hr.below (hw.mono hBw)) (Nat.le_trans hBw hw.size))
 have HCP:=hide_ hr.caps.2.1
 obtain ⟨⟨cA,cc⟩,⟨dA,dc⟩,⟨lA,lc⟩,⟨fA,fc⟩,⟨tA,tc⟩,⟨eA,ec⟩⟩:=s
 have HRC:=hide_ hr.rc
 have HRD:=hide_ hr.rd
 have HRL:=hide_ hr.rl
 have HRF:=hide_ hr.rf
 have HRT:=hide_ hr.rt
 have HRE:=hide_ hr.re
 obtain ⟨l1,l2,l3,l4,l5,l6⟩:=hx.lens
 have HX:=hide_ hx
 dsimp only [objV] at HRC HRD HRL HRF HRT HRE ⊢
 obtain ⟨n,hn⟩:∃ n,n=x.code.length:=⟨_,rfl⟩
 obtain ⟨nd,hnd⟩:∃ n,n=x.data.length:=⟨_,rfl⟩
 obtain ⟨nl,hnl⟩:∃ n,n=x.labels.length:=⟨_,rfl⟩
 obtain ⟨nf,hnf⟩:∃ n,n=x.fixes.length:=⟨_,rfl⟩
 obtain ⟨nt,hnt⟩:∃ n,n=x.targets.length:=⟨_,rfl⟩
 obtain ⟨ne,hne⟩:∃ n,n=x.entries.length:=⟨_,rfl⟩
 obtain ⟨z,hzr⟩:∃ z,z=x.zero:=⟨_,rfl⟩
 obtain ⟨sk,hsk⟩:∃ z,z=x.stack:=⟨_,rfl⟩
 rw [← hn,← hnd,← hnl,← hnf,← hnt,← hne,← hzr,← hsk]
 rw [← hn] at HRC l1
 rw [← hnd] at HRD l2
 rw [← hnl] at HRL l3
 rw [← hnf] at HRF l4
 rw [← hnt] at HRT l5
 rw [← hne] at HRE l6
 have HN:=hide_ hn.symm
 have HND:=hide_ hnd.symm
 have HNL:=hide_ hnl.symm
 have HNF:=hide_ hnf.symm
 have HNT:=hide_ hnt.symm
 have HNE:=hide_ hne.symm
 have HZ:=hide_ hzr.symm
 have HSK:=hide_ hsk.symm
 dsimp only [objV] at HLA HFA HMA HHA HCP
 rw [← hn,← hnd,← hnl,← hnf,← hnt,← hne,← hzr,← hsk] at HLA HFA HMA HHA
 rw [← hnd] at hnb HCP
 clear hr hx hn hnd hnl hnf hnt hne hzr hsk
 obtain ⟨T,hT⟩:∃ T,T=dataT x:=⟨_,rfl⟩
 rw [← hT] at hz ⊢
 have HT:=hide_ hT.symm
 have HBW:=hide_ hBw
 have HSZ:=hide_ hz
 have HNB:=hide_ hnb
 clear hT hz hBw hzA hzF hnb
 obtain ⟨W1,hW1⟩:∃ W,W=w.alloc (.cells #[.slice cA n cc,.slice dA nd dc,.int .u32 z,.int .u32 sk,.slice lA nl lc,.slice fA nf fc,.slice tA nt tc,.slice eA ne ec] 36):=⟨_,rfl⟩
 have f0:W1.cell? ⟨w.heap.size,0,none⟩=some (.slice cA n cc):=by rw [hW1];go_simp
 have f1:W1.cell? ⟨w.heap.size,1,none⟩=some (.slice dA nd dc):=by rw [hW1];go_simp
 have f2:W1.cell? ⟨w.heap.size,2,none⟩=some (.int .u32 z):=by rw [hW1];go_simp
 have f3:W1.cell? ⟨w.heap.size,3,none⟩=some (.int .u32 sk):=by rw [hW1];go_simp
 have f4:W1.cell? ⟨w.heap.size,4,none⟩=some (.slice lA nl lc):=by rw [hW1];go_simp
 have f5:W1.cell? ⟨w.heap.size,5,none⟩=some (.slice fA nf fc):=by rw [hW1];go_simp
 have f6:W1.cell? ⟨w.heap.size,6,none⟩=some (.slice tA nt tc):=by rw [hW1];go_simp
 have f7:W1.cell? ⟨w.heap.size,7,none⟩=some (.slice eA ne ec):=by rw [hW1];go_simp
 have HB1:=hide_ (show Below w.heap.size w W1 by rw [hW1];exact (Below.refl _ _).alloc (Nat.le_refl _) _)
 have hlt0:w.heap.size<W1.heap.size:=by rw [hW1];simp
 obtain ⟨hs,hhs⟩:∃ b,b=hasL x.labels 2:=⟨_,rfl⟩
 rw [← hhs] at HHA
 have HHS:=hide_ hhs.symm
 clear hhs
 go_enter Tryz.func90,Tryz.ntmps90
 go_upto_region 1 with (fail)
 rw [← hW1]
 clear hW1
 have F0:=hide_ f0
 have F1:=hide_ f1
 have F2:=hide_ f2
 have F3:=hide_ f3
 have F4:=hide_ f4
 have F5:=hide_ f5
 have F6:=hide_ f6
 have F7:=hide_ f7
 clear f0 f1 f2 f3 f4 f5 f6 f7
 go_cut [15] from 7 to 15 (fun b wx=>b=.bool (decide (nd=0) && !hs)∧Below W1.heap.size W1 wx)
 case first =>
  have f0:=F0.out
  have f1:=F1.out
  have f2:=F2.out
  have f3:=F3.out
  have f4:=F4.out
  have f5:=F5.out
  have f6:=F6.out
  have f7:=F7.out
  by_cases hn0:nd=0
  ·have e0:((nd:Int) == 0)=true:=by rw [hn0];rfl
   have HN0:=hide_ hn0
   clear hn0
   go_wp2_with fail
   refine (HHA.out _ HB1.out).mono ?_
   rintro e w2 ⟨rfl,hb2⟩
   have HB2:=hide_ hb2
   clear hb2
   go_wp2
   go_meet
   exact ⟨by rw [decide_eq_true HN0.out];cases hs <;> rfl,HB2.out⟩
  ·have e0:((nd:Int) == 0)=false:=by simp;omega
   have HN0:=hide_ hn0
   clear hn0
   go_wp2
   go_meet
   exact ⟨by rw [decide_eq_false HN0.out];rfl,Below.refl _ _⟩
 case rest =>
  obtain ⟨rfl,hbc⟩:=hcut
  have HBC:=hide_ hbc
  clear hbc
  have hltc:=Nat.lt_of_lt_of_le hlt0 HBC.out.size
  have F0:=hide_ ((HBC.out.cell (p:=⟨w.heap.size,0,none⟩) hlt0).trans F0.out)
  have F1:=hide_ ((HBC.out.cell (p:=⟨w.heap.size,1,none⟩) hlt0).trans F1.out)
  have F2:=hide_ ((HBC.out.cell (p:=⟨w.heap.size,2,none⟩) hlt0).trans F2.out)
  have F3:=hide_ ((HBC.out.cell (p:=⟨w.heap.size,3,none⟩) hlt0).trans F3.out)
  have F4:=hide_ ((HBC.out.cell (p:=⟨w.heap.size,4,none⟩) hlt0).trans F4.out)
  have F5:=hide_ ((HBC.out.cell (p:=⟨w.heap.size,5,none⟩) hlt0).trans F5.out)
  have F6:=hide_ ((HBC.out.cell (p:=⟨w.heap.size,6,none⟩) hlt0).trans F6.out)
  have F7:=hide_ ((HBC.out.cell (p:=⟨w.heap.size,7,none⟩) hlt0).trans F7.out)
  have HB1:=hide_ (HB1.out.trans (HBC.out.mono HB1.out.size))
  have hlt0:=hltc
  obtain ⟨W1,hq1⟩:∃ W,W=wc:=⟨_,rfl⟩
  rw [← hq1] at F0 F1 F2 F3 F4 F5 F6 F7 HB1 hlt0 ⊢
  clear hq1 hltc HBC
  obtain ⟨cd,hcd⟩:∃ c,c=(decide (nd=0) && !hs):=⟨_,rfl⟩
  rw [← hcd]
  have HCD:=hide_ hcd
  clear hcd
  cases cd
  ·have HT2:=hide_ (show ⟨#[100,97,116,97,10]⟩ ++ dataR x nd 0=T by
    rw [← HT.out,dataT,if_neg,HND.out]
    rintro ⟨h1,h2⟩
    have h3:=HCD.out
    rw [← HHS.out,h2,← HND.out,h1] at h3
    simp at h3)
   have H00:=hide_ (Out.nil_ W1)
   have HQ0:=hide_ (show e0B.size+(⟨#[100,97,116,97,10]⟩:ByteArray).size≤140737488355328 by decide)
   go_wp2_with (at_builtin;refine Lib.wpList_append_own_string _ rfl _ _ 24 9 rfl W1.heap.size 5 i0 Tryz.underlying24 Tryz.underlying9 hi0 hz0 hz1 hz2 _ _ _ rfl H00.out.own ⟨#[100,97,116,97,10]⟩ rfl (by have:=HQ0.out;unfold maxLen;omega) (by have:=HQ0.out;omega) H00.out.size ?_)
   intro vq w0 hownq hgrowq _
   have HO0:=hide_ (H00.out.app_ ⟨#[100,97,116,97,10]⟩ hownq (by first | rfl | (simp only [ba_size];rfl) | (simp only [ba_size];omega)) hgrowq)
   obtain ⟨S0,hSq⟩:∃ q,q=e0B ++ ⟨#[100,97,116,97,10]⟩:=⟨_,rfl⟩
   rw [← hSq] at HO0
   have HS0:=hide_ hSq
   obtain ⟨A0,cA0,rfl,_⟩:=HO0.out.slice
   clear hownq hgrowq hSq
   have HST:=hide_ (show S0 ++ dataR x nd 0=T by rw [← HT2.out,HS0.out,nil_ba])
   go_wp2
   go_loopw [3,4] (fun v i wr=>∃ (k f:Nat) (S:ByteArray),k≤nd+4∧nd≤k+f∧i=.int .i64 k∧Hid (S ++ dataR x f k=T)∧Hid (Out W1.heap.size W1 wr v S)) (fun _ i _=>nd - (intOf i).toNat)
   case atStart=>exact ⟨0,nd,_,by omega,by omega,rfl,HST,HO0⟩
   case round =>
    clear HO0 HST HQ0 H00
    obtain ⟨k,f,S,hk,hkf,rfl,HS,HO⟩:=hrel
    obtain ⟨A,c,rfl,_⟩:=HO.out.slice
    have f0:=(HO.out.bel.cell (p:=⟨w.heap.size,0,none⟩) hlt0).trans F0.out
    have f1:=(HO.out.bel.cell (p:=⟨w.heap.size,1,none⟩) hlt0).trans F1.out
    have f2:=(HO.out.bel.cell (p:=⟨w.heap.size,2,none⟩) hlt0).trans F2.out
    have f3:=(HO.out.bel.cell (p:=⟨w.heap.size,3,none⟩) hlt0).trans F3.out
    have f4:=(HO.out.bel.cell (p:=⟨w.heap.size,4,none⟩) hlt0).trans F4.out
    have f5:=(HO.out.bel.cell (p:=⟨w.heap.size,5,none⟩) hlt0).trans F5.out
    have f6:=(HO.out.bel.cell (p:=⟨w.heap.size,6,none⟩) hlt0).trans F6.out
    have f7:=(HO.out.bel.cell (p:=⟨w.heap.size,7,none⟩) hlt0).trans F7.out
    have hltx:=Nat.lt_of_lt_of_le hlt0 HO.out.bel.size
    by_cases hlt:k<nd
    ·obtain ⟨f,rfl⟩:∃ g,f=g+1:=⟨f - 1,by omega⟩
     have hS:=HS.out
     rw [dataR_step (by have:=HND.out;omega)] at hS
     obtain ⟨at1,hat⟩:∃ a,a=atL x.labels 2 (k:Int):=⟨_,rfl⟩
     obtain ⟨fx,hfx⟩:∃ a,a=fixT x.fixes 2 (k:Int):=⟨_,rfl⟩
     have HLK:=hide_ (fun W hw=>HLA.out W hw k (by have:=HND.out;omega))
     have HFK:=hide_ (fun W hw=>HFA.out W hw k (by have:=HND.out;omega))
     rw [← hat] at HLK hS
     rw [← hfx] at HFK hS
     have HSS:=hide_ hS
     have hss:=congrArg ByteArray.size hS
     simp only [ba_size] at hss
     have hTz:=HSZ.out
     have HQ1:=hide_ (show S.size+at1.size≤140737488355328 by omega)
     have wk:IntKind.u32.wrap (k:Int)=(k:Int):=IntWalk.u32_in _ (by have:=HNB.out;omega)
     clear hS hss hat hfx hTz
     go_wp2_with fail
     refine (HLK.out _ (HB1.out.trans (HO.out.bel.mono HB1.out.size))).mono ?_
     rintro e w4 ⟨rfl,hb4⟩
     have HO4:=hide_ (HO.out.below hb4)
     clear hb4
     clear f0 f1 f2 f3 f4 f5 f6 f7 hltx
     go_wp2_with (at_builtin;refine Lib.wpList_append_own_string _ rfl _ _ 24 9 rfl W1.heap.size 5 i0 Tryz.underlying24 Tryz.underlying9 hi0 hz0 hz1 hz2 _ _ _ rfl HO4.out.own at1 rfl (by have:=HQ1.out;unfold maxLen;omega) (by have:=HQ1.out;omega) HO4.out.size ?_)
     intro vq w5 hownq hgrowq _
     have HO5:=hide_ (HO4.out.app_ at1 hownq (by first | rfl | (simp only [ba_size];rfl) | (simp only [ba_size];omega)) hgrowq)
     obtain ⟨S5,hSq⟩:∃ q,q=S ++ at1:=⟨_,rfl⟩
     rw [← hSq] at HO5
     have HS5:=hide_ hSq
     obtain ⟨A5,cA5,rfl,_⟩:=HO5.out.slice
     clear hownq hgrowq hSq
     have f0:=(HO5.out.bel.cell (p:=⟨w.heap.size,0,none⟩) hlt0).trans F0.out
     have f1:=(HO5.out.bel.cell (p:=⟨w.heap.size,1,none⟩) hlt0).trans F1.out
     have f2:=(HO5.out.bel.cell (p:=⟨w.heap.size,2,none⟩) hlt0).trans F2.out
     have f3:=(HO5.out.bel.cell (p:=⟨w.heap.size,3,none⟩) hlt0).trans F3.out
     have f4:=(HO5.out.bel.cell (p:=⟨w.heap.size,4,none⟩) hlt0).trans F4.out
     have f5:=(HO5.out.bel.cell (p:=⟨w.heap.size,5,none⟩) hlt0).trans F5.out
     have f6:=(HO5.out.bel.cell (p:=⟨w.heap.size,6,none⟩) hlt0).trans F6.out
     have f7:=(HO5.out.bel.cell (p:=⟨w.heap.size,7,none⟩) hlt0).trans F7.out
     have hltx:=Nat.lt_of_lt_of_le hlt0 HO5.out.bel.size
     go_wp2_with fail
     refine (HFK.out _ (HB1.out.trans (HO5.out.bel.mono HB1.out.size))).mono ?_
     rintro e w7 ⟨rfl,hb7⟩
     have HO7:=hide_ (HO5.out.below hb7)
     clear hb7
     clear f0 f1 f2 f3 f4 f5 f6 f7 hltx
     by_cases hfe:fx=e0B
     ·have hq:(fx.toList == ([]:List UInt8))=true:=by rw [str_empty,decide_eq_true hfe]
      have HSF:=hide_ (show S ++ (at1 ++ (⟨#[9,98,121,116,101,115,32]⟩ ++ showT ((x.data.drop k).take (stopK x k - k)) ++ ⟨#[10]⟩ ++ dataR x f (stopK x k)))=T by
       have h:=HSS.out
       rw [if_pos hfe] at h
       exact h)
      clear hfe
      have HG0:=hide_ (show stopG x (k+16 - (k+1)) (k+1)=stopK x k by rw [show k+16 - (k+1)=15 by omega];rfl)
      go_wp2
      go_loopw [6] (fun j wr=>∃ (m:Nat),j=.int .i64 m∧k<m∧m≤nd∧m≤k+16∧Hid (stopG x (k+16 - m) m=stopK x k)∧Below w7.heap.size w7 wr) (fun j _=>nd - (intOf j).toNat)
      case atStart=>exact ⟨k+1,by go_num,by omega,by omega,by omega,HG0,Below.refl _ _⟩
      case round =>
       clear HG0 hq
       obtain ⟨m,rfl,hm1,hm2,hm3,HG,hbr⟩:=hrel
       have HBR:=hide_ hbr
       have HO8:=hide_ (HO7.out.below hbr)
       clear hbr
       have wm:IntKind.u32.wrap (m:Int)=(m:Int):=IntWalk.u32_in _ (by have:=HNB.out;omega)
       have HHM:m<nd→Hid (m<x.data.length):=fun h=>hide_ (by have:=HND.out;omega)
       go_upto_region 13 with (fail)
       go_cut [68] from 44 to 70 (fun b wx=>b=.bool (goOn x k m)∧Below wr.heap.size wr wx)
       case first =>
        have f0:=(HO8.out.bel.cell (p:=⟨w.heap.size,0,none⟩) hlt0).trans F0.out
        have f1:=(HO8.out.bel.cell (p:=⟨w.heap.size,1,none⟩) hlt0).trans F1.out
        have f2:=(HO8.out.bel.cell (p:=⟨w.heap.size,2,none⟩) hlt0).trans F2.out
        have f3:=(HO8.out.bel.cell (p:=⟨w.heap.size,3,none⟩) hlt0).trans F3.out
        have f4:=(HO8.out.bel.cell (p:=⟨w.heap.size,4,none⟩) hlt0).trans F4.out
        have f5:=(HO8.out.bel.cell (p:=⟨w.heap.size,5,none⟩) hlt0).trans F5.out
        have f6:=(HO8.out.bel.cell (p:=⟨w.heap.size,6,none⟩) hlt0).trans F6.out
        have f7:=(HO8.out.bel.cell (p:=⟨w.heap.size,7,none⟩) hlt0).trans F7.out
        have hltx:=Nat.lt_of_lt_of_le hlt0 HO8.out.bel.size
        by_cases g1:m<nd
        ·have hg1:=HHM g1
         by_cases g2:m<k+16
         ·have g2i:(m:Int)<(k:Int)+16:=by omega
          go_wp2_with fail
          obtain ⟨mk,hmk⟩:∃ a,a=decide (atL x.labels 2 (m:Int)≠e0B):=⟨_,rfl⟩
          obtain ⟨fy,hfy⟩:∃ a,a=fixT x.fixes 2 (m:Int):=⟨_,rfl⟩
          have HMm:=hide_ (fun W hw=>HMA.out W hw m (by have:=HND.out;omega))
          have HFm:=hide_ (fun W hw=>HFA.out W hw m (by have:=HND.out;omega))
          rw [← hmk] at HMm
          rw [← hfy] at HFm
          have HCL:=hide_ (show goOn x k m=(!mk && decide (fy=e0B)) by
           rw [goOn,decide_eq_true hg1.out,decide_eq_true g2,clearD,← hfy,hmk]
           simp)
          clear hmk hfy
          refine (HMm.out _ (HB1.out.trans (HO8.out.bel.mono HB1.out.size))).mono ?_
          rintro e w9 ⟨rfl,hb9⟩
          have HB9:=hide_ hb9
          have HO9:=hide_ (HO8.out.below hb9)
          clear hb9
          clear f0 f1 f2 f3 f4 f5 f6 f7 hltx
          cases mk
          ·
           have f0:=(HO9.out.bel.cell (p:=⟨w.heap.size,0,none⟩) hlt0).trans F0.out
           have f1:=(HO9.out.bel.cell (p:=⟨w.heap.size,1,none⟩) hlt0).trans F1.out
           have f2:=(HO9.out.bel.cell (p:=⟨w.heap.size,2,none⟩) hlt0).trans F2.out
           have f3:=(HO9.out.bel.cell (p:=⟨w.heap.size,3,none⟩) hlt0).trans F3.out
           have f4:=(HO9.out.bel.cell (p:=⟨w.heap.size,4,none⟩) hlt0).trans F4.out
           have f5:=(HO9.out.bel.cell (p:=⟨w.heap.size,5,none⟩) hlt0).trans F5.out
           have f6:=(HO9.out.bel.cell (p:=⟨w.heap.size,6,none⟩) hlt0).trans F6.out
           have f7:=(HO9.out.bel.cell (p:=⟨w.heap.size,7,none⟩) hlt0).trans F7.out
           have hltx:=Nat.lt_of_lt_of_le hlt0 HO9.out.bel.size
           go_wp2_with fail
           refine (HFm.out _ (HB1.out.trans (HO9.out.bel.mono HB1.out.size))).mono ?_
           rintro e w10 ⟨rfl,hb10⟩
           have HB10:=hide_ (HB9.out.trans (hb10.mono HB9.out.size))
           clear hb10
           clear f0 f1 f2 f3 f4 f5 f6 f7 hltx
           by_cases hf0:fy=e0B
           ·have hq:(fy.toList == ([]:List UInt8))=true:=by rw [str_empty,decide_eq_true hf0]
            have HGO:=hide_ (show goOn x k m=true by rw [HCL.out,decide_eq_true hf0];rfl)
            clear hf0
            go_wp2
            go_meet
            exact ⟨by rw [HGO.out],HB10.out⟩
           ·have hq:(fy.toList == ([]:List UInt8))=false:=by rw [str_empty,decide_eq_false hf0]
            have HGO:=hide_ (show goOn x k m=false by rw [HCL.out,decide_eq_false hf0];rfl)
            clear hf0
            go_wp2
            go_meet
            exact ⟨by rw [HGO.out],HB10.out⟩
          ·have HGO:=hide_ (show goOn x k m=false by rw [HCL.out];rfl)
           go_wp2
           go_meet
           exact ⟨by rw [HGO.out],HB9.out⟩
         ·have HGO:=hide_ (show goOn x k m=false by rw [goOn,decide_eq_false g2,Bool.and_false,Bool.false_and])
          have g2i:¬ (m:Int)<(k:Int)+16:=by omega
          go_wp2
          go_meet
          exact ⟨by rw [HGO.out],Below.refl _ _⟩
        ·have HGO:=hide_ (show goOn x k m=false by rw [goOn,decide_eq_false (by have:=HND.out;omega),Bool.false_and,Bool.false_and])
         go_wp2
         go_meet
         exact ⟨by rw [HGO.out],Below.refl _ _⟩
       case rest =>
        obtain ⟨rfl,hbc⟩:=hcut
        have HO9:=hide_ (HO8.out.below hbc)
        have HBc:=hide_ (HBR.out.trans (hbc.mono HBR.out.size))
        clear hbc
        obtain ⟨g,hg⟩:∃ g,g=goOn x k m:=⟨_,rfl⟩
        rw [← hg]
        have HGG:=hide_ hg
        clear hg
        cases g
        ·have HME:=hide_ (show m=stopK x k by
          have h1:=HGG.out
          have h2:=HG.out
          rw [goOn] at h1
          rw [stop_end] at h2
          ·exact h2
          ·by_cases g1:m<x.data.length
           ·by_cases g2:m<k+16
            ·right;right
             rw [decide_eq_true g1,decide_eq_true g2] at h1
             simpa using h1.symm
            ·exact .inl g2
           ·exact .inr (.inl g1))
         obtain ⟨ad,hda,hpart⟩:=reads_part HRD.out hm1 hm2
         subst hda
         have HPART:=hide_ (fun W (hw:Below w.heap.size w W)=>rShow_any (some (ad.add k)) (m - k) (dc - k) _ B W (hpart.below (hw.mono HBW.out)) (Nat.le_trans HBW.out hw.size) (by omega) (fun q hq=>HX.out.data q (List.mem_of_mem_drop (List.mem_of_mem_take hq))))
         clear hpart
         have f0:=(HO9.out.bel.cell (p:=⟨w.heap.size,0,none⟩) hlt0).trans F0.out
         have f1:=(HO9.out.bel.cell (p:=⟨w.heap.size,1,none⟩) hlt0).trans F1.out
         have f2:=(HO9.out.bel.cell (p:=⟨w.heap.size,2,none⟩) hlt0).trans F2.out
         have f3:=(HO9.out.bel.cell (p:=⟨w.heap.size,3,none⟩) hlt0).trans F3.out
         have f4:=(HO9.out.bel.cell (p:=⟨w.heap.size,4,none⟩) hlt0).trans F4.out
         have f5:=(HO9.out.bel.cell (p:=⟨w.heap.size,5,none⟩) hlt0).trans F5.out
         have f6:=(HO9.out.bel.cell (p:=⟨w.heap.size,6,none⟩) hlt0).trans F6.out
         have f7:=(HO9.out.bel.cell (p:=⟨w.heap.size,7,none⟩) hlt0).trans F7.out
         have hltx:=Nat.lt_of_lt_of_le hlt0 HO9.out.bel.size
         have c1:m≤dc:=Nat.le_trans hm2 HCP.out
         have c2:k≤m:=by omega
         have c3:¬ dc=k:=by omega
         obtain ⟨sh,hsh⟩:∃ a,a=strOfNums (showL ((x.data.drop k).take (m - k))):=⟨_,rfl⟩
         rw [← hsh] at HPART
         have HSG2:=hide_ (show S ++ (at1 ++ (⟨#[9,98,121,116,101,115,32]⟩ ++ sh ++ ⟨#[10]⟩ ++ dataR x f m))=T by
          have h:=HSF.out
          rw [← HME.out,showT,← hsh] at h
          exact h)
         have hss:=congrArg ByteArray.size HSG2.out
         simp only [ba_size] at hss
         have hz5:S5.size=S.size+at1.size:=by rw [HS5.out,ba_size]
         have hTz:=HSZ.out
         have hk7:(⟨#[9,98,121,116,101,115,32]⟩:ByteArray).size=7:=rfl
         have hk1:(⟨#[10]⟩:ByteArray).size=1:=rfl
         have HQ3:=hide_ (show S5.size+(⟨#[9,98,121,116,101,115,32]⟩ ++ sh ++ ⟨#[10]⟩).size≤140737488355328 by rw [ba_size,ba_size];omega)
         have hm5:¬ 9223372036854775807<7+sh.size:=by omega
         have hm6:¬ 9223372036854775807<7+sh.size+1:=by omega
         clear hss hz5 hTz hk7 hk1 hsh
         go_wp2_with fail
         refine (HPART.out _ (HB1.out.trans (HO9.out.bel.mono HB1.out.size))).mono ?_
         rintro e w11 ⟨rfl,hb11⟩
         have HO11:=hide_ (HO9.out.below hb11)
         clear hb11 c1 c2 c3
         clear f0 f1 f2 f3 f4 f5 f6 f7 hltx
         go_wp2_with (at_builtin;refine Lib.wpList_append_own_string _ rfl _ _ 24 9 rfl W1.heap.size 5 i0 Tryz.underlying24 Tryz.underlying9 hi0 hz0 hz1 hz2 _ _ _ rfl HO11.out.own (⟨#[9,98,121,116,101,115,32]⟩ ++ sh ++ ⟨#[10]⟩) rfl (by have:=HQ3.out;unfold maxLen;omega) (by have:=HQ3.out;omega) HO11.out.size ?_)
         intro vq w12 hownq hgrowq _
         have HO12:=hide_ (HO11.out.app_ (⟨#[9,98,121,116,101,115,32]⟩ ++ sh ++ ⟨#[10]⟩) hownq (by first | rfl | (simp only [ba_size];rfl) | (simp only [ba_size];omega)) hgrowq)
         obtain ⟨S12,hSq⟩:∃ q,q=S5 ++ (⟨#[9,98,121,116,101,115,32]⟩ ++ sh ++ ⟨#[10]⟩):=⟨_,rfl⟩
         rw [← hSq] at HO12
         have HS12:=hide_ hSq
         obtain ⟨A12,cA12,rfl,_⟩:=HO12.out.slice
         clear hownq hgrowq hSq
         have HSE:=hide_ (show S12 ++ dataR x f m=T by
          rw [← HSG2.out,HS12.out,HS5.out]
          simp only [ba_assoc])
         go_wp2
         go_roundw
         case rel=>exact ⟨m,f,S12,by omega,by omega,by go_num,HSE,HO12⟩
         case measure=>simp [intOf];omega
        ·have HGN:=hide_ (show stopG x (k+16 - (m+1)) (m+1)=stopK x k∧m<x.data.length∧m<k+16 by
          have h1:=HGG.out
          rw [goOn] at h1
          have h2:=h1.symm
          rw [Bool.and_eq_true,Bool.and_eq_true,decide_eq_true_eq,decide_eq_true_eq] at h2
          exact ⟨by rw [← stop_step h2.1.2 h2.1.1 h2.2];exact HG.out,h2.1.1,h2.1.2⟩)
         go_wp2
         go_roundw
         case rel=>exact ⟨m+1,by go_num,by omega,by have:=HGN.out.2.1;have:=HND.out;omega,by have:=HGN.out.2.2;omega,hide_ HGN.out.1,HBc.out⟩
         case measure=>have:=HGN.out.2.1;have:=HND.out;simp [intOf];omega
     ·have hq:(fx.toList == ([]:List UInt8))=false:=by rw [str_empty,decide_eq_false hfe]
      have HSF:=hide_ (show S ++ (at1 ++ (⟨#[9,119,111,114,100,32]⟩ ++ fx ++ ⟨#[10]⟩ ++ dataR x f (k+4)))=T by
       have h:=HSS.out
       rw [if_neg hfe] at h
       exact h)
      have hss:=congrArg ByteArray.size HSF.out
      simp only [ba_size] at hss
      have hz5:S5.size=S.size+at1.size:=by rw [HS5.out,ba_size]
      have hTz:=HSZ.out
      have hk7:(⟨#[9,119,111,114,100,32]⟩:ByteArray).size=6:=rfl
      have hk1:(⟨#[10]⟩:ByteArray).size=1:=rfl
      have HQ3:=hide_ (show S5.size+(⟨#[9,119,111,114,100,32]⟩ ++ fx ++ ⟨#[10]⟩).size≤140737488355328 by rw [ba_size,ba_size];omega)
      have hm3:¬ 9223372036854775807<6+fx.size:=by omega
      have hm4:¬ 9223372036854775807<6+fx.size+1:=by omega
      have w4i:IntKind.i64.wrap ((k:Int)+4)=(k:Int)+4:=IntWalk.i64_in _ (by have:=HNB.out;omega)
      clear hss hz5 hTz hfe hk7 hk1
      go_wp2_with (at_builtin;refine Lib.wpList_append_own_string _ rfl _ _ 24 9 rfl W1.heap.size 5 i0 Tryz.underlying24 Tryz.underlying9 hi0 hz0 hz1 hz2 _ _ _ rfl HO7.out.own (⟨#[9,119,111,114,100,32]⟩ ++ fx ++ ⟨#[10]⟩) rfl (by have:=HQ3.out;unfold maxLen;omega) (by have:=HQ3.out;omega) HO7.out.size ?_)
      intro vq w9 hownq hgrowq _
      have HO9:=hide_ (HO7.out.app_ (⟨#[9,119,111,114,100,32]⟩ ++ fx ++ ⟨#[10]⟩) hownq (by first | rfl | (simp only [ba_size];rfl) | (simp only [ba_size];omega)) hgrowq)
      obtain ⟨S9,hSq⟩:∃ q,q=S5 ++ (⟨#[9,119,111,114,100,32]⟩ ++ fx ++ ⟨#[10]⟩):=⟨_,rfl⟩
      rw [← hSq] at HO9
      have HS9:=hide_ hSq
      obtain ⟨A9,cA9,rfl,_⟩:=HO9.out.slice
      clear hownq hgrowq hSq
      have HSE:=hide_ (show S9 ++ dataR x f (k+4)=T by
       rw [← HSF.out,HS9.out,HS5.out]
       simp only [ba_assoc])
      clear hq
      go_wp2
      go_roundw
      case rel=>exact ⟨k+4,f,S9,by omega,by omega,by go_num,HSE,HO9⟩
      case measure=>simp [intOf];omega
    ·obtain ⟨at1,hat⟩:∃ a,a=atL x.labels 2 (nd:Int):=⟨_,rfl⟩
     have HLK:=hide_ (fun W hw=>HLA.out W hw nd (by have:=HND.out;omega))
     rw [← hat] at HLK
     have HSF:=hide_ (show S ++ at1=T by
      have h:=HS.out
      rw [dataR_end (by have:=HND.out;omega),HND.out,← hat] at h
      exact h)
     have hss:=congrArg ByteArray.size HSF.out
     rw [ba_size] at hss
     have HQ1:=hide_ (show S.size+at1.size≤140737488355328 by have:=HSZ.out;omega)
     have wk:IntKind.u32.wrap (nd:Int)=(nd:Int):=IntWalk.u32_in _ (by have:=HNB.out;omega)
     clear hat hss
     go_wp2_with fail
     refine (HLK.out _ (HB1.out.trans (HO.out.bel.mono HB1.out.size))).mono ?_
     rintro e w4 ⟨rfl,hb4⟩
     have HO4:=hide_ (HO.out.below hb4)
     clear hb4
     clear f0 f1 f2 f3 f4 f5 f6 f7 hltx
     go_wp2_with (at_builtin;refine Lib.wpList_append_own_string _ rfl _ _ 24 9 rfl W1.heap.size 5 i0 Tryz.underlying24 Tryz.underlying9 hi0 hz0 hz1 hz2 _ _ _ rfl HO4.out.own at1 rfl (by have:=HQ1.out;unfold maxLen;omega) (by have:=HQ1.out;omega) HO4.out.size ?_)
     intro vq w5 hownq hgrowq _
     have HO5:=hide_ (HO4.out.app_ at1 hownq (by first | rfl | (simp only [ba_size];rfl) | (simp only [ba_size];omega)) hgrowq)
     obtain ⟨S5,hSq⟩:∃ q,q=S ++ at1:=⟨_,rfl⟩
     rw [← hSq] at HO5
     have HS5:=hide_ hSq
     obtain ⟨A5,cA5,rfl,_⟩:=HO5.out.slice
     clear hownq hgrowq hSq
     have hcv:=str_of_out HO5.out
     go_wp2
     go_ret
     exact ⟨by rw [← HSF.out,← HS5.out];rfl,HB1.out.trans (HO5.out.bel.mono HB1.out.size)⟩
  ·have HT2:=hide_ (show e0B=T by
    rw [← HT.out,dataT,if_pos]
    have h3:=HCD.out
    rw [← HHS.out,← HND.out] at h3
    cases h4:hasL x.labels 2
    ·rw [h4] at h3
     exact ⟨by simpa using h3.symm,rfl⟩
    ·rw [h4] at h3
     simp at h3)
   go_wp2
   go_ret
   exact ⟨by rw [← HT2.out];rfl,HB1.out⟩
end Go.Proofs.YtikbegmodacopaaGreatDoor
namespace Go.Proofs.YtikbegmodacopaaGreatDoor
open Go.RowKit Go.PlainAid Go.BigFrame
set_option linter.unusedSimpArgs false
set_option linter.unusedVariables false
set_option maxRecDepth 100000
theorem zeroR_skip {z:Int} {l:LabV} {L:List LabV} {a:Int} (h:¬ l.sec=3):zeroR z (l :: L) a=zeroR z L a:=by rw [zeroR,if_neg h]
theorem zeroR_at {z:Int} {l:LabV} {L:List LabV} {a:Int} (h:l.sec=3) (h2:¬ a<l.at_):zeroR z (l :: L) a=labLn l ++ zeroR z L a:=by rw [zeroR,if_pos h,if_neg h2]
theorem zeroR_on {z:Int} {l:LabV} {L:List LabV} {a:Int} (h:l.sec=3) (h2:a<l.at_):zeroR z (l :: L) a=spaceT (l.at_ - a) ++ (labLn l ++ zeroR z L l.at_):=by rw [zeroR,if_pos h,if_pos h2]
set_option maxHeartbeats 16000000 in
theorem zeroText_any (x:ObjV) (s:ObjS) (B:Nat) (w:World) (hx:ObjOk x) (hr:ObjR w B x s) (hBw:B≤w.heap.size) (hz:(zeroT x).size≤140737488351232) :
  Calls Tryz.prog 91 #[.agg (objV x s)] w fun e w'=>e=.returned (.string (zeroT x))∧Below w.heap.size w w':=by
 have HHA:=hide_ (fun W (hw:Below w.heap.size w W)=>has_any x s B 3 W hx (hr.below (hw.mono hBw)) (Nat.le_trans hBw hw.size))
 have HZZ:=hide_ hx.zero
 obtain ⟨⟨cA,cc⟩,⟨dA,dc⟩,⟨lA,lc⟩,⟨fA,fc⟩,⟨tA,tc⟩,⟨eA,ec⟩⟩:=s
 have HRC:=hide_ hr.rc
 have HRD:=hide_ hr.rd
 have HRL:=hide_ hr.rl
 have HRF:=hide_ hr.rf
 have HRT:=hide_ hr.rt
 have HRE:=hide_ hr.re
 obtain ⟨l1,l2,l3,l4,l5,l6⟩:=hx.lens
 have HX:=hide_ hx
 dsimp only [objV] at HRC HRD HRL HRF HRT HRE ⊢
 obtain ⟨n,hn⟩:∃ n,n=x.code.length:=⟨_,rfl⟩
 obtain ⟨nd,hnd⟩:∃ n,n=x.data.length:=⟨_,rfl⟩
 obtain ⟨nl,hnl⟩:∃ n,n=x.labels.length:=⟨_,rfl⟩
 obtain ⟨nf,hnf⟩:∃ n,n=x.fixes.length:=⟨_,rfl⟩
 obtain ⟨nt,hnt⟩:∃ n,n=x.targets.length:=⟨_,rfl⟩
 obtain ⟨ne,hne⟩:∃ n,n=x.entries.length:=⟨_,rfl⟩
 obtain ⟨z,hzr⟩:∃ z,z=x.zero:=⟨_,rfl⟩
 obtain ⟨sk,hsk⟩:∃ z,z=x.stack:=⟨_,rfl⟩
 rw [← hn,← hnd,← hnl,← hnf,← hnt,← hne,← hzr,← hsk]
 rw [← hn] at HRC l1
 rw [← hnd] at HRD l2
 rw [← hnl] at HRL l3
 rw [← hnf] at HRF l4
 rw [← hnt] at HRT l5
 rw [← hne] at HRE l6
 have HN:=hide_ hn.symm
 have HND:=hide_ hnd.symm
 have HNL:=hide_ hnl.symm
 have HNF:=hide_ hnf.symm
 have HNT:=hide_ hnt.symm
 have HNE:=hide_ hne.symm
 have HZ:=hide_ hzr.symm
 have HSK:=hide_ hsk.symm
 dsimp only [objV] at HHA
 rw [← hn,← hnd,← hnl,← hnf,← hnt,← hne,← hzr,← hsk] at HHA
 rw [← hzr] at HZZ
 clear hr hx hn hnd hnl hnf hnt hne hzr hsk
 obtain ⟨z0,z1⟩:=HZZ.out
 obtain ⟨T,hT⟩:∃ T,T=zeroT x:=⟨_,rfl⟩
 rw [← hT] at hz ⊢
 have HT:=hide_ hT.symm
 have HBW:=hide_ hBw
 have HSZ:=hide_ hz
 clear hT hz hBw
 obtain ⟨W1,hW1⟩:∃ W,W=w.alloc (.cells #[.slice cA n cc,.slice dA nd dc,.int .u32 z,.int .u32 sk,.slice lA nl lc,.slice fA nf fc,.slice tA nt tc,.slice eA ne ec] 36):=⟨_,rfl⟩
 have f0:W1.cell? ⟨w.heap.size,0,none⟩=some (.slice cA n cc):=by rw [hW1];go_simp
 have f1:W1.cell? ⟨w.heap.size,1,none⟩=some (.slice dA nd dc):=by rw [hW1];go_simp
 have f2:W1.cell? ⟨w.heap.size,2,none⟩=some (.int .u32 z):=by rw [hW1];go_simp
 have f3:W1.cell? ⟨w.heap.size,3,none⟩=some (.int .u32 sk):=by rw [hW1];go_simp
 have f4:W1.cell? ⟨w.heap.size,4,none⟩=some (.slice lA nl lc):=by rw [hW1];go_simp
 have f5:W1.cell? ⟨w.heap.size,5,none⟩=some (.slice fA nf fc):=by rw [hW1];go_simp
 have f6:W1.cell? ⟨w.heap.size,6,none⟩=some (.slice tA nt tc):=by rw [hW1];go_simp
 have f7:W1.cell? ⟨w.heap.size,7,none⟩=some (.slice eA ne ec):=by rw [hW1];go_simp
 have HB1:=hide_ (show Below w.heap.size w W1 by rw [hW1];exact (Below.refl _ _).alloc (Nat.le_refl _) _)
 have hlt0:w.heap.size<W1.heap.size:=by rw [hW1];simp
 obtain ⟨hs,hhs⟩:∃ b,b=hasL x.labels 3:=⟨_,rfl⟩
 rw [← hhs] at HHA
 have HHS:=hide_ hhs.symm
 clear hhs
 go_enter Tryz.func91,Tryz.ntmps91
 go_upto_region 1 with (fail)
 rw [← hW1]
 clear hW1
 have F0:=hide_ f0
 have F1:=hide_ f1
 have F2:=hide_ f2
 have F3:=hide_ f3
 have F4:=hide_ f4
 have F5:=hide_ f5
 have F6:=hide_ f6
 have F7:=hide_ f7
 clear f0 f1 f2 f3 f4 f5 f6 f7
 go_cut [14] from 7 to 14 (fun b wx=>b=.bool (decide (z=0) && !hs)∧Below W1.heap.size W1 wx)
 case first =>
  have f0:=F0.out
  have f1:=F1.out
  have f2:=F2.out
  have f3:=F3.out
  have f4:=F4.out
  have f5:=F5.out
  have f6:=F6.out
  have f7:=F7.out
  by_cases hn0:z=0
  ·have e0:(z == 0)=true:=by rw [hn0];rfl
   have HN0:=hide_ hn0
   clear hn0
   go_wp2_with fail
   refine (HHA.out _ HB1.out).mono ?_
   rintro e w2 ⟨rfl,hb2⟩
   have HB2:=hide_ hb2
   clear hb2
   go_wp2
   go_meet
   exact ⟨by rw [decide_eq_true HN0.out];cases hs <;> rfl,HB2.out⟩
  ·have e0:(z == 0)=false:=by simpa using hn0
   have HN0:=hide_ hn0
   clear hn0
   go_wp2
   go_meet
   exact ⟨by rw [decide_eq_false HN0.out];rfl,Below.refl _ _⟩
 case rest =>
  obtain ⟨rfl,hbc⟩:=hcut
  have HBC:=hide_ hbc
  clear hbc
  have hltc:=Nat.lt_of_lt_of_le hlt0 HBC.out.size
  have F0:=hide_ ((HBC.out.cell (p:=⟨w.heap.size,0,none⟩) hlt0).trans F0.out)
  have F1:=hide_ ((HBC.out.cell (p:=⟨w.heap.size,1,none⟩) hlt0).trans F1.out)
  have F2:=hide_ ((HBC.out.cell (p:=⟨w.heap.size,2,none⟩) hlt0).trans F2.out)
  have F3:=hide_ ((HBC.out.cell (p:=⟨w.heap.size,3,none⟩) hlt0).trans F3.out)
  have F4:=hide_ ((HBC.out.cell (p:=⟨w.heap.size,4,none⟩) hlt0).trans F4.out)
  have F5:=hide_ ((HBC.out.cell (p:=⟨w.heap.size,5,none⟩) hlt0).trans F5.out)
  have F6:=hide_ ((HBC.out.cell (p:=⟨w.heap.size,6,none⟩) hlt0).trans F6.out)
  have F7:=hide_ ((HBC.out.cell (p:=⟨w.heap.size,7,none⟩) hlt0).trans F7.out)
  have HB1:=hide_ (HB1.out.trans (HBC.out.mono HB1.out.size))
  have hlt0:=hltc
  obtain ⟨W1,hq1⟩:∃ W,W=wc:=⟨_,rfl⟩
  rw [← hq1] at F0 F1 F2 F3 F4 F5 F6 F7 HB1 hlt0 ⊢
  clear hq1 hltc HBC
  obtain ⟨cd,hcd⟩:∃ c,c=(decide (z=0) && !hs):=⟨_,rfl⟩
  rw [← hcd]
  have HCD:=hide_ hcd
  clear hcd
  cases cd
  ·have HT2:=hide_ (show ⟨#[122,101,114,111,10]⟩ ++ zeroR z x.labels 0=T by
    rw [← HT.out,zeroT,if_neg,HZ.out]
    rintro ⟨h1,h2⟩
    have h3:=HCD.out
    rw [← HHS.out,h2,← HZ.out,h1] at h3
    simp at h3)
   go_wp2
   go_loopw [3,4,5] (fun s a i wr=>∃ (k:Nat) (S:ByteArray) (p:Int),k≤nl∧s=.string S∧a=.int .u32 p∧i=.int .i64 k∧0≤p∧p<4294967296∧Hid (S ++ zeroR z (x.labels.drop k) p=T)∧Below W1.heap.size W1 wr) (fun _ _ i _=>nl - (intOf i).toNat)
   case atStart=>exact ⟨0,_,0,by omega,rfl,rfl,rfl,by omega,by omega,HT2,Below.refl _ _⟩
   case round =>
    clear HT2
    obtain ⟨k,S,p,hk,rfl,rfl,rfl,hp0,hp1,HS,hbr⟩:=hrel
    have HBR:=hide_ hbr
    have HLO:=hide_ (HB1.out.trans (hbr.mono HB1.out.size))
    have f2:=(hbr.cell (p:=⟨w.heap.size,2,none⟩) hlt0).trans F2.out
    have f4:=(hbr.cell (p:=⟨w.heap.size,4,none⟩) hlt0).trans F4.out
    have hltx:=Nat.lt_of_lt_of_le hlt0 hbr.size
    clear hbr
    by_cases hlt:k<nl
    ·obtain ⟨⟨nm,lsec,lpl,lop⟩,ht⟩:∃ t,x.labels[k]?=some t:=⟨_,List.getElem?_eq_getElem (by have:=HNL.out;omega)⟩
     have HDR:=hide_ (drop_at ht)
     obtain ⟨hnz,_,lp0,lp1⟩:=HX.out.labels _ (List.mem_of_getElem? ht)
     simp only at hnz lp0 lp1
     obtain ⟨_,ad,rfl,hbk,p0,p1⟩:=el_cells lE_len (HRL.out.below (HLO.out.mono HBW.out)) (by omega) ht
     have x0:=p0 _ rfl
     have x1:=p1 1 _ (by omega) rfl
     have x2:=p1 2 _ (by omega) rfl
     have x3:=p1 3 _ (by omega) rfl
     simp only at x0 x1 x2 x3
     have hbs:(ad.add (k * 4)).block<wr.heap.size:=by have:=HBW.out;have:=HLO.out.size;omega
     have HBA:=hide_ (HBR.out.alloc HBR.out.size (.cells #[.string nm,.int .u8 lsec,.int .u32 lpl,.bool lop] 78))
     clear p0 p1 ht hbk
     by_cases h1:lsec=3
     ·subst h1
      by_cases h2:p<lpl
      ·have hS:=HS.out
       rw [HDR.out,zeroR_on rfl h2,spaceT,labLn] at hS
       dsimp only at hS
       obtain ⟨m,hm⟩:∃ m:Nat,lpl - p=(m:Int):=⟨(lpl - p).toNat,by omega⟩
       rw [hm,Int.toNat_natCast] at hS
       have hw1:IntKind.u32.wrap (lpl - p)=(m:Int):=by rw [IntWalk.u32_in _ (by omega),hm]
       obtain ⟨D,hD⟩:∃ D,D=decT m:=⟨_,rfl⟩
       have HU:=hide_ (fun W=>unsigned_any m (by omega) W)
       rw [← hD] at HU hS
       have HSS:=hide_ hS
       have hss:=congrArg ByteArray.size hS
       simp only [ba_size] at hss
       have hk7:(⟨#[9,115,112,97,99,101,32]⟩:ByteArray).size=7:=rfl
       have hk1:(⟨#[10]⟩:ByteArray).size=1:=rfl
       have hk2:(⟨#[58,10]⟩:ByteArray).size=2:=rfl
       have hTz:=HSZ.out
       have m1:¬ 9223372036854775807<S.size+7:=by omega
       have m2:¬ 9223372036854775807<S.size+7+D.size:=by omega
       have m3:¬ 9223372036854775807<S.size+7+D.size+1:=by omega
       have m4:¬ 9223372036854775807<S.size+7+D.size+1+nm.size:=by omega
       have m5:¬ 9223372036854775807<S.size+7+D.size+1+nm.size+2:=by omega
       have HBAR:=hide_ (HLO.out.alloc HLO.out.size (.cells #[.string nm,.int .u8 3,.int .u32 lpl,.bool lop] 78))
       obtain ⟨W5,hW5⟩:∃ W,W=wr.alloc (.cells #[.string nm,.int .u8 3,.int .u32 lpl,.bool lop] 78):=⟨_,rfl⟩
       have g0:W5.cell? ⟨wr.heap.size,0,none⟩=some (.string nm):=by rw [hW5];go_simp
       have g2:W5.cell? ⟨wr.heap.size,2,none⟩=some (.int .u32 lpl):=by rw [hW5];go_simp
       have hlt5:wr.heap.size<W5.heap.size:=by rw [hW5];simp
       clear hS hss hk7 hk1 hk2 hTz hD
       go_upto_region 11 with (fail)
       rw [← hW5] at HBA ⊢
       clear hW5 f2 f4 x0 x1 x2 x3 hbs hltx
       go_wp2_with fail
       refine (HU.out _).mono ?_
       rintro e w6 ⟨rfl,hb6⟩
       have g0:=(hb6.cell (p:=⟨wr.heap.size,0,none⟩) hlt5).trans g0
       have g2:=(hb6.cell (p:=⟨wr.heap.size,2,none⟩) hlt5).trans g2
       have hlt5:=Nat.lt_of_lt_of_le hlt5 hb6.size
       have HB6:=hide_ (HBA.out.trans (hb6.mono HBA.out.size))
       clear hb6
       have HSE:=hide_ (show (S ++ ⟨#[9,115,112,97,99,101,32]⟩ ++ D ++ ⟨#[10]⟩ ++ nm ++ ⟨#[58,10]⟩) ++ zeroR z (x.labels.drop (k+1)) lpl=T by
        rw [← HSS.out]
        simp only [ba_assoc])
       go_wp2
       go_roundw
       case rel=>exact ⟨k+1,_,lpl,by omega,rfl,rfl,by go_num,by omega,by omega,HSE,HB6.out⟩
       case measure=>simp [intOf];omega
      ·have hS:=HS.out
       rw [HDR.out,zeroR_at rfl h2,labLn] at hS
       dsimp only at hS
       have HSE:=hide_ (show (S ++ nm ++ ⟨#[58,10]⟩) ++ zeroR z (x.labels.drop (k+1)) p=T by
        rw [← hS]
        simp only [ba_assoc])
       have hss:=congrArg ByteArray.size hS
       simp only [ba_size] at hss
       have hk2:(⟨#[58,10]⟩:ByteArray).size=2:=rfl
       have hTz:=HSZ.out
       have m4:¬ 9223372036854775807<S.size+nm.size:=by omega
       have m5:¬ 9223372036854775807<S.size+nm.size+2:=by omega
       clear hS hss hk2 hTz
       go_wp2
       go_roundw
       case rel=>exact ⟨k+1,_,p,by omega,rfl,rfl,by go_num,by omega,by omega,HSE,HBA.out⟩
       case measure=>simp [intOf];omega
     ·have e1:(lsec == 3)=false:=by simpa using h1
      have hS:=HS.out
      rw [HDR.out,zeroR_skip h1] at hS
      have HS2:=hide_ hS
      clear hS h1
      go_wp2
      go_roundw
      case rel=>exact ⟨k+1,S,p,by omega,rfl,rfl,by go_num,by omega,by omega,HS2,HBA.out⟩
      case measure=>simp [intOf];omega
    ·have hS:=HS.out
     rw [List.drop_of_length_le (by have:=HNL.out;omega),zeroR] at hS
     by_cases h2:p<z
     ·rw [if_pos h2,spaceT] at hS
      obtain ⟨m,hm⟩:∃ m:Nat,z - p=(m:Int):=⟨(z - p).toNat,by omega⟩
      rw [hm,Int.toNat_natCast] at hS
      have hw1:IntKind.u32.wrap (z - p)=(m:Int):=by rw [IntWalk.u32_in _ (by omega),hm]
      obtain ⟨D,hD⟩:∃ D,D=decT m:=⟨_,rfl⟩
      have HU:=hide_ (fun W=>unsigned_any m (by omega) W)
      rw [← hD] at HU hS
      have HSE:=hide_ (show S ++ ⟨#[9,115,112,97,99,101,32]⟩ ++ D ++ ⟨#[10]⟩=T by
       rw [← hS]
       simp only [ba_assoc])
      have hss:=congrArg ByteArray.size hS
      simp only [ba_size] at hss
      have hk7:(⟨#[9,115,112,97,99,101,32]⟩:ByteArray).size=7:=rfl
      have hk1:(⟨#[10]⟩:ByteArray).size=1:=rfl
      have hTz:=HSZ.out
      have m1:¬ 9223372036854775807<S.size+7:=by omega
      have m2:¬ 9223372036854775807<S.size+7+D.size:=by omega
      have m3:¬ 9223372036854775807<S.size+7+D.size+1:=by omega
      clear hS hss hk7 hk1 hTz hD
      go_wp2_with fail
      refine (HU.out _).mono ?_
      rintro e w6 ⟨rfl,hb6⟩
      have HB6:=hide_ (HLO.out.trans (hb6.mono HLO.out.size))
      clear hb6 f2 f4
      go_wp2
      go_ret
      exact ⟨by rw [← HSE.out];rfl,HB6.out⟩
     ·rw [if_neg h2,ba_nil] at hS
      have HSE:=hide_ hS
      clear hS
      go_wp2
      go_ret
      exact ⟨by rw [← HSE.out];rfl,HLO.out⟩
  ·have HT2:=hide_ (show e0B=T by
    rw [← HT.out,zeroT,if_pos]
    have h3:=HCD.out
    rw [← HHS.out,← HZ.out] at h3
    cases h4:hasL x.labels 3
    ·rw [h4] at h3
     exact ⟨by simpa using h3.symm,rfl⟩
    ·rw [h4] at h3
     simp at h3)
   go_wp2
   go_ret
   exact ⟨by rw [← HT2.out];rfl,HB1.out⟩
end Go.Proofs.YtikbegmodacopaaGreatDoor
