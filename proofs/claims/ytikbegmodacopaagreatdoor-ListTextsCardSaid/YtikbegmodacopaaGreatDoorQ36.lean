/-
  Joined and packed by program.
-/
import Derived.Test.YtikbegmodacopaaGreatDoorQ35
import Derived.Test.YtikbegmodacopaaGreatDoorQ31
namespace Go.Proofs.YtikbegmodacopaaGreatDoor
open Go.RowKit Go.PlainAid Go.BigFrame
set_option linter.unusedSimpArgs false
set_option linter.unusedVariables false
set_option maxRecDepth 100000
set_option maxHeartbeats 16000000 in
theorem prest_any (x:ObjV) (s:ObjS) (B g:Nat) (RL:List LabV) (RF:List FixV) (T:ByteArray) (w:World) (hx:ObjOk x) (hok:okB x=true) (hr:ObjR w B x s) (h:PrS B g (poOf x s) RL RF T w)
  (hTb:∀ W,Below B w W→TabOk W) (hz:T.size+(restT x).size≤140737488351232) :
  Calls Tryz.prog 86 #[.pointer (some ⟨g,0,none⟩),.agg (objV x s)] w fun e w'=>e=.returned (.tuple #[])∧ZeroPost B g x s (T ++ restT x) w w':=by
 have HTB:=hide_ hTb
 have HX:=hide_ hx
 have HEN:=hide_ (okB_ents hok)
 have HBL:=hide_ h.low
 have HZS:=hide_ hx.stack
 have HRL:=hide_ hr.rl
 have HRT:=hide_ hr.rt
 have HRE:=hide_ hr.re
 obtain ⟨l1,l2,l3,l4,l5,l6⟩:=hx.lens
 obtain ⟨TT,hTT⟩:∃ t,t=T ++ restT x:=⟨_,rfl⟩
 have HZ:=hide_ (show TT.size≤140737488351232 by rw [hTT,ba_size];exact hz)
 have HTT:=hide_ (show T ++ stackT x ++ (cat (x.labels.map openT) ++ (cat (x.targets.map targT) ++ cat (x.entries.map entT)))=TT by rw [hTT,restT];simp only [ba_assoc])
 have HS0:=hide_ h
 obtain ⟨po,hpo⟩:∃ p,p=poOf x s:=⟨_,rfl⟩
 unfold ZeroPost
 rw [← hpo] at HS0
 rw [← hpo,← hTT]
 obtain ⟨⟨cA,cc⟩,⟨dA,dc⟩,⟨lA,lc⟩,⟨fA,fc⟩,⟨tA,tc⟩,⟨eA,ec⟩⟩:=s
 dsimp only [objV] at HRL HRT HRE ⊢
 obtain ⟨n,hn⟩:∃ n,n=x.code.length:=⟨_,rfl⟩
 obtain ⟨nd,hnd⟩:∃ n,n=x.data.length:=⟨_,rfl⟩
 obtain ⟨nl,hnl⟩:∃ n,n=x.labels.length:=⟨_,rfl⟩
 obtain ⟨nf,hnf⟩:∃ n,n=x.fixes.length:=⟨_,rfl⟩
 obtain ⟨nt,hnt⟩:∃ n,n=x.targets.length:=⟨_,rfl⟩
 obtain ⟨ne,hne⟩:∃ n,n=x.entries.length:=⟨_,rfl⟩
 obtain ⟨z,hzr⟩:∃ z,z=x.zero:=⟨_,rfl⟩
 obtain ⟨sk,hsk⟩:∃ z,z=x.stack:=⟨_,rfl⟩
 rw [← hn,← hnd,← hnl,← hnf,← hnt,← hne,← hzr,← hsk]
 rw [← hnl] at HRL l3
 rw [← hnt] at HRT l5
 rw [← hne] at HRE l6
 rw [← hsk] at HZS
 have HNL:=hide_ hnl.symm
 have HNT:=hide_ hnt.symm
 have HNE:=hide_ hne.symm
 have HSK:=hide_ hsk.symm
 have HS1:=hide_ (HS0.out.alloc (.cells #[.slice cA n cc,.slice dA nd dc,.int .u32 z,.int .u32 sk,.slice lA nl lc,.slice fA nf fc,.slice tA nt tc,.slice eA ne ec] 36))
 have HM1:=hide_ (PrM.alloc (g:=g) HS0.out.low (.cells #[.slice cA n cc,.slice dA nd dc,.int .u32 z,.int .u32 sk,.slice lA nl lc,.slice fA nf fc,.slice tA nt tc,.slice eA ne ec] 36))
 have HX1:=hide_ (heap_alloc_new w (.cells #[.slice cA n cc,.slice dA nd dc,.int .u32 z,.int .u32 sk,.slice lA nl lc,.slice fA nf fc,.slice tA nt tc,.slice eA ne ec] 36))
 clear h hr hTb hz hok hx hTT hpo hn hnd hnl hnf hnt hne hzr hsk
 obtain ⟨w1,hw1⟩:∃ W,W=w.alloc (.cells #[.slice cA n cc,.slice dA nd dc,.int .u32 z,.int .u32 sk,.slice lA nl lc,.slice fA nf fc,.slice tA nt tc,.slice eA ne ec] 36):=⟨_,rfl⟩
 go_enter Tryz.func86,Tryz.ntmps86
 go_upto_region 1 with (fail)
 rw [← hw1] at HS1 HM1 HX1 ⊢
 clear hw1
 have f3:w1.cell? ⟨w.heap.size,3,none⟩=some (.int .u32 sk):=cell_of_row w1 _ 3 _ _ _ HX1.out
 have hbl:=blk_lt HX1.out
 go_upto_if 12 with (fail)
 go_cut [] from 12 to 19 (fun wx=>Hid (PrS B g po RL RF (T ++ stackT x) wx)∧Hid (PrM B g w wx)∧Hid (wx.heap[w.heap.size]?=some (.cells #[.slice cA n cc,.slice dA nd dc,.int .u32 z,.int .u32 sk,.slice lA nl lc,.slice fA nf fc,.slice tA nt tc,.slice eA ne ec] 36 (0,0))))
 case first =>
  by_cases hs0:sk=0
  ·have e0:(sk != 0)=false:=by simpa using hs0
   have HKS:=hide_ (show stackT x=e0B by rw [stackT,if_pos (by rw [HSK.out];exact hs0)])
   clear hs0
   go_wp2
   go_meet
   exact ⟨hide_ (by rw [HKS.out,ba_nil];exact HS1.out),HM1,HX1⟩
  ·have e0:(sk != 0)=true:=by simpa using hs0
   obtain ⟨m,hm⟩:∃ m:Nat,sk=(m:Int):=⟨sk.toNat,by have:=HZS.out;omega⟩
   have HKS:=hide_ (show stackT x=⟨#[115,116,97,99,107,32]⟩ ++ decT m ++ ⟨#[10]⟩ by rw [stackT,if_neg (by rw [HSK.out];exact hs0),HSK.out,hm,Int.toNat_natCast])
   have w64:IntKind.u64.wrap sk=sk:=IntWalk.u64_in _ (by have:=HZS.out;omega)
   have HU:Hid (∀ W,TabOk W→Calls Tryz.prog 75 #[.int .u64 sk,.int .i64 10] W fun e w'=>e=.returned (.string (decT m))∧Below W.heap.size W w'):=hide_ (fun W hW=>by rw [hm];exact Uint_any m (by have:=HZS.out;omega) W hW)
   obtain ⟨DD,hD⟩:∃ D,D=decT m:=⟨_,rfl⟩
   rw [← hD] at HU HKS
   have HQ:=hide_ (show T.size+(cat [⟨#[115,116,97,99,107,32]⟩,DD]).size+1≤140737488355328 by
    have h1:=congrArg ByteArray.size HTT.out
    rw [HKS.out] at h1
    simp only [ba_size] at h1
    simp only [cat,ba_size,show e0B.size=0 from rfl]
    have:(⟨#[10]⟩:ByteArray).size=1:=rfl
    have:=HZ.out
    omega)
   clear hs0 hD hm
   go_wp2_with fail
   refine (HU.out _ (HTB.out _ HM1.out.bel)).mono ?_
   rintro e w2 ⟨rfl,hb2⟩
   have HS2:=hide_ (HS1.out.below hb2)
   have HM2:=hide_ (HM1.out.trans (PrM.of_below HS1.out.low hb2))
   have HX2:=hide_ (blk_below HX1.out hb2)
   clear hb2 f3 hbl
   have HSA:=hide_ (HS2.out.alloc (.cells #[.string ⟨#[115,116,97,99,107,32]⟩,.string DD] 9))
   have HBA:=hide_ (heap_alloc_new w2 (.cells #[.string ⟨#[115,116,97,99,107,32]⟩,.string DD] 9))
   have HMA:=hide_ (HM2.out.trans (PrM.alloc HS2.out.low (.cells #[.string ⟨#[115,116,97,99,107,32]⟩,.string DD] 9)))
   have HXA:=hide_ (blk_below HX2.out ((Below.refl w2.heap.size w2).alloc (Nat.le_refl _) (.cells #[.string ⟨#[115,116,97,99,107,32]⟩,.string DD] 9)))
   go_wp2_with fail
   refine (line_any B g w2.heap.size _ _ _ _ [⟨#[115,116,97,99,107,32]⟩,DD] 2 _ HSA.out HBA.out rfl (by decide) HQ.out).mono ?_
   rintro e w3 ⟨rfl,hS3,hM3⟩
   have HX3:=hide_ (hM3.blk HXA.out (HSA.out.ne_blk HXA.out (by decide)) (by decide))
   have HS3:=hide_ hS3
   have HM3:=hide_ (HMA.out.trans hM3)
   clear hS3 hM3
   go_wp2
   go_meet
   exact ⟨hide_ (by rw [HKS.out];have h:=HS3.out;simp only [cat,ba_nil,ba_assoc] at h ⊢;exact h),HM3,HX3⟩
 case rest =>
  obtain ⟨HS2,HM2,HX2⟩:=hcut
  clear HS1 HM1 HX1 f3 hbl
  have f4:wc.cell? ⟨w.heap.size,4,none⟩=some (.slice lA nl lc):=cell_of_row wc _ 4 _ _ _ HX2.out
  have hbl:=blk_lt HX2.out
  have HT0:=hide_ (show T ++ stackT x ++ (cat ((x.labels.drop 0).map openT) ++ (cat (x.targets.map targT) ++ cat (x.entries.map entT)))=TT by rw [List.drop_zero];exact HTT.out)
  go_wp2
  go_loopw [23] (fun i wr=>∃ (k:Nat) (S:ByteArray),k≤nl∧i=.int .i64 k∧Hid (PrS B g po RL RF S wr)∧Hid (S ++ (cat ((x.labels.drop k).map openT) ++ (cat (x.targets.map targT) ++ cat (x.entries.map entT)))=TT)∧Hid (PrM B g w wr)∧Hid (wr.heap[w.heap.size]?=some (.cells #[.slice cA n cc,.slice dA nd dc,.int .u32 z,.int .u32 sk,.slice lA nl lc,.slice fA nf fc,.slice tA nt tc,.slice eA ne ec] 36 (0,0)))) (fun i _=>nl - (intOf i).toNat)
  case atStart=>exact ⟨0,_,Nat.zero_le _,rfl,HS2,HT0,HM2,HX2⟩
  case round =>
   clear HS2 HT0 HM2 HX2 f4 hbl
   obtain ⟨k,S,hk,rfl,HS,HT,HM,HBX⟩:=hrel
   by_cases hlt:k<nl
   ·obtain ⟨⟨nm,lsec,lpl,lop⟩,ht⟩:∃ t,x.labels[k]?=some t:=⟨_,List.getElem?_eq_getElem (by have:=HNL.out;omega)⟩
    have HDR:=hide_ (drop_at ht)
    obtain ⟨_,ad,rfl,hbk,p0,p1⟩:=el_cells lE_len HRL.out (by omega) ht
    have x0:=(HM.out.bel.cell (p:=ad.add (k * 4)) hbk).trans (p0 _ rfl)
    have x1:=(HM.out.bel.cell (p:=⟨(ad.add (k * 4)).block,(ad.add (k * 4)).off+1,none⟩) hbk).trans (p1 1 _ (by omega) rfl)
    have x2:=(HM.out.bel.cell (p:=⟨(ad.add (k * 4)).block,(ad.add (k * 4)).off+2,none⟩) hbk).trans (p1 2 _ (by omega) rfl)
    have x3:=(HM.out.bel.cell (p:=⟨(ad.add (k * 4)).block,(ad.add (k * 4)).off+3,none⟩) hbk).trans (p1 3 _ (by omega) rfl)
    simp only at x0 x1 x2 x3
    have hbs:(ad.add (k * 4)).block<wr.heap.size:=by have:=HS.out.low;omega
    have HS3:=hide_ (HS.out.alloc (.cells #[.string nm,.int .u8 lsec,.int .u32 lpl,.bool lop] 78))
    have HM3:=hide_ (HM.out.trans (PrM.alloc HS.out.low (.cells #[.string nm,.int .u8 lsec,.int .u32 lpl,.bool lop] 78)))
    have HX3:=hide_ (blk_below HBX.out ((Below.refl wr.heap.size wr).alloc (Nat.le_refl _) (.cells #[.string nm,.int .u8 lsec,.int .u32 lpl,.bool lop] 78)))
    clear p0 p1 hbk ht
    have hT:=HT.out
    rw [HDR.out,cat_map_cons,openT] at hT
    dsimp only at hT
    cases lop
    ·rw [if_neg (by simp),nil_ba] at hT
     have HTE:=hide_ hT
     clear hT
     go_wp2
     go_roundw
     case rel=>exact ⟨k+1,_,by omega,by go_num,HS3,HTE,HM3,HX3⟩
     case measure=>simp [intOf];omega
    ·rw [if_pos rfl] at hT
     have HTE:=hide_ (show (S ++ (cat [⟨#[111,112,101,110,32]⟩,nm] ++ ⟨#[10]⟩)) ++ (cat ((x.labels.drop (k+1)).map openT) ++ (cat (x.targets.map targT) ++ cat (x.entries.map entT)))=TT by
      rw [← hT]
      simp only [cat,ba_nil,ba_assoc])
     clear hT
     have HQ:=hide_ (show S.size+(cat [⟨#[111,112,101,110,32]⟩,nm]).size+1≤140737488355328 by
      have h1:=congrArg ByteArray.size HTE.out
      simp only [ba_size] at h1
      have:(⟨#[10]⟩:ByteArray).size=1:=rfl
      have:=HZ.out
      omega)
     obtain ⟨w3,hw3⟩:∃ W,W=wr.alloc (.cells #[.string nm,.int .u8 lsec,.int .u32 lpl,.bool true] 78):=⟨_,rfl⟩
     have n0:w3.cell? ⟨wr.heap.size,0,none⟩=some (.string nm):=by rw [hw3];go_simp
     have hl3:wr.heap.size<w3.heap.size:=by rw [hw3];simp
     go_upto_region 7 with (fail)
     rw [← hw3] at HS3 HM3 HX3 ⊢
     clear hw3 x0 x1 x2 x3 hbs
     have HSA:=hide_ (HS3.out.alloc (.cells #[.string ⟨#[111,112,101,110,32]⟩,.string nm] 9))
     have HBA:=hide_ (heap_alloc_new w3 (.cells #[.string ⟨#[111,112,101,110,32]⟩,.string nm] 9))
     have HMA:=hide_ (HM3.out.trans (PrM.alloc HS3.out.low (.cells #[.string ⟨#[111,112,101,110,32]⟩,.string nm] 9)))
     have HXA:=hide_ (blk_below HX3.out ((Below.refl w3.heap.size w3).alloc (Nat.le_refl _) (.cells #[.string ⟨#[111,112,101,110,32]⟩,.string nm] 9)))
     go_wp2_with fail
     refine (line_any B g w3.heap.size _ _ _ _ [⟨#[111,112,101,110,32]⟩,nm] 2 _ HSA.out HBA.out rfl (by decide) HQ.out).mono ?_
     rintro e w4 ⟨rfl,hS4,hM4⟩
     have HX4:=hide_ (hM4.blk HXA.out (HSA.out.ne_blk HXA.out (by decide)) (by decide))
     have HS4:=hide_ hS4
     have HM4:=hide_ (HMA.out.trans hM4)
     clear hS4 hM4
     clear n0 hl3
     go_wp2
     go_roundw
     case rel=>exact ⟨k+1,_,by omega,by go_num,HS4,HTE,HM4,HX4⟩
     case measure=>simp [intOf];omega
   ·have HT0:=hide_ (show S ++ (cat ((x.targets.drop 0).map targT) ++ cat (x.entries.map entT))=TT by
     have h:=HT.out
     rw [List.drop_of_length_le (by have:=HNL.out;omega),List.map_nil,cat,nil_ba] at h
     rw [List.drop_zero]
     exact h)
    have f6:wr.cell? ⟨w.heap.size,6,none⟩=some (.slice tA nt tc):=cell_of_row wr _ 6 _ _ _ HBX.out
    have hbl:=blk_lt HBX.out
    go_wp2
    go_loopw [38] (fun i wr=>∃ (k:Nat) (S:ByteArray),k≤nt∧i=.int .i64 k∧Hid (PrS B g po RL RF S wr)∧Hid (S ++ (cat ((x.targets.drop k).map targT) ++ cat (x.entries.map entT))=TT)∧Hid (PrM B g w wr)∧Hid (wr.heap[w.heap.size]?=some (.cells #[.slice cA n cc,.slice dA nd dc,.int .u32 z,.int .u32 sk,.slice lA nl lc,.slice fA nf fc,.slice tA nt tc,.slice eA ne ec] 36 (0,0)))) (fun i _=>nt - (intOf i).toNat)
    case atStart=>exact ⟨0,_,Nat.zero_le _,rfl,HS,HT0,HM,HBX⟩
    case round =>
     clear HS HT0 HM HBX f6 hbl HT
     obtain ⟨k,S,hk,rfl,HS,HT,HM,HBX⟩:=hrel
     by_cases hlt:k<nt
     ·obtain ⟨tg,ht⟩:∃ t,x.targets[k]?=some t:=⟨_,List.getElem?_eq_getElem (by have:=HNT.out;omega)⟩
      have HDR:=hide_ (drop_at ht)
      obtain ⟨b,o,rfl,hbk,hcl⟩:=reads_strs HRT.out (by omega)
      have x0:=(HM.out.bel.cell (p:=⟨b,o+k,none⟩) hbk).trans (hcl k tg ht)
      have hbs:b<wr.heap.size:=by have:=HS.out.low;omega
      have hT:=HT.out
      rw [HDR.out,cat_map_cons,targT] at hT
      have HTE:=hide_ (show (S ++ (cat [⟨#[116,97,114,103,101,116,32]⟩,tg] ++ ⟨#[10]⟩)) ++ (cat ((x.targets.drop (k+1)).map targT) ++ cat (x.entries.map entT))=TT by
       rw [← hT]
       simp only [cat,ba_nil,ba_assoc])
      clear hT hcl hbk ht
      have HQ:=hide_ (show S.size+(cat [⟨#[116,97,114,103,101,116,32]⟩,tg]).size+1≤140737488355328 by
       have h1:=congrArg ByteArray.size HTE.out
       simp only [ba_size] at h1
       have:(⟨#[10]⟩:ByteArray).size=1:=rfl
       have:=HZ.out
       omega)
      have HSA:=hide_ (HS.out.alloc (.cells #[.string ⟨#[116,97,114,103,101,116,32]⟩,.string tg] 9))
      have HBA:=hide_ (heap_alloc_new wr (.cells #[.string ⟨#[116,97,114,103,101,116,32]⟩,.string tg] 9))
      have HMA:=hide_ (HM.out.trans (PrM.alloc HS.out.low (.cells #[.string ⟨#[116,97,114,103,101,116,32]⟩,.string tg] 9)))
      have HXA:=hide_ (blk_below HBX.out ((Below.refl wr.heap.size wr).alloc (Nat.le_refl _) (.cells #[.string ⟨#[116,97,114,103,101,116,32]⟩,.string tg] 9)))
      go_wp2_with fail
      refine (line_any B g wr.heap.size _ _ _ _ [⟨#[116,97,114,103,101,116,32]⟩,tg] 2 _ HSA.out HBA.out rfl (by decide) HQ.out).mono ?_
      rintro e w4 ⟨rfl,hS4,hM4⟩
      have HX4:=hide_ (hM4.blk HXA.out (HSA.out.ne_blk HXA.out (by decide)) (by decide))
      have HS4:=hide_ hS4
      have HM4:=hide_ (HMA.out.trans hM4)
      clear hS4 hM4
      clear x0 hbs
      go_wp2
      go_roundw
      case rel=>exact ⟨k+1,_,by omega,by go_num,HS4,HTE,HM4,HX4⟩
      case measure=>simp [intOf];omega
     ·have HT0:=hide_ (show S ++ cat ((x.entries.drop 0).map entT)=TT by
       have h:=HT.out
       rw [List.drop_of_length_le (by have:=HNT.out;omega),List.map_nil,cat,nil_ba] at h
       rw [List.drop_zero]
       exact h)
      have f7:wr.cell? ⟨w.heap.size,7,none⟩=some (.slice eA ne ec):=cell_of_row wr _ 7 _ _ _ HBX.out
      have hbl:=blk_lt HBX.out
      go_wp2
      go_loopw [50] (fun i wr=>∃ (k:Nat) (S:ByteArray),k≤ne∧i=.int .i64 k∧Hid (PrS B g po RL RF S wr)∧Hid (S ++ cat ((x.entries.drop k).map entT)=TT)∧Hid (PrM B g w wr)) (fun i _=>ne - (intOf i).toNat)
      case atStart=>exact ⟨0,_,Nat.zero_le _,rfl,HS,HT0,HM⟩
      case round =>
       clear HS HT0 HM HBX f7 hbl HT
       obtain ⟨k,S,hk,rfl,HS,HT,HM⟩:=hrel
       by_cases hlt:k<ne
       ·obtain ⟨⟨en,el⟩,ht⟩:∃ t,x.entries[k]?=some t:=⟨_,List.getElem?_eq_getElem (by have:=HNE.out;omega)⟩
        have HDR:=hide_ (drop_at ht)
        have hen:en.size≤2097152:=Nat.le_trans (HEN.out _ (List.mem_of_getElem? ht)) (by decide)
        obtain ⟨_,ad,rfl,hbk,p0,p1⟩:=el_cells eE_len HRE.out (by omega) ht
        have x0:=(HM.out.bel.cell (p:=ad.add (k * 2)) hbk).trans (p0 _ rfl)
        have x1:=(HM.out.bel.cell (p:=⟨(ad.add (k * 2)).block,(ad.add (k * 2)).off+1,none⟩) hbk).trans (p1 1 _ (by omega) rfl)
        simp only at x0 x1
        have hbs:(ad.add (k * 2)).block<wr.heap.size:=by have:=HS.out.low;omega
        have HS3:=hide_ (HS.out.alloc (.cells #[.string en,.string el] 83))
        have HM3:=hide_ (HM.out.trans (PrM.alloc HS.out.low (.cells #[.string en,.string el] 83)))
        have HX3:=hide_ (heap_alloc_new wr (.cells #[.string en,.string el] 83))
        obtain ⟨w3,hw3⟩:∃ W,W=wr.alloc (.cells #[.string en,.string el] 83):=⟨_,rfl⟩
        go_upto_region 17 with (fail)
        rw [← hw3] at HS3 HM3 HX3 ⊢
        clear hw3 x0 x1 hbs p0 p1 hbk
        obtain ⟨cap,W2,hcv,hrd,hb2,hsz2⟩:=bytes_of_txt w3.drew en
        have HSH:=hide_ (fun W (hw:Below W2.heap.size W2 W)=>tShow_any _ en.size cap _ (w3.heap.size+1) W (hrd.below (hw.mono hsz2)) (Nat.le_trans hsz2 hw.size) hen (numsB_byte en))
        obtain ⟨sh,hsh⟩:∃ a,a=strOfNums (showL (numsB en)):=⟨_,rfl⟩
        rw [← hsh] at HSH
        have hT:=HT.out
        rw [HDR.out,cat_map_cons,entT,showT] at hT
        dsimp only at hT
        rw [← hsh] at hT
        have HTE:=hide_ (show (S ++ (cat [⟨#[101,110,116,114,121,32]⟩,sh,⟨#[44,32]⟩,el] ++ ⟨#[10]⟩)) ++ cat ((x.entries.drop (k+1)).map entT)=TT by
         rw [← hT]
         simp only [cat,ba_nil,ba_assoc])
        have HQ:=hide_ (show S.size+(cat [⟨#[101,110,116,114,121,32]⟩,sh,⟨#[44,32]⟩,el]).size+1≤140737488355328 by
         have h1:=congrArg ByteArray.size HTE.out
         simp only [ba_size] at h1
         have:(⟨#[10]⟩:ByteArray).size=1:=rfl
         have:=HZ.out
         omega)
        have hb3:Below w3.heap.size w3 W2:=(Below.refl w3.heap.size w3).drew.trans hb2
        have n0:w3.cell? ⟨wr.heap.size,0,none⟩=some (.string en):=cell_of_row w3 _ 0 _ _ _ HX3.out
        have n1:w3.cell? ⟨wr.heap.size,1,none⟩=some (.string el):=cell_of_row w3 _ 1 _ _ _ HX3.out
        have hl3:=blk_lt HX3.out
        have r1:=(hb3.cell (p:=⟨wr.heap.size,1,none⟩) hl3).trans n1
        have hl2:=Nat.lt_of_lt_of_le hl3 hb3.size
        have HB3:=hide_ hb3
        clear hT hsh hrd hen hb2 hb3 ht
        go_region_with (first
         | (go_at_call 118;refine (HSH.out _ (Below.refl _ _)).mono ?_;rintro e w8 ⟨rfl,hb8⟩;have hbd:=HB3.out.trans (hb8.mono HB3.out.size);have q1:=(hbd.cell (p:=⟨wr.heap.size,1,none⟩) hl3).trans n1;have hl8:=Nat.lt_of_lt_of_le hl3 hbd.size;have HS8:=hide_ (HS3.out.below hbd);have HM8:=hide_ (HM3.out.trans (PrM.of_below HS3.out.low hbd));clear hb8 hbd;have HSA:=hide_ (HS8.out.alloc (.cells #[.string ⟨#[101,110,116,114,121,32]⟩,.string sh,.string ⟨#[44,32]⟩,.string el] 9));have HBA:=hide_ (heap_alloc_new w8 (.cells #[.string ⟨#[101,110,116,114,121,32]⟩,.string sh,.string ⟨#[44,32]⟩,.string el] 9));have HMA:=hide_ (HM8.out.trans (PrM.alloc HS8.out.low (.cells #[.string ⟨#[101,110,116,114,121,32]⟩,.string sh,.string ⟨#[44,32]⟩,.string el] 9))))
         | (go_at_call 112;refine (line_any B g w8.heap.size _ _ _ _ [⟨#[101,110,116,114,121,32]⟩,sh,⟨#[44,32]⟩,el] 4 _ HSA.out HBA.out rfl (by decide) HQ.out).mono ?_;rintro e w9 ⟨rfl,hS9,hM9⟩;have HS9:=hide_ hS9;have HM9:=hide_ (HMA.out.trans hM9);clear hS9 hM9))
        all_goals
         clear n0 n1 hl3 r1 hl2 q1 hl8 hcv
         go_wp2
         go_roundw
         case rel=>exact ⟨k+1,_,by omega,by go_num,HS9,HTE,HM9⟩
         case measure=>simp [intOf];omega
       ·have HFIN:=hide_ (show ∃ RL' RF',PrS B g po RL' RF' TT wr∧PrM B g w wr from by
         refine ⟨RL,RF,?_,HM.out⟩
         have h:=HT.out
         rw [List.drop_of_length_le (by have:=HNE.out;omega),List.map_nil,cat,ba_nil] at h
         rw [← h]
         exact HS.out)
        go_wp2
        go_end0
        exact ⟨rfl,HFIN.out⟩
end Go.Proofs.YtikbegmodacopaaGreatDoor
namespace Go.Proofs.YtikbegmodacopaaGreatDoor
open Go.RowKit Go.PlainAid Go.BigFrame
set_option linter.unusedSimpArgs false
set_option linter.unusedVariables false
set_option maxRecDepth 100000
set_option maxHeartbeats 16000000 in
theorem pPrint_any (x:ObjV) (s:ObjS) (w:World) (hx:ObjOk x) (hr:ObjR w w.heap.size x s) (hf:okB x=true→PrtFit x) (hT:TabOk w) :
  Calls Tryz.prog 53 #[.agg (objV x s)] w fun e w'=>e=.returned (.tuple #[.string (prtS x),.int .i64 (prtE x)])∧Below w.heap.size w w':=by
 have HRK:=hide_ (fun W (hw:Below w.heap.size w W)=>acheck_any x s W hx ((hr.below hw).more hw.size))
 by_cases hok:okB x=true
 ·have hF:=hf hok
  have HTB:=hide_ (show ∀ W,Below w.heap.size w W→TabOk W from fun W hW=>hT.below hW)
  have HCV:=hide_ (show chkV x=0 from chkV_yes hok)
  have HRES:=hide_ (show prtS x=(if 524288<(bodyT x).size then e0B else bodyT x)∧prtE x=(if 524288<(bodyT x).size then 105 else 0) from ⟨by rw [prtS,if_pos hok],by rw [prtE,if_pos hok]⟩)
  have hpp:=hF.parts
  have HPP:=hide_ hpp
  have HOK:=hide_ hok
  have HXX:=hide_ hx
  have HRR:=hide_ hr
  have HCO:=hide_ (fun g W (hw:Below w.heap.size w W) (hS:PrS w.heap.size g (poOf x s) x.labels x.fixes e0B W)=>pcode_any x s w.heap.size g e0B W hx hok (hr.below hw) hS (fun W2 h2=>hT.below (hw.trans h2)) (by have:=show e0B.size=0 from rfl;omega))
  have HDA:=hide_ (fun g RL RF W (hw:Below w.heap.size w W) (hS:PrS w.heap.size g (poOf x s) RL RF (e0B ++ codeT x) W) hL hF'=>pdata_any x s w.heap.size g RL RF _ W hx hok (hr.below hw) hS hL hF' (fun W2 h2=>hT.below (hw.trans h2)) (by rw [ba_size];have:=show e0B.size=0 from rfl;omega))
  have HZE:=hide_ (fun g RL RF W (hw:Below w.heap.size w W) (hS:PrS w.heap.size g (poOf x s) RL RF (e0B ++ codeT x ++ dataT x) W) hL hF'=>pzero_any x s w.heap.size g RL RF _ W hx hok hS hL hF' (fun W2 h2=>hT.below (hw.trans h2)) (by rw [ba_size,ba_size];have:=show e0B.size=0 from rfl;omega))
  have HRE':=hide_ (fun g RL RF W (hw:Below w.heap.size w W) (hS:PrS w.heap.size g (poOf x s) RL RF (e0B ++ codeT x ++ dataT x ++ zeroT x) W)=>prest_any x s w.heap.size g RL RF _ W hx hok (hr.below hw) hS (fun W2 h2=>hT.below (hw.trans h2)) (by rw [ba_size,ba_size,ba_size];have:=show e0B.size=0 from rfl;omega))
  have HNEW:=hide_ (fun W (hw:Below w.heap.size w W)=>show PrS w.heap.size W.heap.size (poOf x s) x.labels x.fixes e0B (W.alloc (.cells #[.pointer none,.slice none 0 0,.slice s.c.A x.code.length s.c.c,.slice s.d.A x.data.length s.d.c,.int .u32 x.zero,.int .u32 x.stack,.slice s.l.A x.labels.length s.l.c,.slice s.f.A x.fixes.length s.f.c,.slice s.t.A x.targets.length s.t.c,.slice s.e.A x.entries.length s.e.c] 133)) from
   ⟨.pointer none,s.l.A,s.l.c,s.f.A,s.f.c,.inl rfl,⟨hw.size,.slice none 0 0,heap_alloc_new _ _,World.ownsRowF_of (World.ownsRow_nil _ _ _ _),by simp [Value.ownBlock]⟩,(hr.rl.below hw).alloc hw.size _,hr.caps.2.2.1,(hr.rf.below hw).alloc hw.size _,hr.caps.2.2.2.1⟩)
  have HBD:=hide_ (show e0B ++ codeT x ++ dataT x ++ zeroT x ++ restT x=bodyT x by rw [nil_ba,bodyT];simp only [ba_assoc])
  have HBN:=hide_ (show (bodyT x).size≠0 by
   have h1:(codeT x).size=5+(codeR x x.code.length 0).size:=by rw [codeT,ba_size];rfl
   rw [bodyT,ba_size]
   omega)
  rw [HCV.out] at HRK
  unfold SecPost at HCO HDA
  unfold ZeroPost at HZE HRE'
  obtain ⟨po,hpo⟩:∃ p,p=poOf x s:=⟨_,rfl⟩
  rw [← hpo] at HCO HDA HZE HRE' HNEW
  clear hpo
  clear hF hpp hf hok hT
  obtain ⟨⟨cA,cc⟩,⟨dA,dc⟩,⟨lA,lc⟩,⟨fA,fc⟩,⟨tA,tc⟩,⟨eA,ec⟩⟩:=s
  have HRC:=hide_ hr.rc
  have HRD:=hide_ hr.rd
  have HRL:=hide_ hr.rl
  have HRF:=hide_ hr.rf
  have HRT:=hide_ hr.rt
  have HRE:=hide_ hr.re
  obtain ⟨l1,l2,l3,l4,l5,l6⟩:=hx.lens
  dsimp only [objV] at HRC HRD HRL HRF HRT HRE ⊢
  obtain ⟨n,hn⟩:∃ n,n=x.code.length:=⟨_,rfl⟩
  obtain ⟨nd,hnd⟩:∃ n,n=x.data.length:=⟨_,rfl⟩
  obtain ⟨nl,hnl⟩:∃ n,n=x.labels.length:=⟨_,rfl⟩
  obtain ⟨nf,hnf⟩:∃ n,n=x.fixes.length:=⟨_,rfl⟩
  obtain ⟨nt,hnt⟩:∃ n,n=x.targets.length:=⟨_,rfl⟩
  obtain ⟨ne,hne⟩:∃ n,n=x.entries.length:=⟨_,rfl⟩
  obtain ⟨z,hzr⟩:∃ z,z=x.zero:=⟨_,rfl⟩
  obtain ⟨sk,hsk⟩:∃ z,z=x.stack:=⟨_,rfl⟩
  rw [← hn,← hnd,← hnl,← hnf,← hnt,← hne,← hzr,← hsk]
  rw [← hn] at HRC l1
  rw [← hnd] at HRD l2
  rw [← hnl] at HRL l3
  rw [← hnf] at HRF l4
  rw [← hnt] at HRT l5
  rw [← hne] at HRE l6
  have HN:=hide_ hn.symm
  have HND:=hide_ hnd.symm
  have HNL:=hide_ hnl.symm
  have HNF:=hide_ hnf.symm
  have HNT:=hide_ hnt.symm
  have HNE:=hide_ hne.symm
  have HZ:=hide_ hzr.symm
  have HSK:=hide_ hsk.symm
  dsimp only [objV] at HRK HRE' HNEW
  rw [← hn,← hnd,← hnl,← hnf,← hnt,← hne,← hzr,← hsk] at HRK HRE' HNEW
  clear hr hx hn hnd hnl hnf hnt hne hzr hsk
  have HW1:=hide_ (show Below w.heap.size w (w.alloc (.cells #[.slice cA n cc,.slice dA nd dc,.int .u32 z,.int .u32 sk,.slice lA nl lc,.slice fA nf fc,.slice tA nt tc,.slice eA ne ec] 36)) from (Below.refl _ _).alloc (Nat.le_refl _) _)
  have HX1:=hide_ (heap_alloc_new w (.cells #[.slice cA n cc,.slice dA nd dc,.int .u32 z,.int .u32 sk,.slice lA nl lc,.slice fA nf fc,.slice tA nt tc,.slice eA ne ec] 36))
  obtain ⟨w1,hw1⟩:∃ W,W=w.alloc (.cells #[.slice cA n cc,.slice dA nd dc,.int .u32 z,.int .u32 sk,.slice lA nl lc,.slice fA nf fc,.slice tA nt tc,.slice eA ne ec] 36):=⟨_,rfl⟩
  go_enter Tryz.func53,Tryz.ntmps53
  go_upto_region 1 with (fail)
  rw [← hw1] at HW1 HX1 ⊢
  clear hw1
  have f0:w1.cell? ⟨w.heap.size,0,none⟩=some (.slice cA n cc):=cell_of_row w1 _ 0 _ _ _ HX1.out
  have f1:w1.cell? ⟨w.heap.size,1,none⟩=some (.slice dA nd dc):=cell_of_row w1 _ 1 _ _ _ HX1.out
  have f2:w1.cell? ⟨w.heap.size,2,none⟩=some (.int .u32 z):=cell_of_row w1 _ 2 _ _ _ HX1.out
  have f3:w1.cell? ⟨w.heap.size,3,none⟩=some (.int .u32 sk):=cell_of_row w1 _ 3 _ _ _ HX1.out
  have f4:w1.cell? ⟨w.heap.size,4,none⟩=some (.slice lA nl lc):=cell_of_row w1 _ 4 _ _ _ HX1.out
  have f5:w1.cell? ⟨w.heap.size,5,none⟩=some (.slice fA nf fc):=cell_of_row w1 _ 5 _ _ _ HX1.out
  have f6:w1.cell? ⟨w.heap.size,6,none⟩=some (.slice tA nt tc):=cell_of_row w1 _ 6 _ _ _ HX1.out
  have f7:w1.cell? ⟨w.heap.size,7,none⟩=some (.slice eA ne ec):=cell_of_row w1 _ 7 _ _ _ HX1.out
  have hl1:=blk_lt HX1.out
  go_wp2_with fail
  refine (HRK.out _ HW1.out).mono ?_
  rintro e w2 ⟨rfl,hb2⟩
  have HX2:=hide_ (blk_below HX1.out hb2)
  have HW2:=hide_ (HW1.out.trans (hb2.mono HW1.out.size))
  have f0:=(hb2.cell (p:=⟨w.heap.size,0,none⟩) hl1).trans f0
  have f1:=(hb2.cell (p:=⟨w.heap.size,1,none⟩) hl1).trans f1
  have f2:=(hb2.cell (p:=⟨w.heap.size,2,none⟩) hl1).trans f2
  have f3:=(hb2.cell (p:=⟨w.heap.size,3,none⟩) hl1).trans f3
  have f4:=(hb2.cell (p:=⟨w.heap.size,4,none⟩) hl1).trans f4
  have f5:=(hb2.cell (p:=⟨w.heap.size,5,none⟩) hl1).trans f5
  have f6:=(hb2.cell (p:=⟨w.heap.size,6,none⟩) hl1).trans f6
  have f7:=(hb2.cell (p:=⟨w.heap.size,7,none⟩) hl1).trans f7
  have hl2:=Nat.lt_of_lt_of_le hl1 hb2.size
  clear hb2 hl1
  have HS3:=hide_ (HNEW.out w2 HW2.out)
  have HX3:=hide_ (blk_below HX2.out ((Below.refl w2.heap.size w2).alloc (Nat.le_refl _) (.cells #[.pointer none,.slice none 0 0,.slice cA n cc,.slice dA nd dc,.int .u32 z,.int .u32 sk,.slice lA nl lc,.slice fA nf fc,.slice tA nt tc,.slice eA ne ec] 133)))
  have HW3:=hide_ (HW2.out.alloc HW2.out.size (.cells #[.pointer none,.slice none 0 0,.slice cA n cc,.slice dA nd dc,.int .u32 z,.int .u32 sk,.slice lA nl lc,.slice fA nf fc,.slice tA nt tc,.slice eA ne ec] 133))
  obtain ⟨w3,hw3⟩:∃ W,W=w2.alloc (.cells #[.pointer none,.slice none 0 0,.slice cA n cc,.slice dA nd dc,.int .u32 z,.int .u32 sk,.slice lA nl lc,.slice fA nf fc,.slice tA nt tc,.slice eA ne ec] 133):=⟨_,rfl⟩
  go_upto_region 5 with (fail)
  rw [← hw3] at HS3 HX3 HW3 ⊢
  clear hw3 f0 f1 f2 f3 f4 f5 f6 f7 hl2
  go_wp2_with fail
  refine (HCO.out _ _ HW3.out HS3.out).mono ?_
  rintro e w4 ⟨rfl,RL4,RF4,hS4,hL4,hF4,hM4⟩
  have HS4:=hide_ hS4
  have HW4:=hide_ (HW3.out.trans hM4.bel)
  have HX4:=hide_ (hM4.blk HX3.out (HS3.out.ne_blk HX3.out (by decide)) (by decide))
  have HL4:=hide_ (And.intro hL4 hF4)
  clear hS4 hM4 hL4 hF4
  go_wp2_with fail
  refine (HDA.out _ _ _ _ HW4.out HS4.out HL4.out.1 HL4.out.2).mono ?_
  rintro e w5 ⟨rfl,RL5,RF5,hS5,hL5,hF5,hM5⟩
  have HS5:=hide_ hS5
  have HW5:=hide_ (HW4.out.trans hM5.bel)
  have HX5:=hide_ (hM5.blk HX4.out (HS4.out.ne_blk HX4.out (by decide)) (by decide))
  have HL5:=hide_ (And.intro hL5 hF5)
  clear hS5 hM5 hL5 hF5
  go_wp2_with fail
  refine (HZE.out _ _ _ _ HW5.out HS5.out HL5.out.1 HL5.out.2).mono ?_
  rintro e w6 ⟨rfl,RL6,RF6,hS6,hM6⟩
  have HS6:=hide_ hS6
  have HW6:=hide_ (HW5.out.trans hM6.bel)
  have HX6:=hide_ (hM6.blk HX5.out (HS5.out.ne_blk HX5.out (by decide)) (by decide))
  clear hS6 hM6
  have f0:w6.cell? ⟨w.heap.size,0,none⟩=some (.slice cA n cc):=cell_of_row w6 _ 0 _ _ _ HX6.out
  have f1:w6.cell? ⟨w.heap.size,1,none⟩=some (.slice dA nd dc):=cell_of_row w6 _ 1 _ _ _ HX6.out
  have f2:w6.cell? ⟨w.heap.size,2,none⟩=some (.int .u32 z):=cell_of_row w6 _ 2 _ _ _ HX6.out
  have f3:w6.cell? ⟨w.heap.size,3,none⟩=some (.int .u32 sk):=cell_of_row w6 _ 3 _ _ _ HX6.out
  have f4:w6.cell? ⟨w.heap.size,4,none⟩=some (.slice lA nl lc):=cell_of_row w6 _ 4 _ _ _ HX6.out
  have f5:w6.cell? ⟨w.heap.size,5,none⟩=some (.slice fA nf fc):=cell_of_row w6 _ 5 _ _ _ HX6.out
  have f6:w6.cell? ⟨w.heap.size,6,none⟩=some (.slice tA nt tc):=cell_of_row w6 _ 6 _ _ _ HX6.out
  have f7:w6.cell? ⟨w.heap.size,7,none⟩=some (.slice eA ne ec):=cell_of_row w6 _ 7 _ _ _ HX6.out
  have hl6:=blk_lt HX6.out
  go_wp2_with fail
  refine (HRE'.out _ _ _ _ HW6.out HS6.out).mono ?_
  rintro e w7 ⟨rfl,RL7,RF7,hS7,hM7⟩
  have HW7:=hide_ (HW6.out.trans hM7.bel)
  obtain ⟨p,aL,cL,aF,cF,hp,hA,hR1,hc1,hR2,hc2⟩:=hS7
  rw [HBD.out] at hA
  have HA:=hide_ hA
  obtain ⟨TT,hTT⟩:∃ t,t=bodyT x:=⟨_,rfl⟩
  rw [← hTT] at HA HBN HRES
  clear hM7 hp hA hR1 hc1 hR2 hc2 hTT f0 f1 f2 f3 f4 f5 f6 f7 hl6
  go_wp2_with fail
  refine (pr_len _ _ _ _ _ _ _ _ HA.out).mono ?_
  rintro e w8 ⟨rfl,rfl⟩
  have hres:=HRES.out
  by_cases hbig:524288<TT.size
  ·rw [if_pos hbig,if_pos hbig] at hres
   have HR2:=hide_ hres
   have hbi:(524288:Int)<(TT.size:Int):=by omega
   clear hres hbig
   go_wp2
   go_ret2
   exact ⟨by rw [HR2.out.1,HR2.out.2];rfl,HW7.out⟩
  ·rw [if_neg hbig,if_neg hbig] at hres
   have HR2:=hide_ hres
   have hbi:¬ (524288:Int)<(TT.size:Int):=by omega
   clear hres hbig
   go_wp2_with fail
   refine (pr_text _ _ _ _ _ _ _ _ HA.out HBN.out).mono ?_
   rintro e w9 ⟨rfl,hb9⟩
   have HW9:=hide_ (HW7.out.trans hb9)
   clear hb9
   go_wp2
   go_ret2
   exact ⟨by rw [HR2.out.1,HR2.out.2];rfl,HW9.out⟩
 ·have HCV:=hide_ (show chkV x=104 from chkV_no (by simpa using hok))
  have HRES:=hide_ (show prtS x=e0B∧prtE x=104 from ⟨by rw [prtS,if_neg hok],by rw [prtE,if_neg hok]⟩)
  rw [HCV.out] at HRK
  clear hf hok hT
  obtain ⟨⟨cA,cc⟩,⟨dA,dc⟩,⟨lA,lc⟩,⟨fA,fc⟩,⟨tA,tc⟩,⟨eA,ec⟩⟩:=s
  have HRC:=hide_ hr.rc
  have HRD:=hide_ hr.rd
  have HRL:=hide_ hr.rl
  have HRF:=hide_ hr.rf
  have HRT:=hide_ hr.rt
  have HRE:=hide_ hr.re
  obtain ⟨l1,l2,l3,l4,l5,l6⟩:=hx.lens
  have HX:=hide_ hx
  dsimp only [objV] at HRC HRD HRL HRF HRT HRE ⊢
  obtain ⟨n,hn⟩:∃ n,n=x.code.length:=⟨_,rfl⟩
  obtain ⟨nd,hnd⟩:∃ n,n=x.data.length:=⟨_,rfl⟩
  obtain ⟨nl,hnl⟩:∃ n,n=x.labels.length:=⟨_,rfl⟩
  obtain ⟨nf,hnf⟩:∃ n,n=x.fixes.length:=⟨_,rfl⟩
  obtain ⟨nt,hnt⟩:∃ n,n=x.targets.length:=⟨_,rfl⟩
  obtain ⟨ne,hne⟩:∃ n,n=x.entries.length:=⟨_,rfl⟩
  obtain ⟨z,hzr⟩:∃ z,z=x.zero:=⟨_,rfl⟩
  obtain ⟨sk,hsk⟩:∃ z,z=x.stack:=⟨_,rfl⟩
  rw [← hn,← hnd,← hnl,← hnf,← hnt,← hne,← hzr,← hsk]
  rw [← hn] at HRC l1
  rw [← hnd] at HRD l2
  rw [← hnl] at HRL l3
  rw [← hnf] at HRF l4
  rw [← hnt] at HRT l5
  rw [← hne] at HRE l6
  have HN:=hide_ hn.symm
  have HND:=hide_ hnd.symm
  have HNL:=hide_ hnl.symm
  have HNF:=hide_ hnf.symm
  have HNT:=hide_ hnt.symm
  have HNE:=hide_ hne.symm
  have HZ:=hide_ hzr.symm
  have HSK:=hide_ hsk.symm
  dsimp only [objV] at HRK
  rw [← hn,← hnd,← hnl,← hnf,← hnt,← hne,← hzr,← hsk] at HRK
  clear hr hx hn hnd hnl hnf hnt hne hzr hsk
  obtain ⟨W1,hW1⟩:∃ W,W=w.alloc (.cells #[.slice cA n cc,.slice dA nd dc,.int .u32 z,.int .u32 sk,.slice lA nl lc,.slice fA nf fc,.slice tA nt tc,.slice eA ne ec] 36):=⟨_,rfl⟩
  have f0:W1.cell? ⟨w.heap.size,0,none⟩=some (.slice cA n cc):=by rw [hW1];go_simp
  have f1:W1.cell? ⟨w.heap.size,1,none⟩=some (.slice dA nd dc):=by rw [hW1];go_simp
  have f2:W1.cell? ⟨w.heap.size,2,none⟩=some (.int .u32 z):=by rw [hW1];go_simp
  have f3:W1.cell? ⟨w.heap.size,3,none⟩=some (.int .u32 sk):=by rw [hW1];go_simp
  have f4:W1.cell? ⟨w.heap.size,4,none⟩=some (.slice lA nl lc):=by rw [hW1];go_simp
  have f5:W1.cell? ⟨w.heap.size,5,none⟩=some (.slice fA nf fc):=by rw [hW1];go_simp
  have f6:W1.cell? ⟨w.heap.size,6,none⟩=some (.slice tA nt tc):=by rw [hW1];go_simp
  have f7:W1.cell? ⟨w.heap.size,7,none⟩=some (.slice eA ne ec):=by rw [hW1];go_simp
  have HB1:=hide_ (show Below w.heap.size w W1 by rw [hW1];exact (Below.refl _ _).alloc (Nat.le_refl _) _)
  have hlt0:w.heap.size<W1.heap.size:=by rw [hW1];simp
  go_enter Tryz.func53,Tryz.ntmps53
  go_upto_region 1 with (fail)
  rw [← hW1]
  clear hW1
  go_wp2_with fail
  refine (HRK.out _ HB1.out).mono ?_
  rintro e w2 ⟨rfl,hb2⟩
  have HB2:=hide_ (HB1.out.trans (hb2.mono HB1.out.size))
  clear hb2 f0 f1 f2 f3 f4 f5 f6 f7
  go_wp2
  go_ret2
  exact ⟨by rw [HRES.out.1,HRES.out.2];rfl,HB2.out⟩
end Go.Proofs.YtikbegmodacopaaGreatDoor
namespace Go.Proofs.YtikbegmodacopaaGreatDoor
open Go.RowKit Go.PlainAid Go.BigFrame
set_option linter.unusedSimpArgs false
set_option linter.unusedVariables false
set_option maxRecDepth 100000
def TxtIs (x:ImgV) (w:World) (e:Ending) (w':World):Prop:=e=.returned (.tuple #[.string (txtS x),.int .i64 (txtE x)])∧Below w.heap.size w w'
set_option maxHeartbeats 4000000 in
theorem lText_any (x:ImgV) (s:ImgS) (w:World) (hx:ImgOk x) (hr:ImgR w w.heap.size x s) (hT:TabOk w):Calls Tryz.prog 23 #[.agg (imgV x s)] w (TxtIs x w):=by
 obtain ⟨w1,hw1⟩:∃ W,W=w.alloc (.cells (imgV x s) 28):=⟨_,rfl⟩
 have HB1:=hide_ (show Below w.heap.size w w1 by rw [hw1];exact (Below.refl _ _).alloc (Nat.le_refl _) _)
 have hsz:w.heap.size<w1.heap.size:=by rw [hw1];simp
 have HAT:=hide_ (img_cells (show Blk w1 w.heap.size 28 (imgV x s) by rw [hw1];exact Blk.new w _ _))
 have OB:=hide_ (Object_any x s w1 hx ((hr.below HB1.out).more (Nat.le_of_lt hsz)) (hT.below HB1.out))
 have HTB:=hide_ (fun W (hb:Below w.heap.size w W)=>hT.below hb)
 have HX:=hide_ hx
 have HSZ:=hide_ hsz
 clear hr hx hT
 unfold imgV at hw1 OB ⊢
 obtain ⟨⟨cA,cc⟩,⟨jA,jc⟩,⟨dA,dc⟩,⟨nA,nc⟩⟩:=s
 dsimp only at hw1 HAT OB ⊢
 go_enter Tryz.func23,Tryz.ntmps23
 go_upto_region 1 with (fail)
 rw [← hw1]
 clear hw1
 obtain ⟨f0,f1,f2,f3,f4,f5⟩:=HAT.out
 go_wp2_with fail
 refine OB.out.mono ?_
 intro e w2 hoi
 clear f0 f1 f2 f3 f4 f5 OB HAT hsz
 unfold ObjIs at hoi
 have RS:=hide_ (Blk.new w2 36 z8)
 by_cases h0:objE x=0
 ·rw [if_pos h0] at hoi
  obtain ⟨s2,rfl,hO,hb⟩:=hoi
  obtain ⟨y,hy⟩:∃ y,y=objO x:=⟨_,rfl⟩
  have HE:=hide_ (show txtS x=prtS y∧txtE x=prtE y by rw [hy,txtS,txtE,if_pos h0,if_pos h0];exact ⟨rfl,rfl⟩)
  have HOK:=hide_ (show ObjOk y by rw [hy];exact objOk_of HX.out h0)
  have HFIT:=hide_ (show okB y=true→PrtFit y by rw [hy];exact prtFit_of HX.out h0)
  rw [← hy] at hO ⊢
  obtain ⟨w3,hw3⟩:∃ W,W=(w2.alloc (.cells z8 36)).setRow w2.heap.size (objV y s2):=⟨_,rfl⟩
  have HK3:=hide_ (obj_cells (show Blk w3 w2.heap.size 36 (objV y s2) by rw [hw3];exact setRow_heap _ _ _ _ _ _ RS.out))
  have HB23:=hide_ (show Below w2.heap.size w2 w3 by rw [hw3];exact below_setRow ((Below.refl _ _).alloc (Nat.le_refl _) _) (Nat.le_refl _) _)
  have HB3:=hide_ (show Below w.heap.size w w3 from (HB1.out.trans (hb.mono (Nat.le_of_lt HSZ.out))).trans (HB23.out.mono (Nat.le_trans (Nat.le_of_lt HSZ.out) hb.size)))
  have PR:=hide_ (pPrint_any y s2 w3 HOK.out (objR_own (hO.below HB23.out)) HFIT.out (HTB.out w3 HB3.out))
  have OS:=hide_ (show (Tryz.prog.info? 36).map (·.size)=some (objV y s2).size from z8_sz)
  have OO:=hide_ (show (objV y s2).all (·.oneCell')=true by simp [objV,Value.oneCell'])
  have hz3:w2.heap.size<w3.heap.size:=by rw [hw3];simp
  clear hO hb hy
  unfold z8 at RS hw3
  go_upto_region 2 with (first | (refine wpList_store_row rfl 36 (.tmp 4) (.tmp 9) rfl _ (objV y s2) rfl rfl 36 _ RS.out OS.out rfl OO.out ?_))
  rw [← hw3]
  clear hw3 RS OS OO
  obtain ⟨b0,b1,b2,b3,b4,b5,b6,b7⟩:=HK3.out
  unfold objV at PR ⊢
  go_wp2_with fail
  refine PR.out.mono ?_
  rintro e w4 ⟨rfl,hb4⟩
  have FF:=hide_ (show TxtIs x w (.returned (.tuple #[.string (prtS y),.int .i64 (prtE y)])) w4 by
   unfold TxtIs
   rw [HE.out.1,HE.out.2]
   exact ⟨rfl,HB3.out.trans (hb4.mono HB3.out.size)⟩)
  clear b0 b1 b2 b3 b4 b5 b6 b7 PR
  go_wp2_with fail
  exact bodyPost_ret (v:=.tuple #[.string (prtS y),.int .i64 (prtE y)]) (by simp [results,Tryz.results23,go_sem]) rfl FF.out
 ·rw [if_neg h0] at hoi
  obtain ⟨rfl,hb⟩:=hoi
  have h0b:(objE x != 0)=true:=by simpa using h0
  have OO:=hide_ z8_one
  have FF:=hide_ (fun (W:World) (hW:Below w2.heap.size w2 W)=>show TxtIs x w (.returned (.tuple #[.string ⟨#[]⟩,.int .i64 (objE x)])) W by
   unfold TxtIs
   rw [txtS,txtE,if_neg h0,if_neg h0]
   exact ⟨rfl,(HB1.out.trans (hb.mono (Nat.le_of_lt HSZ.out))).trans (hW.mono (Nat.le_trans (Nat.le_of_lt HSZ.out) hb.size))⟩)
  obtain ⟨E,hE⟩:∃ E,E=objE x:=⟨_,rfl⟩
  rw [← hE] at FF h0b ⊢
  clear h0 hE hb
  have F2:=hide_ (FF.out _ (below_setRow ((Below.refl _ _).alloc (Nat.le_refl _) (.cells z8 36)) (Nat.le_refl _) z8))
  go_wp2_with (first | (refine wpList_store_row rfl 36 (.tmp 4) (.tmp 9) rfl _ z8 rfl rfl 36 z8 RS.out z8_sz rfl OO.out ?_))
  exact bodyPost_ret (v:=.tuple #[.string ⟨#[]⟩,.int .i64 E]) (by simp [results,Tryz.results23,go_sem]) rfl F2.out
end Go.Proofs.YtikbegmodacopaaGreatDoor
