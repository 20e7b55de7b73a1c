/-
  Joined and packed by program.
-/
import Derived.Test.YtikbegmodacopaaGreatDoorB23
import Derived.Test.YtikbegmodacopaaGreatDoorB19
import Derived.Test.YtikbegmodacopaaGreatDoorB14
import Derived.Test.YtikbegmodacopaaGreatDoorB15
import Derived.Test.YtikbegmodacopaaGreatDoorB16
import Derived.Test.YtikbegmodacopaaGreatDoorB13
import Derived.Test.YtikbegmodacopaaGreatDoorB09
namespace Go.Proofs.YtikbegmodacopaaGreatDoor
open Go.RowKit Go.PlainAid Go.BigFrame
set_option linter.unusedSimpArgs false
set_option linter.unusedVariables false
set_option maxRecDepth 100000
set_option maxHeartbeats 16000000 in
theorem pPrint_any (x:ObjV) (s:ObjS) (w:World) (hx:ObjOk x) (hr:ObjR w w.heap.size x s) (hf:okB x=true→PrtFit x) (hT:TabOk w) :
  Calls Tryz.prog 53 #[.agg (objV x s)] w fun e w'=>e=.returned (.tuple #[.string (prtS x),.int .i64 (prtE x)])∧Below w.heap.size w w':=by
 have HRK:=hide_ (fun W (hw:Below w.heap.size w W)=>acheck_any x s W hx ((hr.below hw).more hw.size))
 by_cases hok:okB x=true
 ·have hF:=hf hok
  have HTB:=hide_ (show ∀ W,Below w.heap.size w W→TabOk W from fun W hW=>hT.below hW)
  have HCV:=hide_ (show chkV x=0 from chkV_yes hok)
  have HRES:=hide_ (show prtS x=(if 524288<(bodyT x).size then e0B else bodyT x)∧prtE x=(if 524288<(bodyT x).size then 105 else 0) from ⟨by rw [prtS,if_pos hok],by rw [prtE,if_pos hok]⟩)
  have hpp:=hF.parts
  have HPP:=hide_ hpp
  have HOK:=hide_ hok
  have HXX:=hide_ hx
  have HRR:=hide_ hr
  have HCO:=hide_ (fun g W (hw:Below w.heap.size w W) (hS:PrS w.heap.size g (poOf x s) x.labels x.fixes e0B W)=>pcode_any x s w.heap.size g e0B W hx hok (hr.below hw) hS (fun W2 h2=>hT.below (hw.trans h2)) (by have:=show e0B.size=0 from rfl;omega))
  have HDA:=hide_ (fun g RL RF W (hw:Below w.heap.size w W) (hS:PrS w.heap.size g (poOf x s) RL RF (e0B ++ codeT x) W) hL hF'=>pdata_any x s w.heap.size g RL RF _ W hx hok (hr.below hw) hS hL hF' (fun W2 h2=>hT.below (hw.trans h2)) (by rw [ba_size];have:=show e0B.size=0 from rfl;omega))
  have HZE:=hide_ (fun g RL RF W (hw:Below w.heap.size w W) (hS:PrS w.heap.size g (poOf x s) RL RF (e0B ++ codeT x ++ dataT x) W) hL hF'=>pzero_any x s w.heap.size g RL RF _ W hx hok hS hL hF' (fun W2 h2=>hT.below (hw.trans h2)) (by rw [ba_size,ba_size];have:=show e0B.size=0 from rfl;omega))
  have HRE':=hide_ (fun g RL RF W (hw:Below w.heap.size w W) (hS:PrS w.heap.size g (poOf x s) RL RF (e0B ++ codeT x ++ dataT x ++ zeroT x) W)=>prest_any x s w.heap.size g RL RF _ W hx hok (hr.below hw) hS (fun W2 h2=>hT.below (hw.trans h2)) (by rw [ba_size,ba_size,ba_size];have:=show e0B.size=0 from rfl;omega))
  have HNEW:=hide_ (fun W (hw:Below w.heap.size w W)=>show PrS w.heap.size W.heap.size (poOf x s) x.labels x.fixes e0B (W.alloc (.cells #[.pointer none,.slice none 0 0,.slice s.c.A x.code.length s.c.c,.slice s.d.A x.data.length s.d.c,.int .u32 x.zero,.int .u32 x.stack,.slice s.l.A x.labels.length s.l.c,.slice s.f.A x.fixes.length s.f.c,.slice s.t.A x.targets.length s.t.c,.slice s.e.A x.entries.length s.e.c] 133)) from
   ⟨.pointer none,s.l.A,s.l.c,s.f.A,s.f.c,.inl rfl,⟨hw.size,.slice none 0 0,heap_alloc_new _ _,World.ownsRowF_of (World.ownsRow_nil _ _ _ _),by simp [Value.ownBlock]⟩,(hr.rl.below hw).alloc hw.size _,hr.caps.2.2.1,(hr.rf.below hw).alloc hw.size _,hr.caps.2.2.2.1⟩)
  have HBD:=hide_ (show e0B ++ codeT x ++ dataT x ++ zeroT x ++ restT x=bodyT x by rw [nil_ba,bodyT];simp only [ba_assoc])
  have HBN:=hide_ (show (bodyT x).size≠0 by
   have h1:(codeT x).size=5+(codeR x x.code.length 0).size:=by rw [codeT,ba_size];rfl
   rw [bodyT,ba_size]
   omega)
  rw [HCV.out] at HRK
  unfold SecPost at HCO HDA
  unfold ZeroPost at HZE HRE'
  obtain ⟨po,hpo⟩:∃ p,p=poOf x s:=⟨_,rfl⟩
  rw [← hpo] at HCO HDA HZE HRE' HNEW
  clear hpo
  clear hF hpp hf hok hT
  obtain ⟨⟨cA,cc⟩,⟨dA,dc⟩,⟨lA,lc⟩,⟨fA,fc⟩,⟨tA,tc⟩,⟨eA,ec⟩⟩:=s
  have HRC:=hide_ hr.rc
  have HRD:=hide_ hr.rd
  have HRL:=hide_ hr.rl
  have HRF:=hide_ hr.rf
  have HRT:=hide_ hr.rt
  have HRE:=hide_ hr.re
  obtain ⟨l1,l2,l3,l4,l5,l6⟩:=hx.lens
  dsimp only [objV] at HRC HRD HRL HRF HRT HRE ⊢
  obtain ⟨n,hn⟩:∃ n,n=x.code.length:=⟨_,rfl⟩
  obtain ⟨nd,hnd⟩:∃ n,n=x.data.length:=⟨_,rfl⟩
  obtain ⟨nl,hnl⟩:∃ n,n=x.labels.length:=⟨_,rfl⟩
  obtain ⟨nf,hnf⟩:∃ n,n=x.fixes.length:=⟨_,rfl⟩
  obtain ⟨nt,hnt⟩:∃ n,n=x.targets.length:=⟨_,rfl⟩
  obtain ⟨ne,hne⟩:∃ n,n=x.entries.length:=⟨_,rfl⟩
  obtain ⟨z,hzr⟩:∃ z,z=x.zero:=⟨_,rfl⟩
  obtain ⟨sk,hsk⟩:∃ z,z=x.stack:=⟨_,rfl⟩
  rw [← hn,← hnd,← hnl,← hnf,← hnt,← hne,← hzr,← hsk]
  rw [← hn] at HRC l1
  rw [← hnd] at HRD l2
  rw [← hnl] at HRL l3
  rw [← hnf] at HRF l4
  rw [← hnt] at HRT l5
  rw [← hne] at HRE l6
  have HN:=hide_ hn.symm
  have HND:=hide_ hnd.symm
  have HNL:=hide_ hnl.symm
  have HNF:=hide_ hnf.symm
  have HNT:=hide_ hnt.symm
  have HNE:=hide_ hne.symm
  have HZ:=hide_ hzr.symm
  have HSK:=hide_ hsk.symm
  dsimp only [objV] at HRK HRE' HNEW
  rw [← hn,← hnd,← hnl,← hnf,← hnt,← hne,← hzr,← hsk] at HRK HRE' HNEW
  clear hr hx hn hnd hnl hnf hnt hne hzr hsk
  have HW1:=hide_ (show Below w.heap.size w (w.alloc (.cells #[.slice cA n cc,.slice dA nd dc,.int .u32 z,.int .u32 sk,.slice lA nl lc,.slice fA nf fc,.slice tA nt tc,.slice eA ne ec] 36)) from (Below.refl _ _).alloc (Nat.le_refl _) _)
  have HX1:=hide_ (heap_alloc_new w (.cells #[.slice cA n cc,.slice dA nd dc,.int .u32 z,.int .u32 sk,.slice lA nl lc,.slice fA nf fc,.slice tA nt tc,.slice eA ne ec] 36))
  obtain ⟨w1,hw1⟩:∃ W,W=w.alloc (.cells #[.slice cA n cc,.slice dA nd dc,.int .u32 z,.int .u32 sk,.slice lA nl lc,.slice fA nf fc,.slice tA nt tc,.slice eA ne ec] 36):=⟨_,rfl⟩
  go_enter Tryz.func53,Tryz.ntmps53
  go_upto_region 1 with (fail)
  rw [← hw1] at HW1 HX1 ⊢
  clear hw1
  have f0:w1.cell? ⟨w.heap.size,0,none⟩=some (.slice cA n cc):=cell_of_row w1 _ 0 _ _ _ HX1.out
  have f1:w1.cell? ⟨w.heap.size,1,none⟩=some (.slice dA nd dc):=cell_of_row w1 _ 1 _ _ _ HX1.out
  have f2:w1.cell? ⟨w.heap.size,2,none⟩=some (.int .u32 z):=cell_of_row w1 _ 2 _ _ _ HX1.out
  have f3:w1.cell? ⟨w.heap.size,3,none⟩=some (.int .u32 sk):=cell_of_row w1 _ 3 _ _ _ HX1.out
  have f4:w1.cell? ⟨w.heap.size,4,none⟩=some (.slice lA nl lc):=cell_of_row w1 _ 4 _ _ _ HX1.out
  have f5:w1.cell? ⟨w.heap.size,5,none⟩=some (.slice fA nf fc):=cell_of_row w1 _ 5 _ _ _ HX1.out
  have f6:w1.cell? ⟨w.heap.size,6,none⟩=some (.slice tA nt tc):=cell_of_row w1 _ 6 _ _ _ HX1.out
  have f7:w1.cell? ⟨w.heap.size,7,none⟩=some (.slice eA ne ec):=cell_of_row w1 _ 7 _ _ _ HX1.out
  have hl1:=blk_lt HX1.out
  go_wp2_with fail
  refine (HRK.out _ HW1.out).mono ?_
  rintro e w2 ⟨rfl,hb2⟩
  have HX2:=hide_ (blk_below HX1.out hb2)
  have HW2:=hide_ (HW1.out.trans (hb2.mono HW1.out.size))
  have f0:=(hb2.cell (p:=⟨w.heap.size,0,none⟩) hl1).trans f0
  have f1:=(hb2.cell (p:=⟨w.heap.size,1,none⟩) hl1).trans f1
  have f2:=(hb2.cell (p:=⟨w.heap.size,2,none⟩) hl1).trans f2
  have f3:=(hb2.cell (p:=⟨w.heap.size,3,none⟩) hl1).trans f3
  have f4:=(hb2.cell (p:=⟨w.heap.size,4,none⟩) hl1).trans f4
  have f5:=(hb2.cell (p:=⟨w.heap.size,5,none⟩) hl1).trans f5
  have f6:=(hb2.cell (p:=⟨w.heap.size,6,none⟩) hl1).trans f6
  have f7:=(hb2.cell (p:=⟨w.heap.size,7,none⟩) hl1).trans f7
  have hl2:=Nat.lt_of_lt_of_le hl1 hb2.size
  clear hb2 hl1
  have HS3:=hide_ (HNEW.out w2 HW2.out)
  have HX3:=hide_ (blk_below HX2.out ((Below.refl w2.heap.size w2).alloc (Nat.le_refl _) (.cells #[.pointer none,.slice none 0 0,.slice cA n cc,.slice dA nd dc,.int .u32 z,.int .u32 sk,.slice lA nl lc,.slice fA nf fc,.slice tA nt tc,.slice eA ne ec] 133)))
  have HW3:=hide_ (HW2.out.alloc HW2.out.size (.cells #[.pointer none,.slice none 0 0,.slice cA n cc,.slice dA nd dc,.int .u32 z,.int .u32 sk,.slice lA nl lc,.slice fA nf fc,.slice tA nt tc,.slice eA ne ec] 133))
  obtain ⟨w3,hw3⟩:∃ W,W=w2.alloc (.cells #[.pointer none,.slice none 0 0,.slice cA n cc,.slice dA nd dc,.int .u32 z,.int .u32 sk,.slice lA nl lc,.slice fA nf fc,.slice tA nt tc,.slice eA ne ec] 133):=⟨_,rfl⟩
  go_upto_region 5 with (fail)
  rw [← hw3] at HS3 HX3 HW3 ⊢
  clear hw3 f0 f1 f2 f3 f4 f5 f6 f7 hl2
  go_wp2_with fail
  refine (HCO.out _ _ HW3.out HS3.out).mono ?_
  rintro e w4 ⟨rfl,RL4,RF4,hS4,hL4,hF4,hM4⟩
  have HS4:=hide_ hS4
  have HW4:=hide_ (HW3.out.trans hM4.bel)
  have HX4:=hide_ (hM4.blk HX3.out (HS3.out.ne_blk HX3.out (by decide)) (by decide))
  have HL4:=hide_ (And.intro hL4 hF4)
  clear hS4 hM4 hL4 hF4
  go_wp2_with fail
  refine (HDA.out _ _ _ _ HW4.out HS4.out HL4.out.1 HL4.out.2).mono ?_
  rintro e w5 ⟨rfl,RL5,RF5,hS5,hL5,hF5,hM5⟩
  have HS5:=hide_ hS5
  have HW5:=hide_ (HW4.out.trans hM5.bel)
  have HX5:=hide_ (hM5.blk HX4.out (HS4.out.ne_blk HX4.out (by decide)) (by decide))
  have HL5:=hide_ (And.intro hL5 hF5)
  clear hS5 hM5 hL5 hF5
  go_wp2_with fail
  refine (HZE.out _ _ _ _ HW5.out HS5.out HL5.out.1 HL5.out.2).mono ?_
  rintro e w6 ⟨rfl,RL6,RF6,hS6,hM6⟩
  have HS6:=hide_ hS6
  have HW6:=hide_ (HW5.out.trans hM6.bel)
  have HX6:=hide_ (hM6.blk HX5.out (HS5.out.ne_blk HX5.out (by decide)) (by decide))
  clear hS6 hM6
  have f0:w6.cell? ⟨w.heap.size,0,none⟩=some (.slice cA n cc):=cell_of_row w6 _ 0 _ _ _ HX6.out
  have f1:w6.cell? ⟨w.heap.size,1,none⟩=some (.slice dA nd dc):=cell_of_row w6 _ 1 _ _ _ HX6.out
  have f2:w6.cell? ⟨w.heap.size,2,none⟩=some (.int .u32 z):=cell_of_row w6 _ 2 _ _ _ HX6.out
  have f3:w6.cell? ⟨w.heap.size,3,none⟩=some (.int .u32 sk):=cell_of_row w6 _ 3 _ _ _ HX6.out
  have f4:w6.cell? ⟨w.heap.size,4,none⟩=some (.slice lA nl lc):=cell_of_row w6 _ 4 _ _ _ HX6.out
  have f5:w6.cell? ⟨w.heap.size,5,none⟩=some (.slice fA nf fc):=cell_of_row w6 _ 5 _ _ _ HX6.out
  have f6:w6.cell? ⟨w.heap.size,6,none⟩=some (.slice tA nt tc):=cell_of_row w6 _ 6 _ _ _ HX6.out
  have f7:w6.cell? ⟨w.heap.size,7,none⟩=some (.slice eA ne ec):=cell_of_row w6 _ 7 _ _ _ HX6.out
  have hl6:=blk_lt HX6.out
  go_wp2_with fail
  refine (HRE'.out _ _ _ _ HW6.out HS6.out).mono ?_
  rintro e w7 ⟨rfl,RL7,RF7,hS7,hM7⟩
  have HW7:=hide_ (HW6.out.trans hM7.bel)
  obtain ⟨p,aL,cL,aF,cF,hp,hA,hR1,hc1,hR2,hc2⟩:=hS7
  rw [HBD.out] at hA
  have HA:=hide_ hA
  obtain ⟨TT,hTT⟩:∃ t,t=bodyT x:=⟨_,rfl⟩
  rw [← hTT] at HA HBN HRES
  clear hM7 hp hA hR1 hc1 hR2 hc2 hTT f0 f1 f2 f3 f4 f5 f6 f7 hl6
  go_wp2_with fail
  refine (pr_len _ _ _ _ _ _ _ _ HA.out).mono ?_
  rintro e w8 ⟨rfl,rfl⟩
  have hres:=HRES.out
  by_cases hbig:524288<TT.size
  ·rw [if_pos hbig,if_pos hbig] at hres
   have HR2:=hide_ hres
   have hbi:(524288:Int)<(TT.size:Int):=by omega
   clear hres hbig
   go_wp2
   go_ret2
   exact ⟨by rw [HR2.out.1,HR2.out.2];rfl,HW7.out⟩
  ·rw [if_neg hbig,if_neg hbig] at hres
   have HR2:=hide_ hres
   have hbi:¬ (524288:Int)<(TT.size:Int):=by omega
   clear hres hbig
   go_wp2_with fail
   refine (pr_text _ _ _ _ _ _ _ _ HA.out HBN.out).mono ?_
   rintro e w9 ⟨rfl,hb9⟩
   have HW9:=hide_ (HW7.out.trans hb9)
   clear hb9
   go_wp2
   go_ret2
   exact ⟨by rw [HR2.out.1,HR2.out.2];rfl,HW9.out⟩
 ·have HCV:=hide_ (show chkV x=104 from chkV_no (by simpa using hok))
  have HRES:=hide_ (show prtS x=e0B∧prtE x=104 from ⟨by rw [prtS,if_neg hok],by rw [prtE,if_neg hok]⟩)
  rw [HCV.out] at HRK
  clear hf hok hT
  obtain ⟨⟨cA,cc⟩,⟨dA,dc⟩,⟨lA,lc⟩,⟨fA,fc⟩,⟨tA,tc⟩,⟨eA,ec⟩⟩:=s
  have HRC:=hide_ hr.rc
  have HRD:=hide_ hr.rd
  have HRL:=hide_ hr.rl
  have HRF:=hide_ hr.rf
  have HRT:=hide_ hr.rt
  have HRE:=hide_ hr.re
  obtain ⟨l1,l2,l3,l4,l5,l6⟩:=hx.lens
  have HX:=hide_ hx
  dsimp only [objV] at HRC HRD HRL HRF HRT HRE ⊢
  obtain ⟨n,hn⟩:∃ n,n=x.code.length:=⟨_,rfl⟩
  obtain ⟨nd,hnd⟩:∃ n,n=x.data.length:=⟨_,rfl⟩
  obtain ⟨nl,hnl⟩:∃ n,n=x.labels.length:=⟨_,rfl⟩
  obtain ⟨nf,hnf⟩:∃ n,n=x.fixes.length:=⟨_,rfl⟩
  obtain ⟨nt,hnt⟩:∃ n,n=x.targets.length:=⟨_,rfl⟩
  obtain ⟨ne,hne⟩:∃ n,n=x.entries.length:=⟨_,rfl⟩
  obtain ⟨z,hzr⟩:∃ z,z=x.zero:=⟨_,rfl⟩
  obtain ⟨sk,hsk⟩:∃ z,z=x.stack:=⟨_,rfl⟩
  rw [← hn,← hnd,← hnl,← hnf,← hnt,← hne,← hzr,← hsk]
  rw [← hn] at HRC l1
  rw [← hnd] at HRD l2
  rw [← hnl] at HRL l3
  rw [← hnf] at HRF l4
  rw [← hnt] at HRT l5
  rw [← hne] at HRE l6
  have HN:=hide_ hn.symm
  have HND:=hide_ hnd.symm
  have HNL:=hide_ hnl.symm
  have HNF:=hide_ hnf.symm
  have HNT:=hide_ hnt.symm
  have HNE:=hide_ hne.symm
  have HZ:=hide_ hzr.symm
  have HSK:=hide_ hsk.symm
  dsimp only [objV] at HRK
  rw [← hn,← hnd,← hnl,← hnf,← hnt,← hne,← hzr,← hsk] at HRK
  clear hr hx hn hnd hnl hnf hnt hne hzr hsk
  obtain ⟨W1,hW1⟩:∃ W,W=w.alloc (.cells #[.slice cA n cc,.slice dA nd dc,.int .u32 z,.int .u32 sk,.slice lA nl lc,.slice fA nf fc,.slice tA nt tc,.slice eA ne ec] 36):=⟨_,rfl⟩
  have f0:W1.cell? ⟨w.heap.size,0,none⟩=some (.slice cA n cc):=by rw [hW1];go_simp
  have f1:W1.cell? ⟨w.heap.size,1,none⟩=some (.slice dA nd dc):=by rw [hW1];go_simp
  have f2:W1.cell? ⟨w.heap.size,2,none⟩=some (.int .u32 z):=by rw [hW1];go_simp
  have f3:W1.cell? ⟨w.heap.size,3,none⟩=some (.int .u32 sk):=by rw [hW1];go_simp
  have f4:W1.cell? ⟨w.heap.size,4,none⟩=some (.slice lA nl lc):=by rw [hW1];go_simp
  have f5:W1.cell? ⟨w.heap.size,5,none⟩=some (.slice fA nf fc):=by rw [hW1];go_simp
  have f6:W1.cell? ⟨w.heap.size,6,none⟩=some (.slice tA nt tc):=by rw [hW1];go_simp
  have f7:W1.cell? ⟨w.heap.size,7,none⟩=some (.slice eA ne ec):=by rw [hW1];go_simp
  have HB1:=hide_ (show Below w.heap.size w W1 by rw [hW1];exact (Below.refl _ _).alloc (Nat.le_refl _) _)
  have hlt0:w.heap.size<W1.heap.size:=by rw [hW1];simp
  go_enter Tryz.func53,Tryz.ntmps53
  go_upto_region 1 with (fail)
  rw [← hW1]
  clear hW1
  go_wp2_with fail
  refine (HRK.out _ HB1.out).mono ?_
  rintro e w2 ⟨rfl,hb2⟩
  have HB2:=hide_ (HB1.out.trans (hb2.mono HB1.out.size))
  clear hb2 f0 f1 f2 f3 f4 f5 f6 f7
  go_wp2
  go_ret2
  exact ⟨by rw [HRES.out.1,HRES.out.2];rfl,HB2.out⟩
end Go.Proofs.YtikbegmodacopaaGreatDoor
namespace Go.Proofs.YtikbegmodacopaaGreatDoor
open Go.RowKit Go.PlainAid Go.BigFrame
set_option linter.unusedSimpArgs false
set_option linter.unusedVariables false
set_option maxRecDepth 100000
def TxtIs (x:ImgV) (w:World) (e:Ending) (w':World):Prop:=e=.returned (.tuple #[.string (txtS x),.int .i64 (txtE x)])∧Below w.heap.size w w'
set_option maxHeartbeats 4000000 in
theorem lText_any (x:ImgV) (s:ImgS) (w:World) (hx:ImgOk x) (hr:ImgR w w.heap.size x s) (hT:TabOk w):Calls Tryz.prog 23 #[.agg (imgV x s)] w (TxtIs x w):=by
 obtain ⟨w1,hw1⟩:∃ W,W=w.alloc (.cells (imgV x s) 28):=⟨_,rfl⟩
 have HB1:=hide_ (show Below w.heap.size w w1 by rw [hw1];exact (Below.refl _ _).alloc (Nat.le_refl _) _)
 have hsz:w.heap.size<w1.heap.size:=by rw [hw1];simp
 have HAT:=hide_ (img_cells (show Blk w1 w.heap.size 28 (imgV x s) by rw [hw1];exact Blk.new w _ _))
 have OB:=hide_ (Object_any x s w1 hx ((hr.below HB1.out).more (Nat.le_of_lt hsz)) (hT.below HB1.out))
 have HTB:=hide_ (fun W (hb:Below w.heap.size w W)=>hT.below hb)
 have HX:=hide_ hx
 have HSZ:=hide_ hsz
 clear hr hx hT
 unfold imgV at hw1 OB ⊢
 obtain ⟨⟨cA,cc⟩,⟨jA,jc⟩,⟨dA,dc⟩,⟨nA,nc⟩⟩:=s
 dsimp only at hw1 HAT OB ⊢
 go_enter Tryz.func23,Tryz.ntmps23
 go_upto_region 1 with (fail)
 rw [← hw1]
 clear hw1
 obtain ⟨f0,f1,f2,f3,f4,f5⟩:=HAT.out
 go_wp2_with fail
 refine OB.out.mono ?_
 intro e w2 hoi
 clear f0 f1 f2 f3 f4 f5 OB HAT hsz
 unfold ObjIs at hoi
 have RS:=hide_ (Blk.new w2 36 z8)
 by_cases h0:objE x=0
 ·rw [if_pos h0] at hoi
  obtain ⟨s2,rfl,hO,hb⟩:=hoi
  obtain ⟨y,hy⟩:∃ y,y=objO x:=⟨_,rfl⟩
  have HE:=hide_ (show txtS x=prtS y∧txtE x=prtE y by rw [hy,txtS,txtE,if_pos h0,if_pos h0];exact ⟨rfl,rfl⟩)
  have HOK:=hide_ (show ObjOk y by rw [hy];exact objOk_of HX.out h0)
  have HFIT:=hide_ (show okB y=true→PrtFit y by rw [hy];exact prtFit_of HX.out h0)
  rw [← hy] at hO ⊢
  obtain ⟨w3,hw3⟩:∃ W,W=(w2.alloc (.cells z8 36)).setRow w2.heap.size (objV y s2):=⟨_,rfl⟩
  have HK3:=hide_ (obj_cells (show Blk w3 w2.heap.size 36 (objV y s2) by rw [hw3];exact setRow_heap _ _ _ _ _ _ RS.out))
  have HB23:=hide_ (show Below w2.heap.size w2 w3 by rw [hw3];exact below_setRow ((Below.refl _ _).alloc (Nat.le_refl _) _) (Nat.le_refl _) _)
  have HB3:=hide_ (show Below w.heap.size w w3 from (HB1.out.trans (hb.mono (Nat.le_of_lt HSZ.out))).trans (HB23.out.mono (Nat.le_trans (Nat.le_of_lt HSZ.out) hb.size)))
  have PR:=hide_ (pPrint_any y s2 w3 HOK.out (objR_own (hO.below HB23.out)) HFIT.out (HTB.out w3 HB3.out))
  have OS:=hide_ (show (Tryz.prog.info? 36).map (·.size)=some (objV y s2).size from z8_sz)
  have OO:=hide_ (show (objV y s2).all (·.oneCell')=true by simp [objV,Value.oneCell'])
  have hz3:w2.heap.size<w3.heap.size:=by rw [hw3];simp
  clear hO hb hy
  unfold z8 at RS hw3
  go_upto_region 2 with (first | (refine wpList_store_row rfl 36 (.tmp 4) (.tmp 9) rfl _ (objV y s2) rfl rfl 36 _ RS.out OS.out rfl OO.out ?_))
  rw [← hw3]
  clear hw3 RS OS OO
  obtain ⟨b0,b1,b2,b3,b4,b5,b6,b7⟩:=HK3.out
  unfold objV at PR ⊢
  go_wp2_with fail
  refine PR.out.mono ?_
  rintro e w4 ⟨rfl,hb4⟩
  have FF:=hide_ (show TxtIs x w (.returned (.tuple #[.string (prtS y),.int .i64 (prtE y)])) w4 by
   unfold TxtIs
   rw [HE.out.1,HE.out.2]
   exact ⟨rfl,HB3.out.trans (hb4.mono HB3.out.size)⟩)
  clear b0 b1 b2 b3 b4 b5 b6 b7 PR
  go_wp2_with fail
  exact bodyPost_ret (v:=.tuple #[.string (prtS y),.int .i64 (prtE y)]) (by simp [results,Tryz.results23,go_sem]) rfl FF.out
 ·rw [if_neg h0] at hoi
  obtain ⟨rfl,hb⟩:=hoi
  have h0b:(objE x != 0)=true:=by simpa using h0
  have OO:=hide_ z8_one
  have FF:=hide_ (fun (W:World) (hW:Below w2.heap.size w2 W)=>show TxtIs x w (.returned (.tuple #[.string ⟨#[]⟩,.int .i64 (objE x)])) W by
   unfold TxtIs
   rw [txtS,txtE,if_neg h0,if_neg h0]
   exact ⟨rfl,(HB1.out.trans (hb.mono (Nat.le_of_lt HSZ.out))).trans (hW.mono (Nat.le_trans (Nat.le_of_lt HSZ.out) hb.size))⟩)
  obtain ⟨E,hE⟩:∃ E,E=objE x:=⟨_,rfl⟩
  rw [← hE] at FF h0b ⊢
  clear h0 hE hb
  have F2:=hide_ (FF.out _ (below_setRow ((Below.refl _ _).alloc (Nat.le_refl _) (.cells z8 36)) (Nat.le_refl _) z8))
  go_wp2_with (first | (refine wpList_store_row rfl 36 (.tmp 4) (.tmp 9) rfl _ z8 rfl rfl 36 z8 RS.out z8_sz rfl OO.out ?_))
  exact bodyPost_ret (v:=.tuple #[.string ⟨#[]⟩,.int .i64 E]) (by simp [results,Tryz.results23,go_sem]) rfl F2.out
end Go.Proofs.YtikbegmodacopaaGreatDoor
namespace Go.Proofs.YtikbegmodacopaaGreatDoor
open Go.RowKit Go.PlainAid Go.BigFrame
set_option linter.unusedSimpArgs false
set_option linter.unusedVariables false
set_option maxRecDepth 100000
def hx (d:Nat):Nat:=if d<10 then 48+d else 87+d
def hxT (d:Nat):ByteArray:=textOf [hx d]
theorem hxT_size (d:Nat):(hxT d).size=1:=rfl
def dgW (b least:Nat):Nat→Nat→ByteArray→ByteArray
 | 0,_,s=>s
 | f+1,y,s=>if 0<y∨s.size<least then dgW b least f (y / b) (hxT (y % b) ++ s) else s
def e0C:ByteArray:=⟨#[]⟩
def hexC:ByteArray:=⟨#[48,49,50,51,52,53,54,55,56,57,97,98,99,100,101,102]⟩
theorem hexC_get:∀ d,d<16→∃ h:d<hexC.size,(hexC[d]'h).toNat=hx d:=by
 intro d hd
 have h:∀ d:Fin 16,((hexC.get! d.1).toNat=hx d.1):=by decide +kernel
 have hs:d<hexC.size:=hd
 refine ⟨hs,?_⟩
 have:=h ⟨d,hd⟩
 rw [get!_eq hexC d hs] at this
 exact this
theorem hx_conv (d:Nat) (W:World):(convert 24 9 (.slice (some ⟨W.heap.size,0,none⟩) 1 1)).run Tryz.prog (W.alloc (.cells #[.int .u8 (hx d:Nat)] 5))=.ok (.string (hxT d)) (W.alloc (.cells #[.int .u8 (hx d:Nat)] 5)):=conv_new W [hx d] 1
set_option maxHeartbeats 2000000 in
theorem rdigits_any (b least x:Nat) (bz lz:Int) (hb:(b=10∧bz=10)∨(b=16∧bz=16)) (hlz:lz=(least:Int)) (hx0:x<4294967296) (hl:least≤8) (w:World) :
  Calls Tryz.prog 80 #[.int .i64 x,.int .i64 bz,.int .i64 lz] w fun e w'=>e=.returned (.string (dgW b least (x+least) x e0C))∧Below w.heap.size w w':=by
 subst hlz
 obtain ⟨D,hD⟩:∃ D,D=dgW b least:=⟨_,rfl⟩
 have GO:=hide_ (fun f y S (h:0<y∨S.size<least)=>show D (f+1) y S=D f (y / b) (hxT (y % b) ++ S) by rw [hD,dgW,if_pos h])
 have STOP:=hide_ (fun f y S (h:¬ (0<y∨S.size<least))=>show D f y S=S by
  rw [hD]
  cases f with
  | zero=>rfl
  | succ f=>rw [dgW,if_neg h])
 rw [← hD]
 clear hD
 have hdg:=hide_ hexC_get
 rcases hb with ⟨rfl,rfl⟩ | ⟨rfl,rfl⟩
 all_goals
  go_enter Tryz.func80,Tryz.ntmps80
  go_wp2
  go_loopg [0,7] (x+least+1) (fun kx a s wr=>∃ (f y:Nat) (S:ByteArray),a=.int .i64 y∧s=.string S∧y≤x∧y+(least - S.size)≤f∧f≤kx∧Hid (S.size+f=x+least)∧Hid (D f y S=D (x+least) x e0C)∧Hid (Below w.heap.size w wr))
  case atStart=>exact ⟨x+least,x,e0C,rfl,rfl,Nat.le_refl _,by omega,by omega,hide_ (by show 0+_=_;omega),hide_ rfl,hide_ (Below.refl _ _)⟩
  case round =>
   obtain ⟨f,y,S,rfl,rfl,hy,hf,hfk,HF,HD,HB⟩:=hrel
   have hsz:S.size≤x+least:=by have:=HF.out;omega
   by_cases hc:0<y∨S.size<least
   ·obtain ⟨f,rfl⟩:∃ g,f=g+1:=⟨f - 1,by omega⟩
    have NEXT:=hide_ ((GO.out f y S hc).symm.trans HD.out)
    have NF:=hide_ (fun (d:Nat)=>show (hxT d ++ S).size+f=x+least by
     have:=HF.out
     rw [ByteArray.size_append,hxT_size]
     omega)
    have NG:=hide_ (fun (d:Nat)=>show (hxT d ++ S).size=1+S.size by rw [ByteArray.size_append,hxT_size])
    first
     | (obtain ⟨d,hd⟩:∃ d,d=y % 10:=⟨_,rfl⟩
        obtain ⟨q,hq⟩:∃ q,q=y / 10:=⟨_,rfl⟩
        rw [← hd,← hq] at NEXT
        have hd16:d<16:=by omega
        have hqy:q≤y:=by omega
        have hqz:0<y→q<y:=by omega
        have t1:(y:Int).tmod 10=(d:Int):=by rw [Int.tmod_eq_emod_of_nonneg (by omega)];omega
        have t2:(y:Int).tdiv 10=(q:Int):=by rw [Int.tdiv_eq_ediv_of_nonneg (by omega)];omega
        have t3:(y:Int) % 10=(d:Int):=by omega
        have t4:(y:Int) / 10=(q:Int):=by omega
        clear hd hq)
     | (obtain ⟨d,hd⟩:∃ d,d=y % 16:=⟨_,rfl⟩
        obtain ⟨q,hq⟩:∃ q,q=y / 16:=⟨_,rfl⟩
        rw [← hd,← hq] at NEXT
        have hd16:d<16:=by omega
        have hqy:q≤y:=by omega
        have hqz:0<y→q<y:=by omega
        have t1:(y:Int).tmod 16=(d:Int):=by rw [Int.tmod_eq_emod_of_nonneg (by omega)];omega
        have t2:(y:Int).tdiv 16=(q:Int):=by rw [Int.tdiv_eq_ediv_of_nonneg (by omega)];omega
        have t3:(y:Int) % 16=(d:Int):=by omega
        have t4:(y:Int) / 16=(q:Int):=by omega
        clear hd hq)
    obtain ⟨hs,hg⟩:=hdg.out d hd16
    unfold hexC at hs hg
    have hcv:=hx_conv d wr
    have hmf:q+(least - (1+S.size))≤f:=by omega
    obtain ⟨v,hv⟩:∃ v,v=hx d:=⟨_,rfl⟩
    rw [← hv] at hg hcv
    obtain ⟨dt,hdt⟩:∃ v,v=hxT d:=⟨_,rfl⟩
    have hdz:dt.size=1:=by rw [hdt];rfl
    have h63:¬ (9223372036854775807:Int)<(dt.size:Int)+(S.size:Int):=by rw [hdz];omega
    have h64:¬ 9223372036854775807<dt.size+S.size:=by rw [hdz];omega
    have NF:=hide_ (NF.out d)
    have NG:=hide_ (NG.out d)
    rw [← hdt] at hcv NEXT NF NG
    clear hdz hdt hv hqz
    have hdi:(d:Int)<16:=by omega
    have hd0:0≤(d:Int):=by omega
    by_cases y0:0<y
    ·have c0:decide ((0:Int)<(y:Int))=true:=decide_eq_true (by omega)
     have c1:decide (0<y)=true:=decide_eq_true y0
     go_wp2
     go_roundg f
     case measure=>omega
     case rel=>exact ⟨f,q,dt ++ S,rfl,rfl,by omega,by rw [NG.out];exact hmf,Nat.le_refl _,NF,NEXT,hide_ (HB.out.alloc HB.out.size _)⟩
    ·have c0:decide ((0:Int)<(y:Int))=false:=decide_eq_false (by omega)
     have c1:decide (0<y)=false:=decide_eq_false y0
     have c2:decide ((S.size:Int)<(least:Int))=true:=decide_eq_true (by omega)
     have c3:decide (S.size<least)=true:=decide_eq_true (by omega)
     go_wp2
     go_roundg f
     case measure=>omega
     case rel=>exact ⟨f,q,dt ++ S,rfl,rfl,by omega,by rw [NG.out];exact hmf,Nat.le_refl _,NF,NEXT,hide_ (HB.out.alloc HB.out.size _)⟩
   ·have y0:y=0:=by omega
    have E:=hide_ ((STOP.out f y S hc).symm.trans HD.out)
    subst y0
    have c1:decide ((S.size:Int)<(least:Int))=false:=decide_eq_false (by omega)
    have c2:decide (S.size<least)=false:=decide_eq_false (by omega)
    go_wp2
    go_ret
    exact ⟨by rw [← E.out];rfl,HB.out⟩
end Go.Proofs.YtikbegmodacopaaGreatDoor
namespace Go.Proofs.YtikbegmodacopaaGreatDoor
open Go.RowKit Go.PlainAid Go.BigFrame
set_option linter.unusedSimpArgs false
set_option linter.unusedVariables false
set_option maxRecDepth 100000
end Go.Proofs.YtikbegmodacopaaGreatDoor
namespace Go.Proofs.YtikbegmodacopaaGreatDoor
open Go.RowKit Go.PlainAid Go.BigFrame
set_option linter.unusedSimpArgs false
set_option linter.unusedVariables false
set_option maxRecDepth 100000
end Go.Proofs.YtikbegmodacopaaGreatDoor
namespace Go.Proofs.YtikbegmodacopaaGreatDoor
open Go.RowKit Go.PlainAid Go.BigFrame
set_option linter.unusedSimpArgs false
set_option linter.unusedVariables false
set_option maxRecDepth 100000
section
variable {W:World} {B g n c:Nat} {y:ObjV} {s:ObjS} {tl:List Ro} {A:Option Addr} {xs:List Value}
end
section
variable {W:World} {B g:Nat} {y:ObjV} {s:ObjS} {tl:List Ro}
end
end Go.Proofs.YtikbegmodacopaaGreatDoor
namespace Go.Proofs.YtikbegmodacopaaGreatDoor
open Go.RowKit Go.PlainAid Go.BigFrame
set_option linter.unusedSimpArgs false
set_option linter.unusedVariables false
set_option maxRecDepth 100000
def smpI:ImgV:=⟨[(3,8),(8,0),(8,1),(13,5),(6,1),(8,7),(4,8)],[5],[],4,64,[⟨⟨#[109,97,105,110]⟩,0⟩]⟩
def smpS (n:Nat):ImgS:=⟨⟨some ⟨n+1,0,none⟩,7⟩,⟨some ⟨n+1+1,0,none⟩,1⟩,⟨none,0⟩,⟨some ⟨n+1+1+1,0,none⟩,1⟩⟩
theorem smp_ok:ImgOk smpI:=by
 refine ⟨?_,?_,?_,?_,?_,?_,?_⟩ <;> (unfold smpI;simp <;> decide)
theorem cell_setRow {W:World} {q:Nat} {cs:Array Value} (p:Addr) (h:p.block≠q):(W.setRow q cs).cell? p=W.cell? p:=by
 have h1:=setRow_other W q p.block cs h
 unfold World.cell?
 rw [h1]
theorem reads_setRow {W:World} {B K n g q:Nat} {cs:Array Value} {xs:List Value} (h:Reads W B K (some ⟨g,0,none⟩) n xs) (hg:g≠q):Reads (W.setRow q cs) B K (some ⟨g,0,none⟩) n xs:=by
 refine ⟨h.1,fun hn=>?_⟩
 obtain ⟨ad,e,hb,hc⟩:=h.2 hn
 refine ⟨ad,e,hb,fun j u hu=>?_⟩
 injection e with e
 subst e
 have e1:(⟨g,0,none⟩:Addr).add j=⟨g,j,none⟩:=by unfold Addr.add;split <;> simp_all
 rw [← hc j u hu,e1]
 exact cell_setRow _ hg
set_option maxHeartbeats 4000000 in
theorem sample_any (w:World):Calls Tryz.prog 31 #[] w fun e w'=>∃ s,e=.returned (.agg (imgV smpI s))∧ImgR w' w'.heap.size smpI s∧Below w.heap.size w w':=by
 obtain ⟨w1,hw1⟩:∃ W,W=w.alloc (.cells z6 28):=⟨_,rfl⟩
 have hs1:w1.heap.size=w.heap.size+1:=by rw [hw1];simp
 have HB1:=hide_ (show Below w.heap.size w w1 by rw [hw1];exact (Below.refl _ _).alloc (Nat.le_refl _) _)
 have HK1:=hide_ (show Blk w1 w.heap.size 28 z6 by rw [hw1];exact Blk.new w _ _)
 obtain ⟨w2,hw2⟩:∃ W,W=w1.alloc (.cells #[.int .u8 3,.int .u32 8,.int .u8 8,.int .u32 0,.int .u8 8,.int .u32 1,.int .u8 13,.int .u32 5,.int .u8 6,.int .u32 1,.int .u8 8,.int .u32 7,.int .u8 4,.int .u32 8] 66):=⟨_,rfl⟩
 have hs2:w2.heap.size=w.heap.size+1+1:=by rw [hw2];simp [hs1]
 have HB2:=hide_ (show Below w1.heap.size w1 w2 by rw [hw2];exact (Below.refl _ _).alloc (Nat.le_refl _) _)
 have HR2:=hide_ (show Reads w2 w2.heap.size 2 (some ⟨w.heap.size+1,0,none⟩) 7 (smpI.code.flatMap cE) by
  have h:=reads_new w1 66 2 7 (smpI.code.flatMap cE) rfl
  rw [← hs1,hs2,← hs1,hw2]
  exact h)
 obtain ⟨w3,hw3⟩:∃ W,W=w2.alloc (.cells #[.int .u32 5] 25):=⟨_,rfl⟩
 have hs3:w3.heap.size=w.heap.size+1+1+1:=by rw [hw3];simp [hs2]
 have HB3:=hide_ (show Below w2.heap.size w2 w3 by rw [hw3];exact (Below.refl _ _).alloc (Nat.le_refl _) _)
 have HR3:=hide_ (show Reads w3 w3.heap.size 1 (some ⟨w.heap.size+1+1,0,none⟩) 1 (u32s smpI.jumps) by
  have h:=reads_new w2 25 1 1 (u32s smpI.jumps) rfl
  rw [← hs2,hs3,← hs2,hw3]
  exact h)
 obtain ⟨w4,hw4⟩:∃ W,W=w3.alloc (.cells #[.string ⟨#[109,97,105,110]⟩,.int .u32 0] 44):=⟨_,rfl⟩
 have hs4:w4.heap.size=w.heap.size+1+1+1+1:=by rw [hw4];simp [hs3]
 have HB4:=hide_ (show Below w3.heap.size w3 w4 by rw [hw4];exact (Below.refl _ _).alloc (Nat.le_refl _) _)
 have HR4:=hide_ (show Reads w4 w4.heap.size 2 (some ⟨w.heap.size+1+1+1,0,none⟩) 1 (smpI.names.flatMap xE) by
  have h:=reads_new w3 44 2 1 (smpI.names.flatMap xE) rfl
  rw [← hs3,hs4,← hs3,hw4]
  exact h)
 have RS:=hide_ (show Blk w4 w.heap.size 28 z6 by rw [hw4,hw3,hw2];exact ((HK1.out.alloc _).alloc _).alloc _)
 have FIN:=hide_ (show ∃ s,(Ending.returned (.agg (imgV smpI (smpS w.heap.size))))=.returned (.agg (imgV smpI s))∧ImgR (w4.setRow w.heap.size (imgV smpI (smpS w.heap.size))) (w4.setRow w.heap.size (imgV smpI (smpS w.heap.size))).heap.size smpI s∧Below w.heap.size w (w4.setRow w.heap.size (imgV smpI (smpS w.heap.size))) by
  have hr:=fun {K n:Nat} {g:Nat} {xs:List Value} (h:Reads w4 w4.heap.size K (some ⟨g,0,none⟩) n xs) (hg:g≠w.heap.size)=>reads_setRow h (cs:=imgV smpI (smpS w.heap.size)) hg
  have hz:(w4.setRow w.heap.size (imgV smpI (smpS w.heap.size))).heap.size=w4.heap.size:=size_setRow ..
  refine ⟨smpS w.heap.size,rfl,?_,?_⟩
  ·rw [hz]
   refine ⟨hr ((((HR2.out.below (HB3.out)).more (by omega)).below HB4.out).more (by omega)) (by omega),hr ((HR3.out.below HB4.out).more (by omega)) (by omega),⟨rfl,fun h=>absurd h (by decide)⟩,hr HR4.out (by omega),?_⟩
   unfold smpI smpS
   dsimp only
   decide
  ·exact below_setRow ((HB1.out.trans (HB2.out.mono (by omega))).trans ((HB3.out.mono (by omega)).trans (HB4.out.mono (by omega)))) (Nat.le_refl _) _)
 have OO:=hide_ (show (imgV smpI (smpS w.heap.size)).all (·.oneCell')=true by simp [imgV,Value.oneCell'])
 have HZ:=hide_ (And.intro hs1 (And.intro hs2 (And.intro hs3 hs4)))
 unfold z6 at hw1
 go_enter Tryz.func31,Tryz.ntmps31
 go_upto_region 1 with (fail)
 rw [← hw1]
 clear hw1
 go_upto_region 2 with (fail)
 rw [← hw2]
 clear hw2
 rw [hw3] at hw4
 go_wp2_with (first | (rw [← hw4];refine wpList_store_row rfl 28 (.tmp 0) (.tmp 14) rfl _ (imgV smpI (smpS w.heap.size)) rfl rfl 28 z6 RS.out z6_sz rfl OO.out ?_))
 exact bodyPost_ret (v:=.agg (imgV smpI (smpS w.heap.size))) (results_cell_row rfl _ _ w.heap.size _ _ _ _ rfl (setRow_heap _ _ _ _ _ _ RS.out) Tryz.underlying28 rfl z6_sz) rfl FIN.out
end Go.Proofs.YtikbegmodacopaaGreatDoor
namespace Go.Proofs.YtikbegmodacopaaGreatDoor
set_option maxRecDepth 100000
open Go.RowKit Go.PlainAid Go.BigFrame
set_option linter.unusedSimpArgs false
set_option linter.unusedVariables false
theorem join3 (a b c:List UInt8):Lib.join [a,b,c] []=a ++ b ++ c:=by
 rw [Lib.join_cons]
 simp [Lib.joinTail]
theorem joined3 (bk:Nat) (a b c:ByteArray) (W:World) (h:W.heap[bk]?=some (.cells #[.string a,.string b,.string c] 9 (0,0))) (hs:a.size+b.size+c.size≤140737488355328) :
  Calls Tryz.prog 66 #[.slice (some ⟨bk,0,none⟩) 3 3] W fun e w'=>e=.returned (.string (a ++ b ++ c))∧Below W.heap.size W w':=by
 have hlt:bk<W.heap.size:=by
  rcases Nat.lt_or_ge bk W.heap.size with h1 | h1
  ·exact h1
  ·rw [Array.getElem?_eq_none h1] at h;cases h
 have hc:∀ (j:Nat) x,[a,b,c][j]?=some x→W.cell? ⟨bk,0+j,none⟩=some (.string x):=fun j x hj=>by
  rw [Nat.zero_add,cell_of_row W bk j _ _ _ h]
  match j,hj with
  | 0,hj=>simp at hj;subst hj;rfl
  | 1,hj=>simp at hj;subst hj;rfl
  | 2,hj=>simp at hj;subst hj;rfl
  | j+3,hj=>simp at hj
 have hJ:=Tryz.strings_Join bk 0 3 [a,b,c] ⟨#[]⟩ W hc hlt (by simp) (Nat.le_refl _) (by
  simp only [List.map_cons,List.map_nil]
  rw [join3]
  simp
  omega)
 have e1:(Lib.join ([a,b,c].map (·.data.toList)) (⟨#[]⟩:ByteArray).data.toList)=a.data.toList ++ b.data.toList ++ c.data.toList:=join3 _ _ _
 rw [e1,show (⟨(a.data.toList ++ b.data.toList ++ c.data.toList).toArray⟩:ByteArray)=a ++ b ++ c from by apply ByteArray.ext;simp] at hJ
 have HJ:=hide_ hJ
 clear hJ e1 hc hs h
 go_enter Tryz.func66,Tryz.ntmps66
 go_wp2_with fail
 refine HJ.out.mono ?_
 rintro e w1 ⟨rfl,hb⟩
 have HB:=hide_ hb
 clear hb
 go_wp2
 go_ret
 exact ⟨rfl,HB.out⟩
def lineS (op arg:Int):ByteArray:=if opChk op arg≠0 then ⟨#[]⟩ else if (opR op).width=0 then ⟨(opR op).w.toArray⟩ else ⟨(opR op).w.toArray⟩ ++ ⟨#[32]⟩ ++ sgnT arg
theorem words_shortL:∀ r ∈ opRows,r.w.length≤8:=by decide
theorem opR_shortL (op:Int):(opR op).w.length≤8:=by
 unfold opR
 split
 ·unfold opRow
  rw [List.getD_eq_getElem?_getD]
  cases h:opRows[op.toNat]? with
  | none=>simp
  | some r=>exact words_shortL r (List.mem_of_getElem? h)
 ·simp
theorem sgnT_size {x:Int} (h0:0≤x) (h1:x<4294967296):(sgnT x).size≤4294967298:=by
 have hd:∀ n:Nat,(Lib.decDigits n).length≤n+1:=fun n=>by
  have h1:=d0_len n
  by_cases h:n=0
  ·subst h;rw [Lib.decDigits_one (by omega)];simp
  ·unfold d0 dcm at h1
   rw [if_neg h,List.length_map] at h1
   omega
 by_cases h:2147483648≤x
 ·rw [sgnT_neg h h1]
  have:=hd (4294967296 - x).toNat
  simp [ByteArray.size]
  omega
 ·rw [sgnT_pos h0 h]
  have:=hd x.toNat
  simp [ByteArray.size]
  omega
set_option maxHeartbeats 2000000 in
theorem Line_any (op arg:Int) (q0:0≤op) (q1:op≤255) (a0:0≤arg) (a1:arg<4294967296) (w:World) (hT:TabOk w) :
  Calls Tryz.prog 30 #[.agg #[.int .u8 op,.int .u32 arg]] w fun e w'=>e=.returned (.tuple #[.string (lineS op arg),.int .i64 (opChk op arg)])∧Below w.heap.size w w':=by
 have HC:=hide_ (fun w=>Check_any op arg w)
 have HI:=hide_ (fun w=>Info_any op w)
 have hsh:=opR_shortL op
 unfold lineS
 obtain ⟨k,hk⟩:∃ k,k=opChk op arg:=⟨_,rfl⟩
 obtain ⟨r,hr⟩:∃ r,r=opR op:=⟨_,rfl⟩
 have hV:opV op=(opCells r).toArray:=by rw [hr];rfl
 rw [hV] at HI
 rw [← hk] at HC ⊢
 rw [← hr] at hsh ⊢
 have HT:=hide_ hT
 clear hr hV hT
 unfold opCells at HI
 by_cases hk0:k=0
 ·have hok:opOk op=true:=by
   rw [hk] at hk0
   unfold opChk at hk0
   cases h:opOk op with
   | true=>rfl
   | false=>rw [h] at hk0;simp at hk0
  rw [hok] at HI
  clear hok hk
  subst hk0
  rw [if_neg (by simp)]
  by_cases hw:r.width=0
  ·rw [if_pos hw]
   have hwi:((r.width:Int) == 0)=true:=by rw [hw];rfl
   clear hw
   go_enter Tryz.func30,Tryz.ntmps30
   go_wp2_with fail
   refine (HC.out _).mono ?_
   rintro e w1 ⟨rfl,hb⟩
   have hc:=(hb.cell (p:=⟨w.heap.size,0,none⟩) (by simp)).trans (show (w.alloc (.cells #[.int .u8 op,.int .u32 arg] 66)).cell? ⟨w.heap.size,0,none⟩=some (.int .u8 op) from by simp)
   have hz:w.heap.size<w1.heap.size:=by have:=hb.size;simp at this;omega
   have HB:=hide_ (show Below w.heap.size w w1 from ((Below.refl _ _).alloc (Nat.le_refl _) _).trans (hb.mono (by simp)))
   clear hb
   go_wp2_with fail
   refine (HI.out _).mono ?_
   rintro e w2 ⟨rfl,hb2⟩
   have HB2:=hide_ (HB.out.trans (hb2.mono HB.out.size))
   clear hb2
   go_wp2
   go_ret2
   exact ⟨rfl,(HB2.out).alloc HB2.out.size _⟩
  ·rw [if_neg hw]
   have hwi:((r.width:Int) == 0)=false:=by simpa using hw
   clear hw
   go_enter Tryz.func30,Tryz.ntmps30
   go_wp2_with fail
   refine (HC.out _).mono ?_
   rintro e w1 ⟨rfl,hb⟩
   have hc:=(hb.cell (p:=⟨w.heap.size,0,none⟩) (by simp)).trans (show (w.alloc (.cells #[.int .u8 op,.int .u32 arg] 66)).cell? ⟨w.heap.size,0,none⟩=some (.int .u8 op) from by simp)
   have hc1:=(hb.cell (p:=⟨w.heap.size,1,none⟩) (by simp)).trans (show (w.alloc (.cells #[.int .u8 op,.int .u32 arg] 66)).cell? ⟨w.heap.size,1,none⟩=some (.int .u32 arg) from by simp)
   have hz:w.heap.size<w1.heap.size:=by have:=hb.size;simp at this;omega
   have HB:=hide_ (show Below w.heap.size w w1 from ((Below.refl _ _).alloc (Nat.le_refl _) _).trans (hb.mono (by simp)))
   clear hb
   go_wp2_with fail
   refine (HI.out _).mono ?_
   rintro e w2 ⟨rfl,hb2⟩
   have HB2:=hide_ (HB.out.trans (hb2.mono HB.out.size))
   have hc2:=(hb2.cell (p:=⟨w.heap.size,1,none⟩) hz).trans hc1
   have hz2:w.heap.size<w2.heap.size:=Nat.lt_of_lt_of_le hz hb2.size
   clear hb2 hc hc1
   go_wp2
   have c0:(w2.alloc (.cells #[.string ⟨r.w.toArray⟩,.int .i64 r.width,.int .u32 r.most,.int .i64 r.takes,.int .i64 r.gives,.int .u8 r.kind] 114)).cell? ⟨w2.heap.size,0,none⟩=some (.string ⟨r.w.toArray⟩):=by simp
   have c1:(w2.alloc (.cells #[.string ⟨r.w.toArray⟩,.int .i64 r.width,.int .u32 r.most,.int .i64 r.takes,.int .i64 r.gives,.int .u8 r.kind] 114)).cell? ⟨w.heap.size,1,none⟩=some (.int .u32 arg):=(World.cell?_alloc_lt w2 _ ⟨w.heap.size,1,none⟩ hz2).trans hc2
   have hB0:=(HB2.out).alloc HB2.out.size (.cells #[.string ⟨r.w.toArray⟩,.int .i64 r.width,.int .u32 r.most,.int .i64 r.takes,.int .i64 r.gives,.int .u8 r.kind] 114)
   have hs0:w2.heap.size<(w2.alloc (.cells #[.string ⟨r.w.toArray⟩,.int .i64 r.width,.int .u32 r.most,.int .i64 r.takes,.int .i64 r.gives,.int .u8 r.kind] 114)).heap.size:=by simp
   generalize w2.alloc (.cells #[.string ⟨r.w.toArray⟩,.int .i64 r.width,.int .u32 r.most,.int .i64 r.takes,.int .i64 r.gives,.int .u8 r.kind] 114)=W0 at c0 c1 hB0 hs0 ⊢
   have hs1:w.heap.size<W0.heap.size:=Nat.lt_trans hz2 hs0
   generalize w2.heap.size=g5 at c0 hs0 ⊢
   have HT0:=hide_ (HT.out.below hB0)
   have HSZ:=hide_ (show (⟨r.w.toArray⟩:ByteArray).size+(⟨#[32]⟩:ByteArray).size+(sgnT arg).size≤140737488355328 by
    have:=sgnT_size a0 a1
    have e1:(⟨r.w.toArray⟩:ByteArray).size=r.w.length:=by simp [ByteArray.size]
    have e2:(⟨#[32]⟩:ByteArray).size=1:=rfl
    omega)
   have SS:Hid (∀ W W',Below W0.heap.size W0 W→Below W.heap.size W W'→W'.cell? ⟨g5,0,none⟩=some (.string ⟨r.w.toArray⟩)∧W'.cell? ⟨w.heap.size,1,none⟩=some (.int .u32 arg)∧Below W0.heap.size W0 W'):=hide_ fun W W' h1 h2=>by
    have h3:=h1.trans (h2.mono h1.size)
    exact ⟨(h3.cell hs0).trans c0,(h3.cell hs1).trans c1,h3⟩
   have HST:=hide_ (show W0.drew.cell? ⟨g5,0,none⟩=some (.string ⟨r.w.toArray⟩)∧W0.drew.cell? ⟨w.heap.size,1,none⟩=some (.int .u32 arg)∧Below W0.heap.size W0 W0.drew from ⟨c0,c1,(Below.refl W0.heap.size W0).drew⟩)
   have SG:=hide_ (fun W (h:Below W0.heap.size W0 W)=>Signed_any arg a0 a1 W (HT0.out.below h))
   have HB0:=hide_ hB0
   clear hB0 hc2 hz hz2 HT
   go_region_held3 (fun W'=>W'.cell? ⟨g5,0,none⟩=some (.string ⟨r.w.toArray⟩)∧W'.cell? ⟨w.heap.size,1,none⟩=some (.int .u32 arg)∧Below W0.heap.size W0 W')
    (first | exact HST.out | (go_split_ands;exact SS.out _ _ (by assumption) hb9) | (go_split_ands;exact SS.out _ _ (by assumption) ((Below.refl _ _).alloc (Nat.le_refl _) _)))
    ((first
      | (go_at_call 67;go_split_ands;refine (SG.out _ (by assumption)).mono ?_;rintro e w9 ⟨rfl,hb9⟩)
      | (go_at_call 66;go_split_ands;refine (joined3 _ _ _ _ _ (heap_alloc_new _ _) HSZ.out).mono ?_;rintro e w9 ⟨rfl,hb9⟩)))
   go_wp2
   go_ret2
   go_split_ands
   have hfin:Below W0.heap.size W0 w9:=by assumption
   exact ⟨rfl,HB0.out.trans (hfin.mono HB0.out.size)⟩
 ·rw [if_pos hk0]
  have hkb:(k != 0)=true:=by simpa using hk0
  clear hk hk0
  go_enter Tryz.func30,Tryz.ntmps30
  go_wp2_with fail
  refine (HC.out _).mono ?_
  rintro e w1 ⟨rfl,hb⟩
  have HB:=hide_ (show Below w.heap.size w w1 from ((Below.refl _ _).alloc (Nat.le_refl _) _).trans (hb.mono (by simp)))
  clear hb
  go_wp2
  go_ret2
  exact ⟨rfl,HB.out⟩
set_option maxHeartbeats 2000000 in
theorem rLine_any (op arg:Int) (q0:0≤op) (q1:op≤255) (a0:0≤arg) (a1:arg<4294967296) (w:World) :
  Calls Tryz.prog 62 #[.agg #[.int .u8 op,.int .u32 arg]] w fun e w'=>e=.returned (.tuple #[.string (lineS op arg),.int .i64 (opChk op arg)])∧Below w.heap.size w w':=by
 have HC:=hide_ (fun w=>rCheck_any op arg q0 q1 w)
 have HI:=hide_ (fun w=>rInfo_any op q0 q1 w)
 have hsh:=opR_shortL op
 unfold lineS
 obtain ⟨k,hk⟩:∃ k,k=opChk op arg:=⟨_,rfl⟩
 obtain ⟨r,hr⟩:∃ r,r=opR op:=⟨_,rfl⟩
 have hV:opV op=(opCells r).toArray:=by rw [hr];rfl
 rw [hV] at HI
 rw [← hk] at HC ⊢
 rw [← hr] at hsh ⊢
 clear hr hV
 unfold opCells at HI
 by_cases hk0:k=0
 ·have hok:opOk op=true:=by
   rw [hk] at hk0
   unfold opChk at hk0
   cases h:opOk op with
   | true=>rfl
   | false=>rw [h] at hk0;simp at hk0
  rw [hok] at HI
  clear hok hk
  subst hk0
  rw [if_neg (by simp)]
  by_cases hw:r.width=0
  ·rw [if_pos hw]
   have hwi:((r.width:Int) == 0)=true:=by rw [hw];rfl
   clear hw
   go_enter Tryz.func62,Tryz.ntmps62
   go_wp2_with fail
   refine (HC.out _).mono ?_
   rintro e w1 ⟨rfl,hb⟩
   have hc:=(hb.cell (p:=⟨w.heap.size,0,none⟩) (by simp)).trans (show (w.alloc (.cells #[.int .u8 op,.int .u32 arg] 66)).cell? ⟨w.heap.size,0,none⟩=some (.int .u8 op) from by simp)
   have hz:w.heap.size<w1.heap.size:=by have:=hb.size;simp at this;omega
   have HB:=hide_ (show Below w.heap.size w w1 from ((Below.refl _ _).alloc (Nat.le_refl _) _).trans (hb.mono (by simp)))
   clear hb
   go_wp2_with fail
   refine (HI.out _).mono ?_
   rintro e w2 ⟨rfl,hb2⟩
   have HB2:=hide_ (HB.out.trans (hb2.mono HB.out.size))
   clear hb2
   go_wp2
   go_ret2
   exact ⟨rfl,(HB2.out).alloc HB2.out.size _⟩
  ·rw [if_neg hw]
   have hwi:((r.width:Int) == 0)=false:=by simpa using hw
   clear hw
   go_enter Tryz.func62,Tryz.ntmps62
   go_wp2_with fail
   refine (HC.out _).mono ?_
   rintro e w1 ⟨rfl,hb⟩
   have hc:=(hb.cell (p:=⟨w.heap.size,0,none⟩) (by simp)).trans (show (w.alloc (.cells #[.int .u8 op,.int .u32 arg] 66)).cell? ⟨w.heap.size,0,none⟩=some (.int .u8 op) from by simp)
   have hc1:=(hb.cell (p:=⟨w.heap.size,1,none⟩) (by simp)).trans (show (w.alloc (.cells #[.int .u8 op,.int .u32 arg] 66)).cell? ⟨w.heap.size,1,none⟩=some (.int .u32 arg) from by simp)
   have hz:w.heap.size<w1.heap.size:=by have:=hb.size;simp at this;omega
   have HB:=hide_ (show Below w.heap.size w w1 from ((Below.refl _ _).alloc (Nat.le_refl _) _).trans (hb.mono (by simp)))
   clear hb
   go_wp2_with fail
   refine (HI.out _).mono ?_
   rintro e w2 ⟨rfl,hb2⟩
   have HB2:=hide_ (HB.out.trans (hb2.mono HB.out.size))
   have hc2:=(hb2.cell (p:=⟨w.heap.size,1,none⟩) hz).trans hc1
   have hz2:w.heap.size<w2.heap.size:=Nat.lt_of_lt_of_le hz hb2.size
   clear hb2 hc hc1
   go_wp2
   have c0:(w2.alloc (.cells #[.string ⟨r.w.toArray⟩,.int .i64 r.width,.int .u32 r.most,.int .i64 r.takes,.int .i64 r.gives,.int .u8 r.kind] 114)).cell? ⟨w2.heap.size,0,none⟩=some (.string ⟨r.w.toArray⟩):=by simp
   have c1:(w2.alloc (.cells #[.string ⟨r.w.toArray⟩,.int .i64 r.width,.int .u32 r.most,.int .i64 r.takes,.int .i64 r.gives,.int .u8 r.kind] 114)).cell? ⟨w.heap.size,1,none⟩=some (.int .u32 arg):=(World.cell?_alloc_lt w2 _ ⟨w.heap.size,1,none⟩ hz2).trans hc2
   have hB0:=(HB2.out).alloc HB2.out.size (.cells #[.string ⟨r.w.toArray⟩,.int .i64 r.width,.int .u32 r.most,.int .i64 r.takes,.int .i64 r.gives,.int .u8 r.kind] 114)
   have hs0:w2.heap.size<(w2.alloc (.cells #[.string ⟨r.w.toArray⟩,.int .i64 r.width,.int .u32 r.most,.int .i64 r.takes,.int .i64 r.gives,.int .u8 r.kind] 114)).heap.size:=by simp
   generalize w2.alloc (.cells #[.string ⟨r.w.toArray⟩,.int .i64 r.width,.int .u32 r.most,.int .i64 r.takes,.int .i64 r.gives,.int .u8 r.kind] 114)=W0 at c0 c1 hB0 hs0 ⊢
   have hs1:w.heap.size<W0.heap.size:=Nat.lt_trans hz2 hs0
   generalize w2.heap.size=g5 at c0 hs0 ⊢
   have hl1:¬ 9223372036854775807<r.w.length+1:=by omega
   have hl2:¬ 9223372036854775807<r.w.length+1+(sgnT arg).size:=by have:=sgnT_size a0 a1;omega
   have SS:Hid (∀ W W',Below W0.heap.size W0 W→Below W.heap.size W W'→W'.cell? ⟨g5,0,none⟩=some (.string ⟨r.w.toArray⟩)∧W'.cell? ⟨w.heap.size,1,none⟩=some (.int .u32 arg)∧Below W0.heap.size W0 W'):=hide_ fun W W' h1 h2=>by
    have h3:=h1.trans (h2.mono h1.size)
    exact ⟨(h3.cell hs0).trans c0,(h3.cell hs1).trans c1,h3⟩
   have HST:=hide_ (show W0.drew.cell? ⟨g5,0,none⟩=some (.string ⟨r.w.toArray⟩)∧W0.drew.cell? ⟨w.heap.size,1,none⟩=some (.int .u32 arg)∧Below W0.heap.size W0 W0.drew from ⟨c0,c1,(Below.refl W0.heap.size W0).drew⟩)
   have SG:=hide_ (fun W (h:Below W0.heap.size W0 W)=>rSigned_any arg a0 a1 W)
   have HB0:=hide_ hB0
   clear hB0 hc2 hz hz2
   go_region_held3 (fun W'=>W'.cell? ⟨g5,0,none⟩=some (.string ⟨r.w.toArray⟩)∧W'.cell? ⟨w.heap.size,1,none⟩=some (.int .u32 arg)∧Below W0.heap.size W0 W')
    (first | exact HST.out | (go_split_ands;exact SS.out _ _ (by assumption) hb9) | (go_split_ands;exact SS.out _ _ (by assumption) ((Below.refl _ _).alloc (Nat.le_refl _) _)))
    ((go_at_call 101;go_split_ands;refine (SG.out _ (by assumption)).mono ?_;rintro e w9 ⟨rfl,hb9⟩))
   go_wp2
   go_ret2
   go_split_ands
   have hfin:Below W0.heap.size W0 w9:=by assumption
   exact ⟨rfl,HB0.out.trans (hfin.mono HB0.out.size)⟩
 ·rw [if_pos hk0]
  have hkb:(k != 0)=true:=by simpa using hk0
  clear hk hk0
  go_enter Tryz.func62,Tryz.ntmps62
  go_wp2_with fail
  refine (HC.out _).mono ?_
  rintro e w1 ⟨rfl,hb⟩
  have HB:=hide_ (show Below w.heap.size w w1 from ((Below.refl _ _).alloc (Nat.le_refl _) _).trans (hb.mono (by simp)))
  clear hb
  go_wp2
  go_ret2
  exact ⟨rfl,HB.out⟩
end Go.Proofs.YtikbegmodacopaaGreatDoor
