/-
  Joined and packed by program.
-/
import Derived.Test.YtikbegmodacopaaGreatDoorC23
import Derived.Test.YtikbegmodacopaaGreatDoorC19
import Derived.Test.YtikbegmodacopaaGreatDoorC13
import Derived.Test.YtikbegmodacopaaGreatDoorC15
namespace Go.Proofs.YtikbegmodacopaaGreatDoor
open Go.RowKit Go.PlainAid Go.BigFrame
set_option linter.unusedSimpArgs false
set_option linter.unusedVariables false
set_option maxRecDepth 100000
set_option maxHeartbeats 16000000 in
theorem pPrint_any (x:ObjV) (s:ObjS) (w:World) (hx:ObjOk x) (hr:ObjR w w.heap.size x s) (hf:okB x=true→PrtFit x) (hT:TabOk w) :
  Calls Tryz.prog 53 #[.agg (objV x s)] w fun e w'=>e=.returned (.tuple #[.string (prtS x),.int .i64 (prtE x)])∧Below w.heap.size w w':=by
 have HRK:=hide_ (fun W (hw:Below w.heap.size w W)=>acheck_any x s W hx ((hr.below hw).more hw.size))
 by_cases hok:okB x=true
 ·have hF:=hf hok
  have HTB:=hide_ (show ∀ W,Below w.heap.size w W→TabOk W from fun W hW=>hT.below hW)
  have HCV:=hide_ (show chkV x=0 from chkV_yes hok)
  have HRES:=hide_ (show prtS x=(if 524288<(bodyT x).size then e0B else bodyT x)∧prtE x=(if 524288<(bodyT x).size then 105 else 0) from ⟨by rw [prtS,if_pos hok],by rw [prtE,if_pos hok]⟩)
  have hpp:=hF.parts
  have HPP:=hide_ hpp
  have HOK:=hide_ hok
  have HXX:=hide_ hx
  have HRR:=hide_ hr
  have HCO:=hide_ (fun g W (hw:Below w.heap.size w W) (hS:PrS w.heap.size g (poOf x s) x.labels x.fixes e0B W)=>pcode_any x s w.heap.size g e0B W hx hok (hr.below hw) hS (fun W2 h2=>hT.below (hw.trans h2)) (by have:=show e0B.size=0 from rfl;omega))
  have HDA:=hide_ (fun g RL RF W (hw:Below w.heap.size w W) (hS:PrS w.heap.size g (poOf x s) RL RF (e0B ++ codeT x) W) hL hF'=>pdata_any x s w.heap.size g RL RF _ W hx hok (hr.below hw) hS hL hF' (fun W2 h2=>hT.below (hw.trans h2)) (by rw [ba_size];have:=show e0B.size=0 from rfl;omega))
  have HZE:=hide_ (fun g RL RF W (hw:Below w.heap.size w W) (hS:PrS w.heap.size g (poOf x s) RL RF (e0B ++ codeT x ++ dataT x) W) hL hF'=>pzero_any x s w.heap.size g RL RF _ W hx hok hS hL hF' (fun W2 h2=>hT.below (hw.trans h2)) (by rw [ba_size,ba_size];have:=show e0B.size=0 from rfl;omega))
  have HRE':=hide_ (fun g RL RF W (hw:Below w.heap.size w W) (hS:PrS w.heap.size g (poOf x s) RL RF (e0B ++ codeT x ++ dataT x ++ zeroT x) W)=>prest_any x s w.heap.size g RL RF _ W hx hok (hr.below hw) hS (fun W2 h2=>hT.below (hw.trans h2)) (by rw [ba_size,ba_size,ba_size];have:=show e0B.size=0 from rfl;omega))
  have HNEW:=hide_ (fun W (hw:Below w.heap.size w W)=>show PrS w.heap.size W.heap.size (poOf x s) x.labels x.fixes e0B (W.alloc (.cells #[.pointer none,.slice none 0 0,.slice s.c.A x.code.length s.c.c,.slice s.d.A x.data.length s.d.c,.int .u32 x.zero,.int .u32 x.stack,.slice s.l.A x.labels.length s.l.c,.slice s.f.A x.fixes.length s.f.c,.slice s.t.A x.targets.length s.t.c,.slice s.e.A x.entries.length s.e.c] 133)) from
   ⟨.pointer none,s.l.A,s.l.c,s.f.A,s.f.c,.inl rfl,⟨hw.size,.slice none 0 0,heap_alloc_new _ _,World.ownsRowF_of (World.ownsRow_nil _ _ _ _),by simp [Value.ownBlock]⟩,(hr.rl.below hw).alloc hw.size _,hr.caps.2.2.1,(hr.rf.below hw).alloc hw.size _,hr.caps.2.2.2.1⟩)
  have HBD:=hide_ (show e0B ++ codeT x ++ dataT x ++ zeroT x ++ restT x=bodyT x by rw [nil_ba,bodyT];simp only [ba_assoc])
  have HBN:=hide_ (show (bodyT x).size≠0 by
   have h1:(codeT x).size=5+(codeR x x.code.length 0).size:=by rw [codeT,ba_size];rfl
   rw [bodyT,ba_size]
   omega)
  rw [HCV.out] at HRK
  unfold SecPost at HCO HDA
  unfold ZeroPost at HZE HRE'
  obtain ⟨po,hpo⟩:∃ p,p=poOf x s:=⟨_,rfl⟩
  rw [← hpo] at HCO HDA HZE HRE' HNEW
  clear hpo
  clear hF hpp hf hok hT
  obtain ⟨⟨cA,cc⟩,⟨dA,dc⟩,⟨lA,lc⟩,⟨fA,fc⟩,⟨tA,tc⟩,⟨eA,ec⟩⟩:=s
  have HRC:=hide_ hr.rc
  have HRD:=hide_ hr.rd
  have HRL:=hide_ hr.rl
  have HRF:=hide_ hr.rf
  have HRT:=hide_ hr.rt
  have HRE:=hide_ hr.re
  obtain ⟨l1,l2,l3,l4,l5,l6⟩:=hx.lens
  dsimp only [objV] at HRC HRD HRL HRF HRT HRE ⊢
  obtain ⟨n,hn⟩:∃ n,n=x.code.length:=⟨_,rfl⟩
  obtain ⟨nd,hnd⟩:∃ n,n=x.data.length:=⟨_,rfl⟩
  obtain ⟨nl,hnl⟩:∃ n,n=x.labels.length:=⟨_,rfl⟩
  obtain ⟨nf,hnf⟩:∃ n,n=x.fixes.length:=⟨_,rfl⟩
  obtain ⟨nt,hnt⟩:∃ n,n=x.targets.length:=⟨_,rfl⟩
  obtain ⟨ne,hne⟩:∃ n,n=x.entries.length:=⟨_,rfl⟩
  obtain ⟨z,hzr⟩:∃ z,z=x.zero:=⟨_,rfl⟩
  obtain ⟨sk,hsk⟩:∃ z,z=x.stack:=⟨_,rfl⟩
  rw [← hn,← hnd,← hnl,← hnf,← hnt,← hne,← hzr,← hsk]
  rw [← hn] at HRC l1
  rw [← hnd] at HRD l2
  rw [← hnl] at HRL l3
  rw [← hnf] at HRF l4
  rw [← hnt] at HRT l5
  rw [← hne] at HRE l6
  have HN:=hide_ hn.symm
  have HND:=hide_ hnd.symm
  have HNL:=hide_ hnl.symm
  have HNF:=hide_ hnf.symm
  have HNT:=hide_ hnt.symm
  have HNE:=hide_ hne.symm
  have HZ:=hide_ hzr.symm
  have HSK:=hide_ hsk.symm
  dsimp only [objV] at HRK HRE' HNEW
  rw [← hn,← hnd,← hnl,← hnf,← hnt,← hne,← hzr,← hsk] at HRK HRE' HNEW
  clear hr hx hn hnd hnl hnf hnt hne hzr hsk
  have HW1:=hide_ (show Below w.heap.size w (w.alloc (.cells #[.slice cA n cc,.slice dA nd dc,.int .u32 z,.int .u32 sk,.slice lA nl lc,.slice fA nf fc,.slice tA nt tc,.slice eA ne ec] 36)) from (Below.refl _ _).alloc (Nat.le_refl _) _)
  have HX1:=hide_ (heap_alloc_new w (.cells #[.slice cA n cc,.slice dA nd dc,.int .u32 z,.int .u32 sk,.slice lA nl lc,.slice fA nf fc,.slice tA nt tc,.slice eA ne ec] 36))
  obtain ⟨w1,hw1⟩:∃ W,W=w.alloc (.cells #[.slice cA n cc,.slice dA nd dc,.int .u32 z,.int .u32 sk,.slice lA nl lc,.slice fA nf fc,.slice tA nt tc,.slice eA ne ec] 36):=⟨_,rfl⟩
  go_enter Tryz.func53,Tryz.ntmps53
  go_upto_region 1 with (fail)
  rw [← hw1] at HW1 HX1 ⊢
  clear hw1
  have f0:w1.cell? ⟨w.heap.size,0,none⟩=some (.slice cA n cc):=cell_of_row w1 _ 0 _ _ _ HX1.out
  have f1:w1.cell? ⟨w.heap.size,1,none⟩=some (.slice dA nd dc):=cell_of_row w1 _ 1 _ _ _ HX1.out
  have f2:w1.cell? ⟨w.heap.size,2,none⟩=some (.int .u32 z):=cell_of_row w1 _ 2 _ _ _ HX1.out
  have f3:w1.cell? ⟨w.heap.size,3,none⟩=some (.int .u32 sk):=cell_of_row w1 _ 3 _ _ _ HX1.out
  have f4:w1.cell? ⟨w.heap.size,4,none⟩=some (.slice lA nl lc):=cell_of_row w1 _ 4 _ _ _ HX1.out
  have f5:w1.cell? ⟨w.heap.size,5,none⟩=some (.slice fA nf fc):=cell_of_row w1 _ 5 _ _ _ HX1.out
  have f6:w1.cell? ⟨w.heap.size,6,none⟩=some (.slice tA nt tc):=cell_of_row w1 _ 6 _ _ _ HX1.out
  have f7:w1.cell? ⟨w.heap.size,7,none⟩=some (.slice eA ne ec):=cell_of_row w1 _ 7 _ _ _ HX1.out
  have hl1:=blk_lt HX1.out
  go_wp2_with fail
  refine (HRK.out _ HW1.out).mono ?_
  rintro e w2 ⟨rfl,hb2⟩
  have HX2:=hide_ (blk_below HX1.out hb2)
  have HW2:=hide_ (HW1.out.trans (hb2.mono HW1.out.size))
  have f0:=(hb2.cell (p:=⟨w.heap.size,0,none⟩) hl1).trans f0
  have f1:=(hb2.cell (p:=⟨w.heap.size,1,none⟩) hl1).trans f1
  have f2:=(hb2.cell (p:=⟨w.heap.size,2,none⟩) hl1).trans f2
  have f3:=(hb2.cell (p:=⟨w.heap.size,3,none⟩) hl1).trans f3
  have f4:=(hb2.cell (p:=⟨w.heap.size,4,none⟩) hl1).trans f4
  have f5:=(hb2.cell (p:=⟨w.heap.size,5,none⟩) hl1).trans f5
  have f6:=(hb2.cell (p:=⟨w.heap.size,6,none⟩) hl1).trans f6
  have f7:=(hb2.cell (p:=⟨w.heap.size,7,none⟩) hl1).trans f7
  have hl2:=Nat.lt_of_lt_of_le hl1 hb2.size
  clear hb2 hl1
  have HS3:=hide_ (HNEW.out w2 HW2.out)
  have HX3:=hide_ (blk_below HX2.out ((Below.refl w2.heap.size w2).alloc (Nat.le_refl _) (.cells #[.pointer none,.slice none 0 0,.slice cA n cc,.slice dA nd dc,.int .u32 z,.int .u32 sk,.slice lA nl lc,.slice fA nf fc,.slice tA nt tc,.slice eA ne ec] 133)))
  have HW3:=hide_ (HW2.out.alloc HW2.out.size (.cells #[.pointer none,.slice none 0 0,.slice cA n cc,.slice dA nd dc,.int .u32 z,.int .u32 sk,.slice lA nl lc,.slice fA nf fc,.slice tA nt tc,.slice eA ne ec] 133))
  obtain ⟨w3,hw3⟩:∃ W,W=w2.alloc (.cells #[.pointer none,.slice none 0 0,.slice cA n cc,.slice dA nd dc,.int .u32 z,.int .u32 sk,.slice lA nl lc,.slice fA nf fc,.slice tA nt tc,.slice eA ne ec] 133):=⟨_,rfl⟩
  go_upto_region 5 with (fail)
  rw [← hw3] at HS3 HX3 HW3 ⊢
  clear hw3 f0 f1 f2 f3 f4 f5 f6 f7 hl2
  go_wp2_with fail
  refine (HCO.out _ _ HW3.out HS3.out).mono ?_
  rintro e w4 ⟨rfl,RL4,RF4,hS4,hL4,hF4,hM4⟩
  have HS4:=hide_ hS4
  have HW4:=hide_ (HW3.out.trans hM4.bel)
  have HX4:=hide_ (hM4.blk HX3.out (HS3.out.ne_blk HX3.out (by decide)) (by decide))
  have HL4:=hide_ (And.intro hL4 hF4)
  clear hS4 hM4 hL4 hF4
  go_wp2_with fail
  refine (HDA.out _ _ _ _ HW4.out HS4.out HL4.out.1 HL4.out.2).mono ?_
  rintro e w5 ⟨rfl,RL5,RF5,hS5,hL5,hF5,hM5⟩
  have HS5:=hide_ hS5
  have HW5:=hide_ (HW4.out.trans hM5.bel)
  have HX5:=hide_ (hM5.blk HX4.out (HS4.out.ne_blk HX4.out (by decide)) (by decide))
  have HL5:=hide_ (And.intro hL5 hF5)
  clear hS5 hM5 hL5 hF5
  go_wp2_with fail
  refine (HZE.out _ _ _ _ HW5.out HS5.out HL5.out.1 HL5.out.2).mono ?_
  rintro e w6 ⟨rfl,RL6,RF6,hS6,hM6⟩
  have HS6:=hide_ hS6
  have HW6:=hide_ (HW5.out.trans hM6.bel)
  have HX6:=hide_ (hM6.blk HX5.out (HS5.out.ne_blk HX5.out (by decide)) (by decide))
  clear hS6 hM6
  have f0:w6.cell? ⟨w.heap.size,0,none⟩=some (.slice cA n cc):=cell_of_row w6 _ 0 _ _ _ HX6.out
  have f1:w6.cell? ⟨w.heap.size,1,none⟩=some (.slice dA nd dc):=cell_of_row w6 _ 1 _ _ _ HX6.out
  have f2:w6.cell? ⟨w.heap.size,2,none⟩=some (.int .u32 z):=cell_of_row w6 _ 2 _ _ _ HX6.out
  have f3:w6.cell? ⟨w.heap.size,3,none⟩=some (.int .u32 sk):=cell_of_row w6 _ 3 _ _ _ HX6.out
  have f4:w6.cell? ⟨w.heap.size,4,none⟩=some (.slice lA nl lc):=cell_of_row w6 _ 4 _ _ _ HX6.out
  have f5:w6.cell? ⟨w.heap.size,5,none⟩=some (.slice fA nf fc):=cell_of_row w6 _ 5 _ _ _ HX6.out
  have f6:w6.cell? ⟨w.heap.size,6,none⟩=some (.slice tA nt tc):=cell_of_row w6 _ 6 _ _ _ HX6.out
  have f7:w6.cell? ⟨w.heap.size,7,none⟩=some (.slice eA ne ec):=cell_of_row w6 _ 7 _ _ _ HX6.out
  have hl6:=blk_lt HX6.out
  go_wp2_with fail
  refine (HRE'.out _ _ _ _ HW6.out HS6.out).mono ?_
  rintro e w7 ⟨rfl,RL7,RF7,hS7,hM7⟩
  have HW7:=hide_ (HW6.out.trans hM7.bel)
  obtain ⟨p,aL,cL,aF,cF,hp,hA,hR1,hc1,hR2,hc2⟩:=hS7
  rw [HBD.out] at hA
  have HA:=hide_ hA
  obtain ⟨TT,hTT⟩:∃ t,t=bodyT x:=⟨_,rfl⟩
  rw [← hTT] at HA HBN HRES
  clear hM7 hp hA hR1 hc1 hR2 hc2 hTT f0 f1 f2 f3 f4 f5 f6 f7 hl6
  go_wp2_with fail
  refine (pr_len _ _ _ _ _ _ _ _ HA.out).mono ?_
  rintro e w8 ⟨rfl,rfl⟩
  have hres:=HRES.out
  by_cases hbig:524288<TT.size
  ·rw [if_pos hbig,if_pos hbig] at hres
   have HR2:=hide_ hres
   have hbi:(524288:Int)<(TT.size:Int):=by omega
   clear hres hbig
   go_wp2
   go_ret2
   exact ⟨by rw [HR2.out.1,HR2.out.2];rfl,HW7.out⟩
  ·rw [if_neg hbig,if_neg hbig] at hres
   have HR2:=hide_ hres
   have hbi:¬ (524288:Int)<(TT.size:Int):=by omega
   clear hres hbig
   go_wp2_with fail
   refine (pr_text _ _ _ _ _ _ _ _ HA.out HBN.out).mono ?_
   rintro e w9 ⟨rfl,hb9⟩
   have HW9:=hide_ (HW7.out.trans hb9)
   clear hb9
   go_wp2
   go_ret2
   exact ⟨by rw [HR2.out.1,HR2.out.2];rfl,HW9.out⟩
 ·have HCV:=hide_ (show chkV x=104 from chkV_no (by simpa using hok))
  have HRES:=hide_ (show prtS x=e0B∧prtE x=104 from ⟨by rw [prtS,if_neg hok],by rw [prtE,if_neg hok]⟩)
  rw [HCV.out] at HRK
  clear hf hok hT
  obtain ⟨⟨cA,cc⟩,⟨dA,dc⟩,⟨lA,lc⟩,⟨fA,fc⟩,⟨tA,tc⟩,⟨eA,ec⟩⟩:=s
  have HRC:=hide_ hr.rc
  have HRD:=hide_ hr.rd
  have HRL:=hide_ hr.rl
  have HRF:=hide_ hr.rf
  have HRT:=hide_ hr.rt
  have HRE:=hide_ hr.re
  obtain ⟨l1,l2,l3,l4,l5,l6⟩:=hx.lens
  have HX:=hide_ hx
  dsimp only [objV] at HRC HRD HRL HRF HRT HRE ⊢
  obtain ⟨n,hn⟩:∃ n,n=x.code.length:=⟨_,rfl⟩
  obtain ⟨nd,hnd⟩:∃ n,n=x.data.length:=⟨_,rfl⟩
  obtain ⟨nl,hnl⟩:∃ n,n=x.labels.length:=⟨_,rfl⟩
  obtain ⟨nf,hnf⟩:∃ n,n=x.fixes.length:=⟨_,rfl⟩
  obtain ⟨nt,hnt⟩:∃ n,n=x.targets.length:=⟨_,rfl⟩
  obtain ⟨ne,hne⟩:∃ n,n=x.entries.length:=⟨_,rfl⟩
  obtain ⟨z,hzr⟩:∃ z,z=x.zero:=⟨_,rfl⟩
  obtain ⟨sk,hsk⟩:∃ z,z=x.stack:=⟨_,rfl⟩
  rw [← hn,← hnd,← hnl,← hnf,← hnt,← hne,← hzr,← hsk]
  rw [← hn] at HRC l1
  rw [← hnd] at HRD l2
  rw [← hnl] at HRL l3
  rw [← hnf] at HRF l4
  rw [← hnt] at HRT l5
  rw [← hne] at HRE l6
  have HN:=hide_ hn.symm
  have HND:=hide_ hnd.symm
  have HNL:=hide_ hnl.symm
  have HNF:=hide_ hnf.symm
  have HNT:=hide_ hnt.symm
  have HNE:=hide_ hne.symm
  have HZ:=hide_ hzr.symm
  have HSK:=hide_ hsk.symm
  dsimp only [objV] at HRK
  rw [← hn,← hnd,← hnl,← hnf,← hnt,← hne,← hzr,← hsk] at HRK
  clear hr hx hn hnd hnl hnf hnt hne hzr hsk
  obtain ⟨W1,hW1⟩:∃ W,W=w.alloc (.cells #[.slice cA n cc,.slice dA nd dc,.int .u32 z,.int .u32 sk,.slice lA nl lc,.slice fA nf fc,.slice tA nt tc,.slice eA ne ec] 36):=⟨_,rfl⟩
  have f0:W1.cell? ⟨w.heap.size,0,none⟩=some (.slice cA n cc):=by rw [hW1];go_simp
  have f1:W1.cell? ⟨w.heap.size,1,none⟩=some (.slice dA nd dc):=by rw [hW1];go_simp
  have f2:W1.cell? ⟨w.heap.size,2,none⟩=some (.int .u32 z):=by rw [hW1];go_simp
  have f3:W1.cell? ⟨w.heap.size,3,none⟩=some (.int .u32 sk):=by rw [hW1];go_simp
  have f4:W1.cell? ⟨w.heap.size,4,none⟩=some (.slice lA nl lc):=by rw [hW1];go_simp
  have f5:W1.cell? ⟨w.heap.size,5,none⟩=some (.slice fA nf fc):=by rw [hW1];go_simp
  have f6:W1.cell? ⟨w.heap.size,6,none⟩=some (.slice tA nt tc):=by rw [hW1];go_simp
  have f7:W1.cell? ⟨w.heap.size,7,none⟩=some (.slice eA ne ec):=by rw [hW1];go_simp
  have HB1:=hide_ (show Below w.heap.size w W1 by rw [hW1];exact (Below.refl _ _).alloc (Nat.le_refl _) _)
  have hlt0:w.heap.size<W1.heap.size:=by rw [hW1];simp
  go_enter Tryz.func53,Tryz.ntmps53
  go_upto_region 1 with (fail)
  rw [← hW1]
  clear hW1
  go_wp2_with fail
  refine (HRK.out _ HB1.out).mono ?_
  rintro e w2 ⟨rfl,hb2⟩
  have HB2:=hide_ (HB1.out.trans (hb2.mono HB1.out.size))
  clear hb2 f0 f1 f2 f3 f4 f5 f6 f7
  go_wp2
  go_ret2
  exact ⟨by rw [HRES.out.1,HRES.out.2];rfl,HB2.out⟩
end Go.Proofs.YtikbegmodacopaaGreatDoor
namespace Go.Proofs.YtikbegmodacopaaGreatDoor
open Go.RowKit Go.PlainAid Go.BigFrame
set_option linter.unusedSimpArgs false
set_option linter.unusedVariables false
set_option maxRecDepth 100000
def TxtIs (x:ImgV) (w:World) (e:Ending) (w':World):Prop:=e=.returned (.tuple #[.string (txtS x),.int .i64 (txtE x)])∧Below w.heap.size w w'
set_option maxHeartbeats 4000000 in
theorem lText_any (x:ImgV) (s:ImgS) (w:World) (hx:ImgOk x) (hr:ImgR w w.heap.size x s) (hT:TabOk w):Calls Tryz.prog 23 #[.agg (imgV x s)] w (TxtIs x w):=by
 obtain ⟨w1,hw1⟩:∃ W,W=w.alloc (.cells (imgV x s) 28):=⟨_,rfl⟩
 have HB1:=hide_ (show Below w.heap.size w w1 by rw [hw1];exact (Below.refl _ _).alloc (Nat.le_refl _) _)
 have hsz:w.heap.size<w1.heap.size:=by rw [hw1];simp
 have HAT:=hide_ (img_cells (show Blk w1 w.heap.size 28 (imgV x s) by rw [hw1];exact Blk.new w _ _))
 have OB:=hide_ (Object_any x s w1 hx ((hr.below HB1.out).more (Nat.le_of_lt hsz)) (hT.below HB1.out))
 have HTB:=hide_ (fun W (hb:Below w.heap.size w W)=>hT.below hb)
 have HX:=hide_ hx
 have HSZ:=hide_ hsz
 clear hr hx hT
 unfold imgV at hw1 OB ⊢
 obtain ⟨⟨cA,cc⟩,⟨jA,jc⟩,⟨dA,dc⟩,⟨nA,nc⟩⟩:=s
 dsimp only at hw1 HAT OB ⊢
 go_enter Tryz.func23,Tryz.ntmps23
 go_upto_region 1 with (fail)
 rw [← hw1]
 clear hw1
 obtain ⟨f0,f1,f2,f3,f4,f5⟩:=HAT.out
 go_wp2_with fail
 refine OB.out.mono ?_
 intro e w2 hoi
 clear f0 f1 f2 f3 f4 f5 OB HAT hsz
 unfold ObjIs at hoi
 have RS:=hide_ (Blk.new w2 36 z8)
 by_cases h0:objE x=0
 ·rw [if_pos h0] at hoi
  obtain ⟨s2,rfl,hO,hb⟩:=hoi
  obtain ⟨y,hy⟩:∃ y,y=objO x:=⟨_,rfl⟩
  have HE:=hide_ (show txtS x=prtS y∧txtE x=prtE y by rw [hy,txtS,txtE,if_pos h0,if_pos h0];exact ⟨rfl,rfl⟩)
  have HOK:=hide_ (show ObjOk y by rw [hy];exact objOk_of HX.out h0)
  have HFIT:=hide_ (show okB y=true→PrtFit y by rw [hy];exact prtFit_of HX.out h0)
  rw [← hy] at hO ⊢
  obtain ⟨w3,hw3⟩:∃ W,W=(w2.alloc (.cells z8 36)).setRow w2.heap.size (objV y s2):=⟨_,rfl⟩
  have HK3:=hide_ (obj_cells (show Blk w3 w2.heap.size 36 (objV y s2) by rw [hw3];exact setRow_heap _ _ _ _ _ _ RS.out))
  have HB23:=hide_ (show Below w2.heap.size w2 w3 by rw [hw3];exact below_setRow ((Below.refl _ _).alloc (Nat.le_refl _) _) (Nat.le_refl _) _)
  have HB3:=hide_ (show Below w.heap.size w w3 from (HB1.out.trans (hb.mono (Nat.le_of_lt HSZ.out))).trans (HB23.out.mono (Nat.le_trans (Nat.le_of_lt HSZ.out) hb.size)))
  have PR:=hide_ (pPrint_any y s2 w3 HOK.out (objR_own (hO.below HB23.out)) HFIT.out (HTB.out w3 HB3.out))
  have OS:=hide_ (show (Tryz.prog.info? 36).map (·.size)=some (objV y s2).size from z8_sz)
  have OO:=hide_ (show (objV y s2).all (·.oneCell')=true by simp [objV,Value.oneCell'])
  have hz3:w2.heap.size<w3.heap.size:=by rw [hw3];simp
  clear hO hb hy
  unfold z8 at RS hw3
  go_upto_region 2 with (first | (refine wpList_store_row rfl 36 (.tmp 4) (.tmp 9) rfl _ (objV y s2) rfl rfl 36 _ RS.out OS.out rfl OO.out ?_))
  rw [← hw3]
  clear hw3 RS OS OO
  obtain ⟨b0,b1,b2,b3,b4,b5,b6,b7⟩:=HK3.out
  unfold objV at PR ⊢
  go_wp2_with fail
  refine PR.out.mono ?_
  rintro e w4 ⟨rfl,hb4⟩
  have FF:=hide_ (show TxtIs x w (.returned (.tuple #[.string (prtS y),.int .i64 (prtE y)])) w4 by
   unfold TxtIs
   rw [HE.out.1,HE.out.2]
   exact ⟨rfl,HB3.out.trans (hb4.mono HB3.out.size)⟩)
  clear b0 b1 b2 b3 b4 b5 b6 b7 PR
  go_wp2_with fail
  exact bodyPost_ret (v:=.tuple #[.string (prtS y),.int .i64 (prtE y)]) (by simp [results,Tryz.results23,go_sem]) rfl FF.out
 ·rw [if_neg h0] at hoi
  obtain ⟨rfl,hb⟩:=hoi
  have h0b:(objE x != 0)=true:=by simpa using h0
  have OO:=hide_ z8_one
  have FF:=hide_ (fun (W:World) (hW:Below w2.heap.size w2 W)=>show TxtIs x w (.returned (.tuple #[.string ⟨#[]⟩,.int .i64 (objE x)])) W by
   unfold TxtIs
   rw [txtS,txtE,if_neg h0,if_neg h0]
   exact ⟨rfl,(HB1.out.trans (hb.mono (Nat.le_of_lt HSZ.out))).trans (hW.mono (Nat.le_trans (Nat.le_of_lt HSZ.out) hb.size))⟩)
  obtain ⟨E,hE⟩:∃ E,E=objE x:=⟨_,rfl⟩
  rw [← hE] at FF h0b ⊢
  clear h0 hE hb
  have F2:=hide_ (FF.out _ (below_setRow ((Below.refl _ _).alloc (Nat.le_refl _) (.cells z8 36)) (Nat.le_refl _) z8))
  go_wp2_with (first | (refine wpList_store_row rfl 36 (.tmp 4) (.tmp 9) rfl _ z8 rfl rfl 36 z8 RS.out z8_sz rfl OO.out ?_))
  exact bodyPost_ret (v:=.tuple #[.string ⟨#[]⟩,.int .i64 E]) (by simp [results,Tryz.results23,go_sem]) rfl F2.out
end Go.Proofs.YtikbegmodacopaaGreatDoor
namespace Go.Proofs.YtikbegmodacopaaGreatDoor
open Go.RowKit Go.PlainAid Go.BigFrame
set_option linter.unusedSimpArgs false
set_option linter.unusedVariables false
set_option maxRecDepth 100000
def hx (d:Nat):Nat:=if d<10 then 48+d else 87+d
def hxT (d:Nat):ByteArray:=textOf [hx d]
theorem hxT_size (d:Nat):(hxT d).size=1:=rfl
def dgW (b least:Nat):Nat→Nat→ByteArray→ByteArray
 | 0,_,s=>s
 | f+1,y,s=>if 0<y∨s.size<least then dgW b least f (y / b) (hxT (y % b) ++ s) else s
def e0C:ByteArray:=⟨#[]⟩
def hexC:ByteArray:=⟨#[48,49,50,51,52,53,54,55,56,57,97,98,99,100,101,102]⟩
theorem hexC_get:∀ d,d<16→∃ h:d<hexC.size,(hexC[d]'h).toNat=hx d:=by
 intro d hd
 have h:∀ d:Fin 16,((hexC.get! d.1).toNat=hx d.1):=by decide +kernel
 have hs:d<hexC.size:=hd
 refine ⟨hs,?_⟩
 have:=h ⟨d,hd⟩
 rw [get!_eq hexC d hs] at this
 exact this
theorem hx_conv (d:Nat) (W:World):(convert 24 9 (.slice (some ⟨W.heap.size,0,none⟩) 1 1)).run Tryz.prog (W.alloc (.cells #[.int .u8 (hx d:Nat)] 5))=.ok (.string (hxT d)) (W.alloc (.cells #[.int .u8 (hx d:Nat)] 5)):=conv_new W [hx d] 1
set_option maxHeartbeats 2000000 in
theorem rdigits_any (b least x:Nat) (bz lz:Int) (hb:(b=10∧bz=10)∨(b=16∧bz=16)) (hlz:lz=(least:Int)) (hx0:x<4294967296) (hl:least≤8) (w:World) :
  Calls Tryz.prog 80 #[.int .i64 x,.int .i64 bz,.int .i64 lz] w fun e w'=>e=.returned (.string (dgW b least (x+least) x e0C))∧Below w.heap.size w w':=by
 subst hlz
 obtain ⟨D,hD⟩:∃ D,D=dgW b least:=⟨_,rfl⟩
 have GO:=hide_ (fun f y S (h:0<y∨S.size<least)=>show D (f+1) y S=D f (y / b) (hxT (y % b) ++ S) by rw [hD,dgW,if_pos h])
 have STOP:=hide_ (fun f y S (h:¬ (0<y∨S.size<least))=>show D f y S=S by
  rw [hD]
  cases f with
  | zero=>rfl
  | succ f=>rw [dgW,if_neg h])
 rw [← hD]
 clear hD
 have hdg:=hide_ hexC_get
 rcases hb with ⟨rfl,rfl⟩ | ⟨rfl,rfl⟩
 all_goals
  go_enter Tryz.func80,Tryz.ntmps80
  go_wp2
  go_loopg [0,7] (x+least+1) (fun kx a s wr=>∃ (f y:Nat) (S:ByteArray),a=.int .i64 y∧s=.string S∧y≤x∧y+(least - S.size)≤f∧f≤kx∧Hid (S.size+f=x+least)∧Hid (D f y S=D (x+least) x e0C)∧Hid (Below w.heap.size w wr))
  case atStart=>exact ⟨x+least,x,e0C,rfl,rfl,Nat.le_refl _,by omega,by omega,hide_ (by show 0+_=_;omega),hide_ rfl,hide_ (Below.refl _ _)⟩
  case round =>
   obtain ⟨f,y,S,rfl,rfl,hy,hf,hfk,HF,HD,HB⟩:=hrel
   have hsz:S.size≤x+least:=by have:=HF.out;omega
   by_cases hc:0<y∨S.size<least
   ·obtain ⟨f,rfl⟩:∃ g,f=g+1:=⟨f - 1,by omega⟩
    have NEXT:=hide_ ((GO.out f y S hc).symm.trans HD.out)
    have NF:=hide_ (fun (d:Nat)=>show (hxT d ++ S).size+f=x+least by
     have:=HF.out
     rw [ByteArray.size_append,hxT_size]
     omega)
    have NG:=hide_ (fun (d:Nat)=>show (hxT d ++ S).size=1+S.size by rw [ByteArray.size_append,hxT_size])
    first
     | (obtain ⟨d,hd⟩:∃ d,d=y % 10:=⟨_,rfl⟩
        obtain ⟨q,hq⟩:∃ q,q=y / 10:=⟨_,rfl⟩
        rw [← hd,← hq] at NEXT
        have hd16:d<16:=by omega
        have hqy:q≤y:=by omega
        have hqz:0<y→q<y:=by omega
        have t1:(y:Int).tmod 10=(d:Int):=by rw [Int.tmod_eq_emod_of_nonneg (by omega)];omega
        have t2:(y:Int).tdiv 10=(q:Int):=by rw [Int.tdiv_eq_ediv_of_nonneg (by omega)];omega
        have t3:(y:Int) % 10=(d:Int):=by omega
        have t4:(y:Int) / 10=(q:Int):=by omega
        clear hd hq)
     | (obtain ⟨d,hd⟩:∃ d,d=y % 16:=⟨_,rfl⟩
        obtain ⟨q,hq⟩:∃ q,q=y / 16:=⟨_,rfl⟩
        rw [← hd,← hq] at NEXT
        have hd16:d<16:=by omega
        have hqy:q≤y:=by omega
        have hqz:0<y→q<y:=by omega
        have t1:(y:Int).tmod 16=(d:Int):=by rw [Int.tmod_eq_emod_of_nonneg (by omega)];omega
        have t2:(y:Int).tdiv 16=(q:Int):=by rw [Int.tdiv_eq_ediv_of_nonneg (by omega)];omega
        have t3:(y:Int) % 16=(d:Int):=by omega
        have t4:(y:Int) / 16=(q:Int):=by omega
        clear hd hq)
    obtain ⟨hs,hg⟩:=hdg.out d hd16
    unfold hexC at hs hg
    have hcv:=hx_conv d wr
    have hmf:q+(least - (1+S.size))≤f:=by omega
    obtain ⟨v,hv⟩:∃ v,v=hx d:=⟨_,rfl⟩
    rw [← hv] at hg hcv
    obtain ⟨dt,hdt⟩:∃ v,v=hxT d:=⟨_,rfl⟩
    have hdz:dt.size=1:=by rw [hdt];rfl
    have h63:¬ (9223372036854775807:Int)<(dt.size:Int)+(S.size:Int):=by rw [hdz];omega
    have h64:¬ 9223372036854775807<dt.size+S.size:=by rw [hdz];omega
    have NF:=hide_ (NF.out d)
    have NG:=hide_ (NG.out d)
    rw [← hdt] at hcv NEXT NF NG
    clear hdz hdt hv hqz
    have hdi:(d:Int)<16:=by omega
    have hd0:0≤(d:Int):=by omega
    by_cases y0:0<y
    ·have c0:decide ((0:Int)<(y:Int))=true:=decide_eq_true (by omega)
     have c1:decide (0<y)=true:=decide_eq_true y0
     go_wp2
     go_roundg f
     case measure=>omega
     case rel=>exact ⟨f,q,dt ++ S,rfl,rfl,by omega,by rw [NG.out];exact hmf,Nat.le_refl _,NF,NEXT,hide_ (HB.out.alloc HB.out.size _)⟩
    ·have c0:decide ((0:Int)<(y:Int))=false:=decide_eq_false (by omega)
     have c1:decide (0<y)=false:=decide_eq_false y0
     have c2:decide ((S.size:Int)<(least:Int))=true:=decide_eq_true (by omega)
     have c3:decide (S.size<least)=true:=decide_eq_true (by omega)
     go_wp2
     go_roundg f
     case measure=>omega
     case rel=>exact ⟨f,q,dt ++ S,rfl,rfl,by omega,by rw [NG.out];exact hmf,Nat.le_refl _,NF,NEXT,hide_ (HB.out.alloc HB.out.size _)⟩
   ·have y0:y=0:=by omega
    have E:=hide_ ((STOP.out f y S hc).symm.trans HD.out)
    subst y0
    have c1:decide ((S.size:Int)<(least:Int))=false:=decide_eq_false (by omega)
    have c2:decide (S.size<least)=false:=decide_eq_false (by omega)
    go_wp2
    go_ret
    exact ⟨by rw [← E.out];rfl,HB.out⟩
theorem hxT_lt {d:Nat} (h:d<10):hxT d=⟨#[UInt8.ofNat (48+d)]⟩:=by unfold hxT hx;rw [if_pos h];exact digB_text d
theorem dgW_dec:∀ (f y:Nat) (S:ByteArray),y≤f→1≤S.size→dgW 10 1 f y S=if y=0 then S else decT y ++ S
 | 0,y,S,h,_=>by rw [if_pos (by omega)];rfl
 | f+1,y,S,h,hs=>by
  rw [dgW]
  by_cases h0:y=0
  ·rw [if_pos h0,if_neg (by omega)]
  ·rw [if_neg h0,if_pos (by omega),dgW_dec f (y / 10) _ (by omega) (by rw [ByteArray.size_append];omega)]
   by_cases h1:y<10
   ·rw [if_pos (by omega),decT_small h1,Nat.mod_eq_of_lt h1,hxT_lt h1]
   ·rw [if_neg (by omega),decT_big h1,hxT_lt (by omega)]
    apply ByteArray.ext
    simp only [ByteArray.data_append,Array.append_assoc]
theorem dgW_name (x:Nat):dgW 10 1 (x+1) x e0C=decT x:=by
 rw [dgW,if_pos (by right;exact Nat.zero_lt_one),dgW_dec x (x / 10) _ (by omega) (by rw [ByteArray.size_append,hxT_size];omega)]
 by_cases h1:x<10
 ·rw [if_pos (by omega),decT_small h1,Nat.mod_eq_of_lt h1,hxT_lt h1]
  rfl
 ·rw [if_neg (by omega),decT_big h1,hxT_lt (by omega)]
  rfl
theorem rname_any (p:Int) (h0:0≤p) (h1:p<4294967296) (w:World):Calls Tryz.prog 45 #[.int .u32 p] w fun e w'=>e=.returned (.string (natS p))∧Below w.heap.size w w':=by
 have HD:=hide_ (rdigits_any 10 1 p.toNat 10 1 (.inl ⟨rfl,rfl⟩) rfl (by omega) (by omega) w)
 rw [dgW_name,show ((p.toNat:Nat):Int)=p by omega] at HD
 have SZ:=natS_size p h1
 have NS:=hide_ (show ⟨#[97,116]⟩ ++ decT p.toNat=natS p from rfl)
 have h63:¬ (9223372036854775807:Int)<2+((decT p.toNat).size:Int):=by
  have:=decT_size p.toNat (by omega)
  omega
 have h64:¬ 9223372036854775807<2+(decT p.toNat).size:=by
  have:=decT_size p.toNat (by omega)
  omega
 obtain ⟨sx,hsx⟩:∃ s,s=decT p.toNat:=⟨_,rfl⟩
 rw [← hsx] at HD NS h63 h64
 clear hsx SZ
 go_enter Tryz.func45,Tryz.ntmps45
 go_wp2_with fail
 refine HD.out.mono ?_
 rintro e w1 ⟨rfl,hb⟩
 have HB:=hide_ hb
 clear hb
 go_wp2
 go_ret
 exact ⟨by rw [← NS.out];rfl,HB.out⟩
end Go.Proofs.YtikbegmodacopaaGreatDoor
namespace Go.Proofs.YtikbegmodacopaaGreatDoor
open Go.RowKit Go.PlainAid Go.BigFrame
set_option linter.unusedSimpArgs false
set_option linter.unusedVariables false
set_option maxRecDepth 100000
set_option maxHeartbeats 4000000 in
theorem rbeyond_any (x:ImgV) (s:ImgS) (w:World) (hx:ImgOk x) (hr:ImgR w w.heap.size x s) (hbd:x.code.length≤16384∧x.jumps.length≤16384∧x.names.length≤64):Calls Tryz.prog 43 #[.agg (imgV x s)] w fun e w'=>e=.returned (.bool (!begB x))∧Below w.heap.size w w':=by
 obtain ⟨l1,l2,l4⟩:=hbd
 have HOK:=hide_ hx
 have HR:=hide_ hr
 obtain ⟨W1,hW1⟩:∃ W,W=w.alloc (.cells (imgV x s) 28):=⟨_,rfl⟩
 have HB1:=hide_ (show Below w.heap.size w W1 by rw [hW1];exact (Below.refl _ _).alloc (Nat.le_refl _) _)
 have HK1:=hide_ (show Blk W1 w.heap.size 28 (imgV x s) by rw [hW1];exact Blk.new w _ _)
 have hlt0:w.heap.size<W1.heap.size:=by rw [hW1];simp
 have HAT:=hide_ (fun W (hb:Below W1.heap.size W1 W)=>img_cells (HK1.out.below hb hlt0))
 have FIN:=hide_ (fun W (hb:Below W1.heap.size W1 W)=>show Below w.heap.size w W from HB1.out.trans (hb.mono (by omega)))
 have HRJ:=hide_ (fun W (hb:Below W1.heap.size W1 W)=>HR.out.rj.below (FIN.out W hb))
 have HRN:=hide_ (fun W (hb:Below W1.heap.size W1 W)=>HR.out.rn.below (FIN.out W hb))
 have NO:=hide_ (fun (h:begB x=false)=>show (Value.bool (!begB x))=.bool true by rw [h];rfl)
 have YES:=hide_ (fun (h:begB x=true)=>show (Value.bool (!begB x))=.bool false by rw [h];rfl)
 clear HR HK1 HB1 hr hx
 unfold imgV at hW1 ⊢
 obtain ⟨⟨cA,cc⟩,⟨jA,jc⟩,⟨dA,dc⟩,⟨nA,nc⟩⟩:=s
 dsimp only at hW1 HAT HRJ HRN ⊢
 obtain ⟨nC,hnC⟩:∃ n,n=x.code.length:=⟨_,rfl⟩
 obtain ⟨nJ,hnJ⟩:∃ n,n=x.jumps.length:=⟨_,rfl⟩
 obtain ⟨nN,hnN⟩:∃ n,n=x.names.length:=⟨_,rfl⟩
 rw [← hnC] at l1 HAT hW1 ⊢
 rw [← hnJ] at l2 HAT HRJ hW1 ⊢
 rw [← hnN] at l4 HAT HRN hW1 ⊢
 have HN:=hide_ (And.intro hnC (And.intro hnJ hnN))
 clear hnC hnJ hnN
 go_enter Tryz.func43,Tryz.ntmps43
 go_upto_region 1 with (fail)
 rw [← hW1]
 clear hW1
 have HBW:=hide_ (Below.refl W1.heap.size W1)
 obtain ⟨f0,f1,f2,f3,f4,f5⟩:=HAT.out W1 HBW.out
 go_wp2_with fail
 clear f0 f1 f2 f3 f4 f5
 go_loopw [4] (fun i wr=>∃ k:Nat,k≤nJ∧i=.int .i64 k∧Hid (∀ t,t<k→jmpOk x t=true)∧Hid (Below W1.heap.size W1 wr)) (fun i _=>nJ - (intOf i).toNat)
 case atStart=>exact ⟨0,Nat.zero_le _,rfl,hide_ (fun t ht=>absurd ht (by omega)),HBW⟩
 case round =>
  clear HBW
  obtain ⟨k,hk,rfl,HJ,HB⟩:=hrel
  obtain ⟨f0,f1,f2,f3,f4,f5⟩:=HAT.out wr HB.out
  by_cases hlt:k<nJ
  ·obtain ⟨j,hj⟩:∃ j,x.jumps[k]?=some j:=⟨_,List.getElem?_eq_getElem (by have:=HN.out.2.1;omega)⟩
   obtain ⟨j0,j1⟩:=HOK.out.jumps j (List.mem_of_getElem? hj)
   obtain ⟨ad,rfl,hbk,hcell⟩:=(HRJ.out wr HB.out).2 (by omega)
   have q0:=hcell k _ (u32s_get hj)
   have ONE:=hide_ (fun (h:jmpOk x k=true)=>show ∀ t,t<k+1→jmpOk x t=true from fun t ht=>(by
    by_cases e:t=k
    ·rw [e];exact h
    ·exact HJ.out t (by omega)))
   have BAD:=hide_ (fun (h:jmpOk x k=false)=>NO.out (jmpsB_of (jmpsB_no (by have:=HN.out.2.1;omega) h)))
   have FB:=hide_ (fun m=>FIN.out (wr.drewN m) (srt_below m HB.out))
   cases k with
   | zero =>
    have HOK0:=jmpOk_0 hj
    rw [← HN.out.1] at HOK0
    have q1:wr.cell? ad=some (.int .u32 j):=by simpa [Addr.add] using q0
    have z0:decide ((0:Int)<((0:Nat):Int))=false:=rfl
    by_cases hjn:j≤nC
    ·have c1:decide ((nC:Int)<j)=false:=decide_eq_false (by omega)
     have F:=hide_ (ONE.out (by rw [HOK0];exact decide_eq_true hjn))
     clear HOK0 hcell hj
     go_wp2_with fail
     go_big_quiet (fail)
     go_wp2
     go_roundw
     case rel=>exact ⟨0+1,by omega,by go_num,F,hide_ (srt_below _ HB.out)⟩
     case measure=>simp [intOf] <;> omega
    ·have c1:decide ((nC:Int)<j)=true:=decide_eq_true (by omega)
     have F:=hide_ (BAD.out (by rw [HOK0];exact decide_eq_false hjn))
     clear HOK0 hcell hj
     go_wp2_with fail
     go_big_quiet (fail)
     go_wp2
     go_ret
     exact ⟨by rw [F.out];rfl,FB.out _⟩
   | succ m =>
    obtain ⟨p,hp⟩:∃ p,x.jumps[m]?=some p:=⟨_,List.getElem?_eq_getElem (by have:=HN.out.2.1;omega)⟩
    have q1:=hcell m _ (u32s_get hp)
    have q2:wr.cell? ⟨ad.block,ad.off+(m+1),none⟩=some (.int .u32 j):=by simpa [Addr.add] using q0
    have HOK0:=jmpOk_s hj hp
    rw [← HN.out.1] at HOK0
    have z0:decide ((0:Int)<(m:Int)+1)=true:=decide_eq_true (by omega)
    by_cases hjn:j≤nC
    ·have c1:decide ((nC:Int)<j)=false:=decide_eq_false (by omega)
     by_cases hpj:p<j
     ·have c2:decide (j≤p)=false:=decide_eq_false (by omega)
      have F:=hide_ (ONE.out (by rw [HOK0,decide_eq_true hjn,decide_eq_true hpj];rfl))
      clear HOK0 hcell hj hp
      go_wp2_with fail
      go_big_quiet (fail)
      go_wp2
      go_roundw
      case rel=>exact ⟨m+1+1,by omega,by go_num,F,hide_ (srt_below _ HB.out)⟩
      case measure=>simp [intOf] <;> omega
     ·have c2:decide (j≤p)=true:=decide_eq_true (by omega)
      have F:=hide_ (BAD.out (by rw [HOK0,decide_eq_false hpj,Bool.and_false]))
      clear HOK0 hcell hj hp
      go_wp2_with fail
      go_big_quiet (fail)
      go_wp2
      go_ret
      exact ⟨by rw [F.out];rfl,FB.out _⟩
    ·have c1:decide ((nC:Int)<j)=true:=decide_eq_true (by omega)
     have F:=hide_ (BAD.out (by rw [HOK0,decide_eq_false hjn];rfl))
     clear HOK0 hcell hj hp
     go_wp2_with fail
     go_big_quiet (fail)
     go_wp2
     go_ret
     exact ⟨by rw [F.out];rfl,FB.out _⟩
  ·obtain rfl:k=nJ:=by omega
   have JOK:=hide_ (show jmpsB x=true from jmpsB_all fun t ht=>HJ.out t (by rw [HN.out.2.1];exact ht))
   clear HJ
   go_wp2_with fail
   obtain ⟨wo,rfl⟩:∃ wo:World,wo=wr:=⟨_,rfl⟩
   go_loopw [5] (fun i wr=>∃ k:Nat,k≤nN∧i=.int .i64 k∧Hid (∀ t,t<k→∀ e,x.names[t]?=some e→e.at_≤x.code.length)∧Hid (Below W1.heap.size W1 wr)) (fun i _=>nN - (intOf i).toNat)
   case atStart=>exact ⟨0,Nat.zero_le _,rfl,hide_ (fun t ht=>absurd ht (by omega)),HB⟩
   case round =>
    clear HB f0 f1 f2 f3 f4 f5
    obtain ⟨k,hk,rfl,HA,HB⟩:=hrel
    obtain ⟨f0,f1,f2,f3,f4,f5⟩:=HAT.out wr HB.out
    by_cases hlt:k<nN
    ·obtain ⟨t,ht⟩:∃ t,x.names[k]?=some t:=⟨_,List.getElem?_eq_getElem (by have:=HN.out.2.2;omega)⟩
     obtain ⟨_,a0,a1⟩:=HOK.out.names t (List.mem_of_getElem? ht)
     obtain ⟨_,ad,rfl,hbk,p0,p1⟩:=el_cells xE_len (HRN.out wr HB.out) (by omega) ht
     have q0:=p0 _ rfl
     have q1:=p1 1 _ (by omega) rfl
     have ONE:=hide_ (fun (h:t.at_≤x.code.length)=>show ∀ r,r<k+1→∀ e,x.names[r]?=some e→e.at_≤x.code.length from fun r hr e he=>(by
      by_cases h2:r=k
      ·rw [h2,ht] at he;injection he with he;rw [← he];exact h
      ·exact HA.out r (by omega) e he))
     have BAD:=hide_ (fun (h:¬ t.at_≤x.code.length)=>NO.out (natB_of (natB_no ht h)))
     rw [← HN.out.1] at ONE BAD
     obtain ⟨nm,at_⟩:=t
     dsimp only at q0 q1 a0 a1 ONE BAD
     clear p0 p1 ht
     by_cases hjn:at_≤nC
     ·have c1:¬ (nC:Int)<at_:=by omega
      have F:=hide_ (ONE.out hjn)
      go_wp2
      go_roundw
      case rel=>exact ⟨k+1,by omega,by go_num,by rw [HN.out.1] at F;exact F,HB⟩
      case measure=>simp [intOf] <;> omega
     ·have c1:(nC:Int)<at_:=by omega
      have F:=hide_ (BAD.out hjn)
      go_wp2
      go_ret
      exact ⟨by rw [F.out];rfl,FIN.out _ HB.out⟩
    ·obtain rfl:k=nN:=by omega
     have F:=hide_ (YES.out (show begB x=true by
      unfold begB natB
      rw [JOK.out,Bool.true_and,List.all_eq_true]
      intro e he
      obtain ⟨r,hr⟩:=List.mem_iff_getElem?.1 he
      exact decide_eq_true (HA.out r (by have:=(List.getElem?_eq_some_iff.1 hr).1;have:=HN.out.2.2;omega) e hr)))
     go_wp2
     go_ret
     exact ⟨by rw [F.out];rfl,FIN.out _ HB.out⟩
set_option maxHeartbeats 4000000 in
theorem rstatic_any (x:ImgV) (s:ImgS) (k:Nat) (t:Int × Int) (w:World) (hx:ImgOk x) (hr:ImgR w w.heap.size x s) (ht:x.code[k]?=some t):Calls Tryz.prog 46 #[.agg (imgV x s),.int .i64 k] w fun e w'=>e=.returned (.tuple #[.int .u32 t.2,.bool (stB x.code.length t)])∧Below w.heap.size w w':=by
 have l1:=hx.lens.1
 obtain ⟨⟨o0,o1⟩,a0,a1⟩:=hx.code t (List.mem_of_getElem? ht)
 obtain ⟨W1,hW1⟩:∃ W,W=w.alloc (.cells (imgV x s) 28):=⟨_,rfl⟩
 have hB1:Below w.heap.size w W1:=by rw [hW1];exact (Below.refl _ _).alloc (Nat.le_refl _) _
 have hlt0:w.heap.size<W1.heap.size:=by rw [hW1];simp
 have hK1:Blk W1 w.heap.size 28 (imgV x s):=by rw [hW1];exact Blk.new w _ _
 obtain ⟨hkl,ad,hA,hbk,p0,p1⟩:=el_cells cE_len (hr.rc.below hB1) (by omega) ht
 have q0:=p0 _ rfl
 have q1:=p1 1 _ (by omega) rfl
 obtain ⟨f0,_,_,_,_,_⟩:=img_cells hK1
 rw [hA] at f0
 have HB1:=hide_ hB1
 obtain ⟨op,arg⟩:=t
 dsimp only at q0 q1 o0 o1 a0 a1 ⊢
 obtain ⟨r,hrr⟩:∃ r,r=opR op:=⟨_,rfl⟩
 obtain ⟨b,hb⟩:∃ b,b=opOk op:=⟨_,rfl⟩
 have HI:=hide_ (fun w=>rInfo_any op o0 o1 w)
 unfold opV at HI
 obtain ⟨n,hn⟩:∃ n,n=x.code.length:=⟨_,rfl⟩
 unfold stB
 dsimp only
 rw [← hrr,← hb] at HI
 rw [← hrr,← hn]
 rw [← hn] at f0 hkl l1
 have HBK:=hide_ (show (ad.add (k * 2)).block<W1.heap.size from by omega)
 unfold imgV at hW1 ⊢
 rw [hA,← hn] at hW1
 rw [hA,← hn]
 clear hrr hb hB1 hK1 p0 p1 ht hr hn hA hx
 unfold opCells at HI
 have hres:(decide (r.kind=3∨r.kind=2) && decide (arg≤n))=((((r.kind:Int) == 3) || ((r.kind:Int) == 2)) && decide (arg≤(n:Int))):=by
  congr 1
  rw [Bool.eq_iff_iff]
  simp
  omega
 rw [hres]
 clear hres
 obtain ⟨kd,hkd⟩:∃ k:Int,k=(r.kind:Int):=⟨_,rfl⟩
 rw [← hkd] at HI ⊢
 clear hkd
 have hways:kd=3∨((kd == 3)=false∧kd=2)∨((kd == 3)=false∧(kd == 2)=false):=by
  by_cases h3:kd=3
  ·exact .inl h3
  ·by_cases h2:kd=2
   ·exact .inr (.inl ⟨by simpa using h3,h2⟩)
   ·exact .inr (.inr ⟨by simpa using h3,by simpa using h2⟩)
 rcases hways with rfl | ⟨h3,rfl⟩ | ⟨h3,h2⟩
 ·go_enter Tryz.func46,Tryz.ntmps46
  go_upto_region 1 with (fail)
  rw [← hW1]
  clear hW1
  go_wp2_with fail
  refine (HI.out _).mono ?_
  rintro e w2 ⟨rfl,hb⟩
  have f0:=(hb.cell (p:=⟨w.heap.size,0,none⟩) hlt0).trans f0
  have q0:=(hb.cell HBK.out).trans q0
  have q1:=(hb.cell (p:=⟨(ad.add (k * 2)).block,(ad.add (k * 2)).off+1,none⟩) HBK.out).trans q1
  have hz:=Nat.lt_of_lt_of_le hlt0 hb.size
  have hz2:=Nat.lt_of_lt_of_le HBK.out hb.size
  have HB2:=hide_ (HB1.out.trans (hb.mono HB1.out.size))
  clear hb
  go_wp2_with fail
  go_big_quiet (fail)
  go_wp2
  go_ret2
  exact ⟨rfl,srt_below _ (HB2.out.alloc HB2.out.size _)⟩
 ·go_enter Tryz.func46,Tryz.ntmps46
  go_upto_region 1 with (fail)
  rw [← hW1]
  clear hW1
  go_wp2_with fail
  refine (HI.out _).mono ?_
  rintro e w2 ⟨rfl,hb⟩
  have f0:=(hb.cell (p:=⟨w.heap.size,0,none⟩) hlt0).trans f0
  have q0:=(hb.cell HBK.out).trans q0
  have q1:=(hb.cell (p:=⟨(ad.add (k * 2)).block,(ad.add (k * 2)).off+1,none⟩) HBK.out).trans q1
  have hz:=Nat.lt_of_lt_of_le hlt0 hb.size
  have hz2:=Nat.lt_of_lt_of_le HBK.out hb.size
  have HB2:=hide_ (HB1.out.trans (hb.mono HB1.out.size))
  clear hb
  go_wp2_with fail
  go_big_quiet (fail)
  go_wp2
  go_ret2
  exact ⟨rfl,srt_below _ (HB2.out.alloc HB2.out.size _)⟩
 ·rw [h3,h2,Bool.false_or,Bool.false_and]
  go_enter Tryz.func46,Tryz.ntmps46
  go_upto_region 1 with (fail)
  rw [← hW1]
  clear hW1
  go_wp2_with fail
  refine (HI.out _).mono ?_
  rintro e w2 ⟨rfl,hb⟩
  have f0:=(hb.cell (p:=⟨w.heap.size,0,none⟩) hlt0).trans f0
  have q0:=(hb.cell HBK.out).trans q0
  have q1:=(hb.cell (p:=⟨(ad.add (k * 2)).block,(ad.add (k * 2)).off+1,none⟩) HBK.out).trans q1
  have hz:=Nat.lt_of_lt_of_le hlt0 hb.size
  have hz2:=Nat.lt_of_lt_of_le HBK.out hb.size
  have HB2:=hide_ (HB1.out.trans (hb.mono HB1.out.size))
  clear hb
  go_wp2_with fail
  go_big_quiet (fail)
  go_wp2
  go_ret2
  exact ⟨rfl,srt_below _ (HB2.out.alloc HB2.out.size _)⟩
end Go.Proofs.YtikbegmodacopaaGreatDoor
