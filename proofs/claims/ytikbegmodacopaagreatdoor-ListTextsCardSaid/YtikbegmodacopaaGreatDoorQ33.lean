/-
  Joined and packed by program.
-/
import Derived.Test.YtikbegmodacopaaGreatDoorQ32
import Derived.Lib.QuietBelow
import Derived.Deep.CutRange
namespace Go.Proofs.YtikbegmodacopaaGreatDoor
open Go.RowKit Go.PlainAid Go.BigFrame
set_option linter.unusedSimpArgs false
set_option linter.unusedVariables false
set_option maxRecDepth 100000
def hereB (RF:List FixV) (sec pl:Int):Bool:=match RF with
 | []=>false
 | f :: _=>fixAtB sec pl f
set_option maxHeartbeats 4000000 in
theorem here_any (B g:Nat) (o:PO) (RL:List LabV) (RF:List FixV) (T:ByteArray) (sec pl:Int) (w:World) (h:PrS B g o RL RF T w) :
  Calls Tryz.prog 114 #[.pointer (some ⟨g,0,none⟩),.int .u8 sec,.int .u32 pl] w fun e w'=>e=.returned (.bool (hereB RF sec pl))∧w'=w:=by
 have hlow:=h.low
 obtain ⟨p,aL,cL,aF,cF,hp,hA,hR1,hc1,hR2,hc2⟩:=h
 have q7:=hA.c7
 have hgl:=hA.lt
 clear hA hR1 hc1 hp
 cases RF with
 | nil =>
  simp only [List.length_nil] at q7
  clear hR2 hc2
  go_enter Tryz.func114,Tryz.ntmps114
  go_wp2
  go_ret
  exact ⟨rfl,rfl⟩
 | cons f R' =>
  obtain ⟨fsec,fpl,nm,fadd⟩:=f
  obtain ⟨ad,rfl,hbk,p0,p1⟩:=head_cells fE_len (by omega) hR2
  have x0:=p0 _ rfl
  have x1:=p1 1 _ (by omega) rfl
  simp only at x0 x1
  simp only [List.length_cons] at q7 hc2
  obtain ⟨rl,hrl⟩:∃ n,n=R'.length:=⟨_,rfl⟩
  rw [← hrl] at q7 hc2
  have i0:(0:Int)<(rl:Int)+1:=by omega
  have hbs:ad.block<w.heap.size:=by omega
  clear p0 p1 hR2 hrl hbk
  by_cases h1:fsec=sec
  ·by_cases h2:fpl=pl
   ·have HE:=hide_ (show hereB (⟨fsec,fpl,nm,fadd⟩ :: R') sec pl=true by simp [hereB,fixAtB,h1,h2])
    have e1:(fsec == sec)=true:=by simpa using h1
    have e2:(fpl == pl)=true:=by simpa using h2
    clear h1 h2
    go_enter Tryz.func114,Tryz.ntmps114
    go_wp2
    go_ret
    exact ⟨by rw [HE.out];rfl,rfl⟩
   ·have HE:=hide_ (show hereB (⟨fsec,fpl,nm,fadd⟩ :: R') sec pl=false by simp [hereB,fixAtB,h2])
    have e1:(fsec == sec)=true:=by simpa using h1
    have e2:(fpl == pl)=false:=by simpa using h2
    clear h1 h2
    go_enter Tryz.func114,Tryz.ntmps114
    go_wp2
    go_ret
    exact ⟨by rw [HE.out];rfl,rfl⟩
  ·have HE:=hide_ (show hereB (⟨fsec,fpl,nm,fadd⟩ :: R') sec pl=false by simp [hereB,fixAtB,h1])
   have e1:(fsec == sec)=false:=by simpa using h1
   clear h1
   go_enter Tryz.func114,Tryz.ntmps114
   go_wp2
   go_ret
   exact ⟨by rw [HE.out];rfl,rfl⟩
def hasB (RL:List LabV) (sec:Int):Bool:=hasHd RL sec
set_option maxHeartbeats 4000000 in
theorem phas_any (B g:Nat) (o:PO) (RL:List LabV) (RF:List FixV) (T:ByteArray) (sec:Int) (w:World) (h:PrS B g o RL RF T w) :
  Calls Tryz.prog 116 #[.pointer (some ⟨g,0,none⟩),.int .u8 sec] w fun e w'=>e=.returned (.bool (hasB RL sec))∧w'=w:=by
 have hlow:=h.low
 obtain ⟨p,aL,cL,aF,cF,hp,hA,hR1,hc1,hR2,hc2⟩:=h
 have q6:=hA.c6
 have hgl:=hA.lt
 clear hA hR2 hc2 hp
 cases RL with
 | nil =>
  simp only [List.length_nil] at q6
  clear hR1 hc1
  go_enter Tryz.func116,Tryz.ntmps116
  go_wp2
  go_ret
  exact ⟨rfl,rfl⟩
 | cons f R' =>
  obtain ⟨nm,lsec,lpl,lop⟩:=f
  obtain ⟨ad,rfl,hbk,p0,p1⟩:=head_cells lE_len (by omega) hR1
  have x1:=p1 1 _ (by omega) rfl
  simp only at x1
  simp only [List.length_cons] at q6 hc1
  obtain ⟨rl,hrl⟩:∃ n,n=R'.length:=⟨_,rfl⟩
  rw [← hrl] at q6 hc1
  have i0:(0:Int)<(rl:Int)+1:=by omega
  have hbs:ad.block<w.heap.size:=by omega
  clear p0 p1 hR1 hrl hbk
  by_cases h1:lsec=sec
  ·have HE:=hide_ (show hasB (⟨nm,lsec,lpl,lop⟩ :: R') sec=true by simp [hasB,hasHd,h1])
   have e1:(lsec == sec)=true:=by simpa using h1
   clear h1
   go_enter Tryz.func116,Tryz.ntmps116
   go_wp2
   go_ret
   exact ⟨by rw [HE.out];rfl,rfl⟩
  ·have HE:=hide_ (show hasB (⟨nm,lsec,lpl,lop⟩ :: R') sec=false by simp [hasB,hasHd,h1])
   have e1:(lsec == sec)=false:=by simpa using h1
   clear h1
   go_enter Tryz.func116,Tryz.ntmps116
   go_wp2
   go_ret
   exact ⟨by rw [HE.out];rfl,rfl⟩
set_option maxHeartbeats 8000000 in
theorem pfix_any (B g:Nat) (o:PO) (RL:List LabV) (RF:List FixV) (f:FixV) (T:ByteArray) (w:World) (h:PrS B g o RL (f :: RF) T w) (hz:f.name.size≤140737488351232) (ha:0≤f.add∧f.add<4294967296) (hT:∀ W,Below B w W→TabOk W) :
  Calls Tryz.prog 115 #[.pointer (some ⟨g,0,none⟩)] w fun e w'=>e=.returned (.string (fixTx f))∧PrS B g o RL RF T w'∧PrM B g w w':=by
 have hlow:=h.low
 have HBG:=hide_ h.base
 obtain ⟨p,aL,cL,aF,cF,hp,hA,hR1,hc1,hR2,hc2⟩:=h
 obtain ⟨fsec,fpl,nm,fadd⟩:=f
 simp only at hz ha
 obtain ⟨ad,rfl,hbk,p0,p1⟩:=head_cells fE_len (by omega) hR2
 have x0:=p0 _ rfl
 have x1:=p1 1 _ (by omega) rfl
 have x2:=p1 2 _ (by omega) rfl
 have x3:=p1 3 _ (by omega) rfl
 simp only at x0 x1 x2 x3
 have HTR:=hide_ (tail_reads fE_len hR2 hc2)
 have q7:=hA.c7
 have hfz:=hA.frozen 7
 have hgl:=hA.lt
 simp only [List.length_cons] at q7 hc2
 obtain ⟨rl,hrl⟩:∃ n,n=RF.length:=⟨_,rfl⟩
 rw [← hrl] at q7 hc2
 have HRL:=hide_ hrl.symm
 have c1:1≤cF:=by omega
 have c2:1≤rl+1:=by omega
 have hbs:ad.block<w.heap.size:=by omega
 have HA:=hide_ hA
 have HPI:=hide_ hp
 have HRR:=hide_ (And.intro hR1 hc1)
 have HLW:=hide_ hlow
 have HT:=hide_ hT
 clear p0 p1 hR2 hR1 hc1 hA hp hbk hrl hlow hT
 obtain ⟨W5,hW5⟩:∃ W,W=w.alloc (.cells #[.int .u8 fsec,.int .u32 fpl,.string nm,.int .u32 fadd] 81):=⟨_,rfl⟩
 have hA5:=HA.out.alloc (.cells #[.int .u8 fsec,.int .u32 fpl,.string nm,.int .u32 fadd] 81)
 have hM5:=PrM.alloc (g:=g) HLW.out (.cells #[.int .u8 fsec,.int .u32 fpl,.string nm,.int .u32 fadd] 81)
 have hb5:Below w.heap.size w (w.alloc (.cells #[.int .u8 fsec,.int .u32 fpl,.string nm,.int .u32 fadd] 81)):=(Below.refl _ _).alloc (Nat.le_refl _) _
 have k2:W5.cell? ⟨w.heap.size,2,none⟩=some (.string nm):=by rw [hW5];go_simp
 have k3:W5.cell? ⟨w.heap.size,3,none⟩=some (.int .u32 fadd):=by rw [hW5];go_simp
 have hgw:w.heap.size≠g:=by omega
 have hlt5:w.heap.size<W5.heap.size:=by rw [hW5];simp
 rw [← hW5] at hA5 hM5 hb5
 have HA5:=hide_ hA5
 have HM5:=hide_ hM5
 have HB5:=hide_ hb5
 have q7':=hA5.c7
 have hfz':=hA5.frozen 7
 have hgl':=hA5.lt
 simp only [List.length_cons] at q7'
 rw [HRL.out] at q7'
 clear hA5 hM5 hb5
 go_enter Tryz.func115,Tryz.ntmps115
 go_upto_region 2 with (fail)
 rw [← hW5]
 clear hW5 x0 x1 x2 x3 q7 hfz hgl hbs
 by_cases hcq:cF=1
 ·have HQ1:=hide_ hcq
  have HTR6:=hide_ (show Reads w B 4 (some ad) RF.length (RF.flatMap fE) by have h:=HTR.out;rw [if_pos HQ1.out] at h;exact h)
  go_upto_region 3 with (fail)
  have hA6:=HA5.out.setF (.slice (some ad) rl (0))
  have hM6:=PrM.setOwn (B:=B) (w:=W5) HBG.out 7 (.slice (some ad) rl (0))
  obtain ⟨W6,hW6⟩:∃ W,W=W5.setCell ⟨g,7,none⟩ (.slice (some ad) rl (0)):=⟨_,rfl⟩
  rw [← hW6] at hA6 hM6 ⊢
  have k2:W6.cell? ⟨w.heap.size,2,none⟩=some (.string nm):=by rw [hW6,World.cell?_setCell_other _ _ _ _ (by intro e;injection e with e;exact hgw e.symm)];exact k2
  have k3:W6.cell? ⟨w.heap.size,3,none⟩=some (.int .u32 fadd):=by rw [hW6,World.cell?_setCell_other _ _ _ _ (by intro e;injection e with e;exact hgw e.symm)];exact k3
  have hlt6:w.heap.size<W6.heap.size:=by rw [hW6];simpa using hlt5
  have HM6:=hide_ (HM5.out.trans hM6)
  have HS6:=hide_ (show PrS B g o RL RF T W6 from ⟨p,aL,cL,some ad,0,HPI.out,by rw [HRL.out];exact hA6,HRR.out.1.below HM6.out.bel,HRR.out.2,HTR6.out.below HM6.out.bel,by have:=HRL.out;have:=HQ1.out;omega⟩)
  clear hW6 hA6 hM6 hlt5 q7' hfz' hgl'
  by_cases h0:fadd=0
  ·subst h0
   have HE:=hide_ (show fixTx ⟨fsec,fpl,nm,0⟩=nm by rw [fixTx,if_pos rfl])
   go_wp2
   go_ret
   exact ⟨by rw [HE.out];rfl,HS6.out,HM6.out⟩
  ·obtain ⟨mm,hm⟩:∃ m:Nat,fadd=(m:Int):=⟨fadd.toNat,by omega⟩
   have HE:=hide_ (show fixTx ⟨fsec,fpl,nm,fadd⟩=nm ++ ⟨#[43]⟩ ++ decT mm by rw [fixTx,if_neg h0];dsimp only;rw [hm,Int.toNat_natCast])
   have hds:=decT_size mm (by omega)
   have e0:(fadd == 0)=false:=by simpa using h0
   have w64:IntKind.u64.wrap fadd=fadd:=IntWalk.u64_in _ (by omega)
   have HU:Hid (∀ W,TabOk W→Calls Tryz.prog 75 #[.int .u64 fadd,.int .i64 10] W fun e w'=>e=.returned (.string (decT mm))∧Below W.heap.size W w'):=hide_ (fun W hW=>by rw [hm];exact Uint_any mm (by omega) W hW)
   obtain ⟨DD,hD⟩:∃ D,D=decT mm:=⟨_,rfl⟩
   rw [← hD] at HE HU hds
   have m1:¬ 9223372036854775807<nm.size+1:=by omega
   have m2:¬ 9223372036854775807<nm.size+1+DD.size:=by omega
   clear hD hm h0 hds
   have HTB:=hide_ (show ∀ d os,TabOk (Sort.grow (redrawn W6 d) os) from fun d os=>HT.out _ (HM6.out.bel.trans ((below_regrown W6 d os).mono HS6.out.low)))
   go_upto_region 5 with (fail)
   have cU:∀ d os,Calls Tryz.prog 75 #[.int .u64 fadd,.int .i64 10] (Sort.grow (redrawn W6 d) os) fun e w''=>e=.returned (.string DD)∧∃ p:Regrown,w''=Sort.grow (redrawn W6 p.d) p.os:=fun d os=>Calls.regrown_of (HU.out _ (HTB.out d os))
   replace k2:=cell_regrown k2
   replace k3:=cell_regrown k3
   refine wp_region_quiet_below (by kernel_rfl) (by kernel_rfl) ?_
   repeat (go_big_quiet_step ((exact cU _ _)))
   refine wpQuiet_nil ?_
   intro w8 hw'
   obtain ⟨⟨dq,osq⟩,hw''⟩:=hw'
   have hb8:Below W6.heap.size W6 w8:=by rw [hw''];exact below_regrown W6 dq osq
   have HS8:=hide_ (HS6.out.below hb8)
   have HM8:=hide_ (HM6.out.trans (PrM.of_below HS6.out.low hb8))
   clear hw'' k2 k3 cU hb8
   go_wp2
   go_ret
   exact ⟨by rw [HE.out];rfl,HS8.out,HM8.out⟩
 ·have HQ1:=hide_ hcq
  have HTR6:=hide_ (show Reads w B 4 (some ⟨ad.block,ad.off+4,none⟩) RF.length (RF.flatMap fE) by have h:=HTR.out;rw [if_neg HQ1.out] at h;exact h)
  go_upto_region 3 with (fail)
  have hA6:=HA5.out.setF (.slice (some ⟨ad.block,ad.off+4,none⟩) rl (cF - 1))
  have hM6:=PrM.setOwn (B:=B) (w:=W5) HBG.out 7 (.slice (some ⟨ad.block,ad.off+4,none⟩) rl (cF - 1))
  obtain ⟨W6,hW6⟩:∃ W,W=W5.setCell ⟨g,7,none⟩ (.slice (some ⟨ad.block,ad.off+4,none⟩) rl (cF - 1)):=⟨_,rfl⟩
  rw [← hW6] at hA6 hM6 ⊢
  have k2:W6.cell? ⟨w.heap.size,2,none⟩=some (.string nm):=by rw [hW6,World.cell?_setCell_other _ _ _ _ (by intro e;injection e with e;exact hgw e.symm)];exact k2
  have k3:W6.cell? ⟨w.heap.size,3,none⟩=some (.int .u32 fadd):=by rw [hW6,World.cell?_setCell_other _ _ _ _ (by intro e;injection e with e;exact hgw e.symm)];exact k3
  have hlt6:w.heap.size<W6.heap.size:=by rw [hW6];simpa using hlt5
  have HM6:=hide_ (HM5.out.trans hM6)
  have HS6:=hide_ (show PrS B g o RL RF T W6 from ⟨p,aL,cL,some ⟨ad.block,ad.off+4,none⟩,cF - 1,HPI.out,by rw [HRL.out];exact hA6,HRR.out.1.below HM6.out.bel,HRR.out.2,HTR6.out.below HM6.out.bel,by have:=HRL.out;have:=HQ1.out;omega⟩)
  clear hW6 hA6 hM6 hlt5 q7' hfz' hgl'
  by_cases h0:fadd=0
  ·subst h0
   have HE:=hide_ (show fixTx ⟨fsec,fpl,nm,0⟩=nm by rw [fixTx,if_pos rfl])
   go_wp2
   go_ret
   exact ⟨by rw [HE.out];rfl,HS6.out,HM6.out⟩
  ·obtain ⟨mm,hm⟩:∃ m:Nat,fadd=(m:Int):=⟨fadd.toNat,by omega⟩
   have HE:=hide_ (show fixTx ⟨fsec,fpl,nm,fadd⟩=nm ++ ⟨#[43]⟩ ++ decT mm by rw [fixTx,if_neg h0];dsimp only;rw [hm,Int.toNat_natCast])
   have hds:=decT_size mm (by omega)
   have e0:(fadd == 0)=false:=by simpa using h0
   have w64:IntKind.u64.wrap fadd=fadd:=IntWalk.u64_in _ (by omega)
   have HU:Hid (∀ W,TabOk W→Calls Tryz.prog 75 #[.int .u64 fadd,.int .i64 10] W fun e w'=>e=.returned (.string (decT mm))∧Below W.heap.size W w'):=hide_ (fun W hW=>by rw [hm];exact Uint_any mm (by omega) W hW)
   obtain ⟨DD,hD⟩:∃ D,D=decT mm:=⟨_,rfl⟩
   rw [← hD] at HE HU hds
   have m1:¬ 9223372036854775807<nm.size+1:=by omega
   have m2:¬ 9223372036854775807<nm.size+1+DD.size:=by omega
   clear hD hm h0 hds
   have HTB:=hide_ (show ∀ d os,TabOk (Sort.grow (redrawn W6 d) os) from fun d os=>HT.out _ (HM6.out.bel.trans ((below_regrown W6 d os).mono HS6.out.low)))
   go_upto_region 5 with (fail)
   have cU:∀ d os,Calls Tryz.prog 75 #[.int .u64 fadd,.int .i64 10] (Sort.grow (redrawn W6 d) os) fun e w''=>e=.returned (.string DD)∧∃ p:Regrown,w''=Sort.grow (redrawn W6 p.d) p.os:=fun d os=>Calls.regrown_of (HU.out _ (HTB.out d os))
   replace k2:=cell_regrown k2
   replace k3:=cell_regrown k3
   refine wp_region_quiet_below (by kernel_rfl) (by kernel_rfl) ?_
   repeat (go_big_quiet_step ((exact cU _ _)))
   refine wpQuiet_nil ?_
   intro w8 hw'
   obtain ⟨⟨dq,osq⟩,hw''⟩:=hw'
   have hb8:Below W6.heap.size W6 w8:=by rw [hw''];exact below_regrown W6 dq osq
   have HS8:=hide_ (HS6.out.below hb8)
   have HM8:=hide_ (HM6.out.trans (PrM.of_below HS6.out.low hb8))
   clear hw'' k2 k3 cU hb8
   go_wp2
   go_ret
   exact ⟨by rw [HE.out];rfl,HS8.out,HM8.out⟩
def minB (sec pl e:Int):Option (Int × Int)→Int
 | none=>e
 | some (s,a)=>if s=sec∧pl≤a then min e a else e
def untilV (RL:List LabV) (RF:List FixV) (sec pl e:Int):Int:=minB sec pl (minB sec pl e (RL.head?.map fun l=>(l.sec,l.at_))) (RF.head?.map fun f=>(f.sec,f.at_))
theorem minB_yes {sec pl e s a:Int} (h1:s=sec) (h2:pl≤a):minB sec pl e (some (s,a))=min e a:=if_pos ⟨h1,h2⟩
theorem minB_no {sec pl e s a:Int} (h:¬ (s=sec∧pl≤a)):minB sec pl e (some (s,a))=e:=if_neg h
set_option maxHeartbeats 8000000 in
theorem until_any (B g:Nat) (o:PO) (RL:List LabV) (RF:List FixV) (T:ByteArray) (sec pl e0:Int) (w:World) (h:PrS B g o RL RF T w) :
  Calls Tryz.prog 117 #[.pointer (some ⟨g,0,none⟩),.int .u8 sec,.int .u32 pl,.int .u32 e0] w fun e w'=>e=.returned (.int .u32 (untilV RL RF sec pl e0))∧w'=w:=by
 have hlow:=h.low
 obtain ⟨p,aL,cL,aF,cF,hp,hA,hR1,hc1,hR2,hc2⟩:=h
 have q6:=hA.c6
 have q7:=hA.c7
 have hgl:=hA.lt
 clear hA hp
 obtain ⟨nl,hnl⟩:∃ n,n=RL.length:=⟨_,rfl⟩
 obtain ⟨nf,hnf⟩:∃ n,n=RF.length:=⟨_,rfl⟩
 rw [← hnl] at q6 hR1 hc1
 rw [← hnf] at q7 hR2 hc2
 have HNL:=hide_ hnl
 have HNF:=hide_ hnf
 clear hnl hnf
 unfold untilV
 cases RL with
 | nil =>
  have i0:¬ (0:Int)<(nl:Int):=by have h:=HNL.out;rw [List.length_nil] at h;omega
  clear hR1 hc1
  cases RF with
  | nil =>
   have j0:¬ (0:Int)<(nf:Int):=by have h:=HNF.out;rw [List.length_nil] at h;omega
   clear hR2 hc2
   simp only [List.head?_nil,List.head?_cons,Option.map_none,Option.map_some]
   have HE:=hide_ (show minB sec pl (minB sec pl e0 (none)) (none)=e0 by
    rw [show minB sec pl e0 none=e0 from rfl,show minB sec pl e0 none=e0 from rfl])
   go_enter Tryz.func117,Tryz.ntmps117
   go_wp2
   go_ret
   exact ⟨by first | (rw [show (minB sec pl (minB sec pl e0 (none)) (none))=_ from HE.out];rfl) | (rw [show (minB sec pl (minB sec pl e0 (none)) (none))=_ from HE.out,Int.min_assoc];rfl),rfl⟩
  | cons f R2 =>
   have hn2:nf=R2.length+1:=HNF.out
   rw [hn2] at hR2
   have j0:(0:Int)<(nf:Int):=by omega
   clear hn2
   obtain ⟨fsec,fpl,fnm,fadd⟩:=f
   obtain ⟨ad2,rfl,hbk2,p2,p3⟩:=head_cells fE_len (by omega) hR2
   have y0:=p2 _ rfl
   have y1:=p3 1 _ (by omega) rfl
   simp only at y0 y1
   have hbs2:ad2.block<w.heap.size:=by omega
   clear p2 p3 hR2 hbk2
   simp only [List.head?_nil,List.head?_cons,Option.map_none,Option.map_some]
   by_cases g1:fsec=sec
   ·by_cases g2:pl≤fpl
    ·have g3:=g2
     have HE:=hide_ (show minB sec pl (minB sec pl e0 (none)) (some (fsec,fpl))=(min e0 fpl) by
      rw [show minB sec pl e0 none=e0 from rfl,minB_yes g1 g2])
     have b2:(fsec == sec)=true:=by simpa using g1
     clear g1
     go_enter Tryz.func117,Tryz.ntmps117
     go_wp2
     go_ret
     exact ⟨by first | (rw [show (minB sec pl (minB sec pl e0 (none)) (some (fsec,fpl)))=_ from HE.out];rfl) | (rw [show (minB sec pl (minB sec pl e0 (none)) (some (fsec,fpl)))=_ from HE.out,Int.min_assoc];rfl),rfl⟩
    ·have g3:=g2
     have HE:=hide_ (show minB sec pl (minB sec pl e0 (none)) (some (fsec,fpl))=e0 by
      rw [show minB sec pl e0 none=e0 from rfl,minB_no (fun h=>g2 h.2)])
     have b2:(fsec == sec)=true:=by simpa using g1
     clear g1
     go_enter Tryz.func117,Tryz.ntmps117
     go_wp2
     go_ret
     exact ⟨by first | (rw [show (minB sec pl (minB sec pl e0 (none)) (some (fsec,fpl)))=_ from HE.out];rfl) | (rw [show (minB sec pl (minB sec pl e0 (none)) (some (fsec,fpl)))=_ from HE.out,Int.min_assoc];rfl),rfl⟩
   ·have g3:=g1
    clear g3
    have HE:=hide_ (show minB sec pl (minB sec pl e0 (none)) (some (fsec,fpl))=e0 by
     rw [show minB sec pl e0 none=e0 from rfl,minB_no (fun h=>g1 h.1)])
    have b2:(fsec == sec)=false:=by simpa using g1
    clear g1
    go_enter Tryz.func117,Tryz.ntmps117
    go_wp2
    go_ret
    exact ⟨by first | (rw [show (minB sec pl (minB sec pl e0 (none)) (some (fsec,fpl)))=_ from HE.out];rfl) | (rw [show (minB sec pl (minB sec pl e0 (none)) (some (fsec,fpl)))=_ from HE.out,Int.min_assoc];rfl),rfl⟩
 | cons l R1 =>
  have hn1:nl=R1.length+1:=HNL.out
  rw [hn1] at hR1
  have i0:(0:Int)<(nl:Int):=by omega
  clear hn1
  obtain ⟨nm,lsec,lpl,lop⟩:=l
  obtain ⟨ad,rfl,hbk,p0,p1⟩:=head_cells lE_len (by omega) hR1
  have x1:=p1 1 _ (by omega) rfl
  have x2:=p1 2 _ (by omega) rfl
  simp only at x1 x2
  have hbs:ad.block<w.heap.size:=by omega
  clear p0 p1 hR1 hbk
  by_cases h1:lsec=sec
  ·by_cases h2:pl≤lpl
   ·have h3:=h2
    cases RF with
    | nil =>
     have j0:¬ (0:Int)<(nf:Int):=by have h:=HNF.out;rw [List.length_nil] at h;omega
     clear hR2 hc2
     simp only [List.head?_nil,List.head?_cons,Option.map_none,Option.map_some]
     have HE:=hide_ (show minB sec pl (minB sec pl e0 (some (lsec,lpl))) (none)=(min e0 lpl) by
      rw [minB_yes h1 h2,show minB sec pl (min e0 lpl) none=(min e0 lpl) from rfl])
     have b1:(lsec == sec)=true:=by simpa using h1
     clear h1
     go_enter Tryz.func117,Tryz.ntmps117
     go_wp2
     go_ret
     exact ⟨by first | (rw [show (minB sec pl (minB sec pl e0 (some (lsec,lpl))) (none))=_ from HE.out];rfl) | (rw [show (minB sec pl (minB sec pl e0 (some (lsec,lpl))) (none))=_ from HE.out,Int.min_assoc];rfl),rfl⟩
    | cons f R2 =>
     have hn2:nf=R2.length+1:=HNF.out
     rw [hn2] at hR2
     have j0:(0:Int)<(nf:Int):=by omega
     clear hn2
     obtain ⟨fsec,fpl,fnm,fadd⟩:=f
     obtain ⟨ad2,rfl,hbk2,p2,p3⟩:=head_cells fE_len (by omega) hR2
     have y0:=p2 _ rfl
     have y1:=p3 1 _ (by omega) rfl
     simp only at y0 y1
     have hbs2:ad2.block<w.heap.size:=by omega
     clear p2 p3 hR2 hbk2
     simp only [List.head?_nil,List.head?_cons,Option.map_none,Option.map_some]
     by_cases g1:fsec=sec
     ·by_cases g2:pl≤fpl
      ·have g3:=g2
       have HE:=hide_ (show minB sec pl (minB sec pl e0 (some (lsec,lpl))) (some (fsec,fpl))=(min (min e0 lpl) fpl) by
        rw [minB_yes h1 h2,minB_yes g1 g2])
       have b1:(lsec == sec)=true:=by simpa using h1
       have b2:(fsec == sec)=true:=by simpa using g1
       clear h1 g1
       go_enter Tryz.func117,Tryz.ntmps117
       go_wp2
       go_ret
       exact ⟨by first | (rw [show (minB sec pl (minB sec pl e0 (some (lsec,lpl))) (some (fsec,fpl)))=_ from HE.out];rfl) | (rw [show (minB sec pl (minB sec pl e0 (some (lsec,lpl))) (some (fsec,fpl)))=_ from HE.out,Int.min_assoc];rfl),rfl⟩
      ·have g3:=g2
       have HE:=hide_ (show minB sec pl (minB sec pl e0 (some (lsec,lpl))) (some (fsec,fpl))=(min e0 lpl) by
        rw [minB_yes h1 h2,minB_no (fun h=>g2 h.2)])
       have b1:(lsec == sec)=true:=by simpa using h1
       have b2:(fsec == sec)=true:=by simpa using g1
       clear h1 g1
       go_enter Tryz.func117,Tryz.ntmps117
       go_wp2
       go_ret
       exact ⟨by first | (rw [show (minB sec pl (minB sec pl e0 (some (lsec,lpl))) (some (fsec,fpl)))=_ from HE.out];rfl) | (rw [show (minB sec pl (minB sec pl e0 (some (lsec,lpl))) (some (fsec,fpl)))=_ from HE.out,Int.min_assoc];rfl),rfl⟩
     ·have g3:=g1
      clear g3
      have HE:=hide_ (show minB sec pl (minB sec pl e0 (some (lsec,lpl))) (some (fsec,fpl))=(min e0 lpl) by
       rw [minB_yes h1 h2,minB_no (fun h=>g1 h.1)])
      have b1:(lsec == sec)=true:=by simpa using h1
      have b2:(fsec == sec)=false:=by simpa using g1
      clear h1 g1
      go_enter Tryz.func117,Tryz.ntmps117
      go_wp2
      go_ret
      exact ⟨by first | (rw [show (minB sec pl (minB sec pl e0 (some (lsec,lpl))) (some (fsec,fpl)))=_ from HE.out];rfl) | (rw [show (minB sec pl (minB sec pl e0 (some (lsec,lpl))) (some (fsec,fpl)))=_ from HE.out,Int.min_assoc];rfl),rfl⟩
   ·have h3:=h2
    cases RF with
    | nil =>
     have j0:¬ (0:Int)<(nf:Int):=by have h:=HNF.out;rw [List.length_nil] at h;omega
     clear hR2 hc2
     simp only [List.head?_nil,List.head?_cons,Option.map_none,Option.map_some]
     have HE:=hide_ (show minB sec pl (minB sec pl e0 (some (lsec,lpl))) (none)=e0 by
      rw [minB_no (e:=e0) (fun h=>h2 h.2),show minB sec pl e0 none=e0 from rfl])
     have b1:(lsec == sec)=true:=by simpa using h1
     clear h1
     go_enter Tryz.func117,Tryz.ntmps117
     go_wp2
     go_ret
     exact ⟨by first | (rw [show (minB sec pl (minB sec pl e0 (some (lsec,lpl))) (none))=_ from HE.out];rfl) | (rw [show (minB sec pl (minB sec pl e0 (some (lsec,lpl))) (none))=_ from HE.out,Int.min_assoc];rfl),rfl⟩
    | cons f R2 =>
     have hn2:nf=R2.length+1:=HNF.out
     rw [hn2] at hR2
     have j0:(0:Int)<(nf:Int):=by omega
     clear hn2
     obtain ⟨fsec,fpl,fnm,fadd⟩:=f
     obtain ⟨ad2,rfl,hbk2,p2,p3⟩:=head_cells fE_len (by omega) hR2
     have y0:=p2 _ rfl
     have y1:=p3 1 _ (by omega) rfl
     simp only at y0 y1
     have hbs2:ad2.block<w.heap.size:=by omega
     clear p2 p3 hR2 hbk2
     simp only [List.head?_nil,List.head?_cons,Option.map_none,Option.map_some]
     by_cases g1:fsec=sec
     ·by_cases g2:pl≤fpl
      ·have g3:=g2
       have HE:=hide_ (show minB sec pl (minB sec pl e0 (some (lsec,lpl))) (some (fsec,fpl))=(min e0 fpl) by
        rw [minB_no (e:=e0) (fun h=>h2 h.2),minB_yes g1 g2])
       have b1:(lsec == sec)=true:=by simpa using h1
       have b2:(fsec == sec)=true:=by simpa using g1
       clear h1 g1
       go_enter Tryz.func117,Tryz.ntmps117
       go_wp2
       go_ret
       exact ⟨by first | (rw [show (minB sec pl (minB sec pl e0 (some (lsec,lpl))) (some (fsec,fpl)))=_ from HE.out];rfl) | (rw [show (minB sec pl (minB sec pl e0 (some (lsec,lpl))) (some (fsec,fpl)))=_ from HE.out,Int.min_assoc];rfl),rfl⟩
      ·have g3:=g2
       have HE:=hide_ (show minB sec pl (minB sec pl e0 (some (lsec,lpl))) (some (fsec,fpl))=e0 by
        rw [minB_no (e:=e0) (fun h=>h2 h.2),minB_no (fun h=>g2 h.2)])
       have b1:(lsec == sec)=true:=by simpa using h1
       have b2:(fsec == sec)=true:=by simpa using g1
       clear h1 g1
       go_enter Tryz.func117,Tryz.ntmps117
       go_wp2
       go_ret
       exact ⟨by first | (rw [show (minB sec pl (minB sec pl e0 (some (lsec,lpl))) (some (fsec,fpl)))=_ from HE.out];rfl) | (rw [show (minB sec pl (minB sec pl e0 (some (lsec,lpl))) (some (fsec,fpl)))=_ from HE.out,Int.min_assoc];rfl),rfl⟩
     ·have g3:=g1
      clear g3
      have HE:=hide_ (show minB sec pl (minB sec pl e0 (some (lsec,lpl))) (some (fsec,fpl))=e0 by
       rw [minB_no (e:=e0) (fun h=>h2 h.2),minB_no (fun h=>g1 h.1)])
      have b1:(lsec == sec)=true:=by simpa using h1
      have b2:(fsec == sec)=false:=by simpa using g1
      clear h1 g1
      go_enter Tryz.func117,Tryz.ntmps117
      go_wp2
      go_ret
      exact ⟨by first | (rw [show (minB sec pl (minB sec pl e0 (some (lsec,lpl))) (some (fsec,fpl)))=_ from HE.out];rfl) | (rw [show (minB sec pl (minB sec pl e0 (some (lsec,lpl))) (some (fsec,fpl)))=_ from HE.out,Int.min_assoc];rfl),rfl⟩
  ·have h3:=h1
   clear h3
   cases RF with
   | nil =>
    have j0:¬ (0:Int)<(nf:Int):=by have h:=HNF.out;rw [List.length_nil] at h;omega
    clear hR2 hc2
    simp only [List.head?_nil,List.head?_cons,Option.map_none,Option.map_some]
    have HE:=hide_ (show minB sec pl (minB sec pl e0 (some (lsec,lpl))) (none)=e0 by
     rw [minB_no (e:=e0) (fun h=>h1 h.1),show minB sec pl e0 none=e0 from rfl])
    have b1:(lsec == sec)=false:=by simpa using h1
    clear h1
    go_enter Tryz.func117,Tryz.ntmps117
    go_wp2
    go_ret
    exact ⟨by first | (rw [show (minB sec pl (minB sec pl e0 (some (lsec,lpl))) (none))=_ from HE.out];rfl) | (rw [show (minB sec pl (minB sec pl e0 (some (lsec,lpl))) (none))=_ from HE.out,Int.min_assoc];rfl),rfl⟩
   | cons f R2 =>
    have hn2:nf=R2.length+1:=HNF.out
    rw [hn2] at hR2
    have j0:(0:Int)<(nf:Int):=by omega
    clear hn2
    obtain ⟨fsec,fpl,fnm,fadd⟩:=f
    obtain ⟨ad2,rfl,hbk2,p2,p3⟩:=head_cells fE_len (by omega) hR2
    have y0:=p2 _ rfl
    have y1:=p3 1 _ (by omega) rfl
    simp only at y0 y1
    have hbs2:ad2.block<w.heap.size:=by omega
    clear p2 p3 hR2 hbk2
    simp only [List.head?_nil,List.head?_cons,Option.map_none,Option.map_some]
    by_cases g1:fsec=sec
    ·by_cases g2:pl≤fpl
     ·have g3:=g2
      have HE:=hide_ (show minB sec pl (minB sec pl e0 (some (lsec,lpl))) (some (fsec,fpl))=(min e0 fpl) by
       rw [minB_no (e:=e0) (fun h=>h1 h.1),minB_yes g1 g2])
      have b1:(lsec == sec)=false:=by simpa using h1
      have b2:(fsec == sec)=true:=by simpa using g1
      clear h1 g1
      go_enter Tryz.func117,Tryz.ntmps117
      go_wp2
      go_ret
      exact ⟨by first | (rw [show (minB sec pl (minB sec pl e0 (some (lsec,lpl))) (some (fsec,fpl)))=_ from HE.out];rfl) | (rw [show (minB sec pl (minB sec pl e0 (some (lsec,lpl))) (some (fsec,fpl)))=_ from HE.out,Int.min_assoc];rfl),rfl⟩
     ·have g3:=g2
      have HE:=hide_ (show minB sec pl (minB sec pl e0 (some (lsec,lpl))) (some (fsec,fpl))=e0 by
       rw [minB_no (e:=e0) (fun h=>h1 h.1),minB_no (fun h=>g2 h.2)])
      have b1:(lsec == sec)=false:=by simpa using h1
      have b2:(fsec == sec)=true:=by simpa using g1
      clear h1 g1
      go_enter Tryz.func117,Tryz.ntmps117
      go_wp2
      go_ret
      exact ⟨by first | (rw [show (minB sec pl (minB sec pl e0 (some (lsec,lpl))) (some (fsec,fpl)))=_ from HE.out];rfl) | (rw [show (minB sec pl (minB sec pl e0 (some (lsec,lpl))) (some (fsec,fpl)))=_ from HE.out,Int.min_assoc];rfl),rfl⟩
    ·have g3:=g1
     clear g3
     have HE:=hide_ (show minB sec pl (minB sec pl e0 (some (lsec,lpl))) (some (fsec,fpl))=e0 by
      rw [minB_no (e:=e0) (fun h=>h1 h.1),minB_no (fun h=>g1 h.1)])
     have b1:(lsec == sec)=false:=by simpa using h1
     have b2:(fsec == sec)=false:=by simpa using g1
     clear h1 g1
     go_enter Tryz.func117,Tryz.ntmps117
     go_wp2
     go_ret
     exact ⟨by first | (rw [show (minB sec pl (minB sec pl e0 (some (lsec,lpl))) (some (fsec,fpl)))=_ from HE.out];rfl) | (rw [show (minB sec pl (minB sec pl e0 (some (lsec,lpl))) (some (fsec,fpl)))=_ from HE.out,Int.min_assoc];rfl),rfl⟩
end Go.Proofs.YtikbegmodacopaaGreatDoor
