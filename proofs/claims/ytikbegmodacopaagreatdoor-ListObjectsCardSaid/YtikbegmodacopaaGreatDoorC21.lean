/-
  Joined and packed by program.
-/
import Derived.Test.YtikbegmodacopaaGreatDoorC20
import Derived.Lib.QuietBelow
import Derived.Deep.CutRange
import Derived.Test.YtikbegmodacopaaGreatDoorC19
import Derived.Deep.RegionHeld3
namespace Go.Proofs.YtikbegmodacopaaGreatDoor
open Go.RowKit Go.PlainAid Go.BigFrame
set_option linter.unusedSimpArgs false
set_option linter.unusedVariables false
set_option maxRecDepth 100000
def hereB (RF:List FixV) (sec pl:Int):Bool:=match RF with
 | []=>false
 | f :: _=>fixAtB sec pl f
set_option maxHeartbeats 4000000 in
theorem here_any (B g:Nat) (o:PO) (RL:List LabV) (RF:List FixV) (T:ByteArray) (sec pl:Int) (w:World) (h:PrS B g o RL RF T w) :
  Calls Tryz.prog 114 #[.pointer (some ⟨g,0,none⟩),.int .u8 sec,.int .u32 pl] w fun e w'=>e=.returned (.bool (hereB RF sec pl))∧w'=w:=by
 have hlow:=h.low
 obtain ⟨p,aL,cL,aF,cF,hp,hA,hR1,hc1,hR2,hc2⟩:=h
 have q7:=hA.c7
 have hgl:=hA.lt
 clear hA hR1 hc1 hp
 cases RF with
 | nil =>
  simp only [List.length_nil] at q7
  clear hR2 hc2
  go_enter Tryz.func114,Tryz.ntmps114
  go_wp2
  go_ret
  exact ⟨rfl,rfl⟩
 | cons f R' =>
  obtain ⟨fsec,fpl,nm,fadd⟩:=f
  obtain ⟨ad,rfl,hbk,p0,p1⟩:=head_cells fE_len (by omega) hR2
  have x0:=p0 _ rfl
  have x1:=p1 1 _ (by omega) rfl
  simp only at x0 x1
  simp only [List.length_cons] at q7 hc2
  obtain ⟨rl,hrl⟩:∃ n,n=R'.length:=⟨_,rfl⟩
  rw [← hrl] at q7 hc2
  have i0:(0:Int)<(rl:Int)+1:=by omega
  have hbs:ad.block<w.heap.size:=by omega
  clear p0 p1 hR2 hrl hbk
  by_cases h1:fsec=sec
  ·by_cases h2:fpl=pl
   ·have HE:=hide_ (show hereB (⟨fsec,fpl,nm,fadd⟩ :: R') sec pl=true by simp [hereB,fixAtB,h1,h2])
    have e1:(fsec == sec)=true:=by simpa using h1
    have e2:(fpl == pl)=true:=by simpa using h2
    clear h1 h2
    go_enter Tryz.func114,Tryz.ntmps114
    go_wp2
    go_ret
    exact ⟨by rw [HE.out];rfl,rfl⟩
   ·have HE:=hide_ (show hereB (⟨fsec,fpl,nm,fadd⟩ :: R') sec pl=false by simp [hereB,fixAtB,h2])
    have e1:(fsec == sec)=true:=by simpa using h1
    have e2:(fpl == pl)=false:=by simpa using h2
    clear h1 h2
    go_enter Tryz.func114,Tryz.ntmps114
    go_wp2
    go_ret
    exact ⟨by rw [HE.out];rfl,rfl⟩
  ·have HE:=hide_ (show hereB (⟨fsec,fpl,nm,fadd⟩ :: R') sec pl=false by simp [hereB,fixAtB,h1])
   have e1:(fsec == sec)=false:=by simpa using h1
   clear h1
   go_enter Tryz.func114,Tryz.ntmps114
   go_wp2
   go_ret
   exact ⟨by rw [HE.out];rfl,rfl⟩
def hasB (RL:List LabV) (sec:Int):Bool:=hasHd RL sec
set_option maxHeartbeats 4000000 in
theorem phas_any (B g:Nat) (o:PO) (RL:List LabV) (RF:List FixV) (T:ByteArray) (sec:Int) (w:World) (h:PrS B g o RL RF T w) :
  Calls Tryz.prog 116 #[.pointer (some ⟨g,0,none⟩),.int .u8 sec] w fun e w'=>e=.returned (.bool (hasB RL sec))∧w'=w:=by
 have hlow:=h.low
 obtain ⟨p,aL,cL,aF,cF,hp,hA,hR1,hc1,hR2,hc2⟩:=h
 have q6:=hA.c6
 have hgl:=hA.lt
 clear hA hR2 hc2 hp
 cases RL with
 | nil =>
  simp only [List.length_nil] at q6
  clear hR1 hc1
  go_enter Tryz.func116,Tryz.ntmps116
  go_wp2
  go_ret
  exact ⟨rfl,rfl⟩
 | cons f R' =>
  obtain ⟨nm,lsec,lpl,lop⟩:=f
  obtain ⟨ad,rfl,hbk,p0,p1⟩:=head_cells lE_len (by omega) hR1
  have x1:=p1 1 _ (by omega) rfl
  simp only at x1
  simp only [List.length_cons] at q6 hc1
  obtain ⟨rl,hrl⟩:∃ n,n=R'.length:=⟨_,rfl⟩
  rw [← hrl] at q6 hc1
  have i0:(0:Int)<(rl:Int)+1:=by omega
  have hbs:ad.block<w.heap.size:=by omega
  clear p0 p1 hR1 hrl hbk
  by_cases h1:lsec=sec
  ·have HE:=hide_ (show hasB (⟨nm,lsec,lpl,lop⟩ :: R') sec=true by simp [hasB,hasHd,h1])
   have e1:(lsec == sec)=true:=by simpa using h1
   clear h1
   go_enter Tryz.func116,Tryz.ntmps116
   go_wp2
   go_ret
   exact ⟨by rw [HE.out];rfl,rfl⟩
  ·have HE:=hide_ (show hasB (⟨nm,lsec,lpl,lop⟩ :: R') sec=false by simp [hasB,hasHd,h1])
   have e1:(lsec == sec)=false:=by simpa using h1
   clear h1
   go_enter Tryz.func116,Tryz.ntmps116
   go_wp2
   go_ret
   exact ⟨by rw [HE.out];rfl,rfl⟩
set_option maxHeartbeats 8000000 in
theorem pfix_any (B g:Nat) (o:PO) (RL:List LabV) (RF:List FixV) (f:FixV) (T:ByteArray) (w:World) (h:PrS B g o RL (f :: RF) T w) (hz:f.name.size≤140737488351232) (ha:0≤f.add∧f.add<4294967296) (hT:∀ W,Below B w W→TabOk W) :
  Calls Tryz.prog 115 #[.pointer (some ⟨g,0,none⟩)] w fun e w'=>e=.returned (.string (fixTx f))∧PrS B g o RL RF T w'∧PrM B g w w':=by
 have hlow:=h.low
 have HBG:=hide_ h.base
 obtain ⟨p,aL,cL,aF,cF,hp,hA,hR1,hc1,hR2,hc2⟩:=h
 obtain ⟨fsec,fpl,nm,fadd⟩:=f
 simp only at hz ha
 obtain ⟨ad,rfl,hbk,p0,p1⟩:=head_cells fE_len (by omega) hR2
 have x0:=p0 _ rfl
 have x1:=p1 1 _ (by omega) rfl
 have x2:=p1 2 _ (by omega) rfl
 have x3:=p1 3 _ (by omega) rfl
 simp only at x0 x1 x2 x3
 have HTR:=hide_ (tail_reads fE_len hR2 hc2)
 have q7:=hA.c7
 have hfz:=hA.frozen 7
 have hgl:=hA.lt
 simp only [List.length_cons] at q7 hc2
 obtain ⟨rl,hrl⟩:∃ n,n=RF.length:=⟨_,rfl⟩
 rw [← hrl] at q7 hc2
 have HRL:=hide_ hrl.symm
 have c1:1≤cF:=by omega
 have c2:1≤rl+1:=by omega
 have hbs:ad.block<w.heap.size:=by omega
 have HA:=hide_ hA
 have HPI:=hide_ hp
 have HRR:=hide_ (And.intro hR1 hc1)
 have HLW:=hide_ hlow
 have HT:=hide_ hT
 clear p0 p1 hR2 hR1 hc1 hA hp hbk hrl hlow hT
 obtain ⟨W5,hW5⟩:∃ W,W=w.alloc (.cells #[.int .u8 fsec,.int .u32 fpl,.string nm,.int .u32 fadd] 81):=⟨_,rfl⟩
 have hA5:=HA.out.alloc (.cells #[.int .u8 fsec,.int .u32 fpl,.string nm,.int .u32 fadd] 81)
 have hM5:=PrM.alloc (g:=g) HLW.out (.cells #[.int .u8 fsec,.int .u32 fpl,.string nm,.int .u32 fadd] 81)
 have hb5:Below w.heap.size w (w.alloc (.cells #[.int .u8 fsec,.int .u32 fpl,.string nm,.int .u32 fadd] 81)):=(Below.refl _ _).alloc (Nat.le_refl _) _
 have k2:W5.cell? ⟨w.heap.size,2,none⟩=some (.string nm):=by rw [hW5];go_simp
 have k3:W5.cell? ⟨w.heap.size,3,none⟩=some (.int .u32 fadd):=by rw [hW5];go_simp
 have hgw:w.heap.size≠g:=by omega
 have hlt5:w.heap.size<W5.heap.size:=by rw [hW5];simp
 rw [← hW5] at hA5 hM5 hb5
 have HA5:=hide_ hA5
 have HM5:=hide_ hM5
 have HB5:=hide_ hb5
 have q7':=hA5.c7
 have hfz':=hA5.frozen 7
 have hgl':=hA5.lt
 simp only [List.length_cons] at q7'
 rw [HRL.out] at q7'
 clear hA5 hM5 hb5
 go_enter Tryz.func115,Tryz.ntmps115
 go_upto_region 2 with (fail)
 rw [← hW5]
 clear hW5 x0 x1 x2 x3 q7 hfz hgl hbs
 by_cases hcq:cF=1
 ·have HQ1:=hide_ hcq
  have HTR6:=hide_ (show Reads w B 4 (some ad) RF.length (RF.flatMap fE) by have h:=HTR.out;rw [if_pos HQ1.out] at h;exact h)
  go_upto_region 3 with (fail)
  have hA6:=HA5.out.setF (.slice (some ad) rl (0))
  have hM6:=PrM.setOwn (B:=B) (w:=W5) HBG.out 7 (.slice (some ad) rl (0))
  obtain ⟨W6,hW6⟩:∃ W,W=W5.setCell ⟨g,7,none⟩ (.slice (some ad) rl (0)):=⟨_,rfl⟩
  rw [← hW6] at hA6 hM6 ⊢
  have k2:W6.cell? ⟨w.heap.size,2,none⟩=some (.string nm):=by rw [hW6,World.cell?_setCell_other _ _ _ _ (by intro e;injection e with e;exact hgw e.symm)];exact k2
  have k3:W6.cell? ⟨w.heap.size,3,none⟩=some (.int .u32 fadd):=by rw [hW6,World.cell?_setCell_other _ _ _ _ (by intro e;injection e with e;exact hgw e.symm)];exact k3
  have hlt6:w.heap.size<W6.heap.size:=by rw [hW6];simpa using hlt5
  have HM6:=hide_ (HM5.out.trans hM6)
  have HS6:=hide_ (show PrS B g o RL RF T W6 from ⟨p,aL,cL,some ad,0,HPI.out,by rw [HRL.out];exact hA6,HRR.out.1.below HM6.out.bel,HRR.out.2,HTR6.out.below HM6.out.bel,by have:=HRL.out;have:=HQ1.out;omega⟩)
  clear hW6 hA6 hM6 hlt5 q7' hfz' hgl'
  by_cases h0:fadd=0
  ·subst h0
   have HE:=hide_ (show fixTx ⟨fsec,fpl,nm,0⟩=nm by rw [fixTx,if_pos rfl])
   go_wp2
   go_ret
   exact ⟨by rw [HE.out];rfl,HS6.out,HM6.out⟩
  ·obtain ⟨mm,hm⟩:∃ m:Nat,fadd=(m:Int):=⟨fadd.toNat,by omega⟩
   have HE:=hide_ (show fixTx ⟨fsec,fpl,nm,fadd⟩=nm ++ ⟨#[43]⟩ ++ decT mm by rw [fixTx,if_neg h0];dsimp only;rw [hm,Int.toNat_natCast])
   have hds:=decT_size mm (by omega)
   have e0:(fadd == 0)=false:=by simpa using h0
   have w64:IntKind.u64.wrap fadd=fadd:=IntWalk.u64_in _ (by omega)
   have HU:Hid (∀ W,TabOk W→Calls Tryz.prog 75 #[.int .u64 fadd,.int .i64 10] W fun e w'=>e=.returned (.string (decT mm))∧Below W.heap.size W w'):=hide_ (fun W hW=>by rw [hm];exact Uint_any mm (by omega) W hW)
   obtain ⟨DD,hD⟩:∃ D,D=decT mm:=⟨_,rfl⟩
   rw [← hD] at HE HU hds
   have m1:¬ 9223372036854775807<nm.size+1:=by omega
   have m2:¬ 9223372036854775807<nm.size+1+DD.size:=by omega
   clear hD hm h0 hds
   have HTB:=hide_ (show ∀ d os,TabOk (Sort.grow (redrawn W6 d) os) from fun d os=>HT.out _ (HM6.out.bel.trans ((below_regrown W6 d os).mono HS6.out.low)))
   go_upto_region 5 with (fail)
   have cU:∀ d os,Calls Tryz.prog 75 #[.int .u64 fadd,.int .i64 10] (Sort.grow (redrawn W6 d) os) fun e w''=>e=.returned (.string DD)∧∃ p:Regrown,w''=Sort.grow (redrawn W6 p.d) p.os:=fun d os=>Calls.regrown_of (HU.out _ (HTB.out d os))
   replace k2:=cell_regrown k2
   replace k3:=cell_regrown k3
   refine wp_region_quiet_below (by kernel_rfl) (by kernel_rfl) ?_
   repeat (go_big_quiet_step ((exact cU _ _)))
   refine wpQuiet_nil ?_
   intro w8 hw'
   obtain ⟨⟨dq,osq⟩,hw''⟩:=hw'
   have hb8:Below W6.heap.size W6 w8:=by rw [hw''];exact below_regrown W6 dq osq
   have HS8:=hide_ (HS6.out.below hb8)
   have HM8:=hide_ (HM6.out.trans (PrM.of_below HS6.out.low hb8))
   clear hw'' k2 k3 cU hb8
   go_wp2
   go_ret
   exact ⟨by rw [HE.out];rfl,HS8.out,HM8.out⟩
 ·have HQ1:=hide_ hcq
  have HTR6:=hide_ (show Reads w B 4 (some ⟨ad.block,ad.off+4,none⟩) RF.length (RF.flatMap fE) by have h:=HTR.out;rw [if_neg HQ1.out] at h;exact h)
  go_upto_region 3 with (fail)
  have hA6:=HA5.out.setF (.slice (some ⟨ad.block,ad.off+4,none⟩) rl (cF - 1))
  have hM6:=PrM.setOwn (B:=B) (w:=W5) HBG.out 7 (.slice (some ⟨ad.block,ad.off+4,none⟩) rl (cF - 1))
  obtain ⟨W6,hW6⟩:∃ W,W=W5.setCell ⟨g,7,none⟩ (.slice (some ⟨ad.block,ad.off+4,none⟩) rl (cF - 1)):=⟨_,rfl⟩
  rw [← hW6] at hA6 hM6 ⊢
  have k2:W6.cell? ⟨w.heap.size,2,none⟩=some (.string nm):=by rw [hW6,World.cell?_setCell_other _ _ _ _ (by intro e;injection e with e;exact hgw e.symm)];exact k2
  have k3:W6.cell? ⟨w.heap.size,3,none⟩=some (.int .u32 fadd):=by rw [hW6,World.cell?_setCell_other _ _ _ _ (by intro e;injection e with e;exact hgw e.symm)];exact k3
  have hlt6:w.heap.size<W6.heap.size:=by rw [hW6];simpa using hlt5
  have HM6:=hide_ (HM5.out.trans hM6)
  have HS6:=hide_ (show PrS B g o RL RF T W6 from ⟨p,aL,cL,some ⟨ad.block,ad.off+4,none⟩,cF - 1,HPI.out,by rw [HRL.out];exact hA6,HRR.out.1.below HM6.out.bel,HRR.out.2,HTR6.out.below HM6.out.bel,by have:=HRL.out;have:=HQ1.out;omega⟩)
  clear hW6 hA6 hM6 hlt5 q7' hfz' hgl'
  by_cases h0:fadd=0
  ·subst h0
   have HE:=hide_ (show fixTx ⟨fsec,fpl,nm,0⟩=nm by rw [fixTx,if_pos rfl])
   go_wp2
   go_ret
   exact ⟨by rw [HE.out];rfl,HS6.out,HM6.out⟩
  ·obtain ⟨mm,hm⟩:∃ m:Nat,fadd=(m:Int):=⟨fadd.toNat,by omega⟩
   have HE:=hide_ (show fixTx ⟨fsec,fpl,nm,fadd⟩=nm ++ ⟨#[43]⟩ ++ decT mm by rw [fixTx,if_neg h0];dsimp only;rw [hm,Int.toNat_natCast])
   have hds:=decT_size mm (by omega)
   have e0:(fadd == 0)=false:=by simpa using h0
   have w64:IntKind.u64.wrap fadd=fadd:=IntWalk.u64_in _ (by omega)
   have HU:Hid (∀ W,TabOk W→Calls Tryz.prog 75 #[.int .u64 fadd,.int .i64 10] W fun e w'=>e=.returned (.string (decT mm))∧Below W.heap.size W w'):=hide_ (fun W hW=>by rw [hm];exact Uint_any mm (by omega) W hW)
   obtain ⟨DD,hD⟩:∃ D,D=decT mm:=⟨_,rfl⟩
   rw [← hD] at HE HU hds
   have m1:¬ 9223372036854775807<nm.size+1:=by omega
   have m2:¬ 9223372036854775807<nm.size+1+DD.size:=by omega
   clear hD hm h0 hds
   have HTB:=hide_ (show ∀ d os,TabOk (Sort.grow (redrawn W6 d) os) from fun d os=>HT.out _ (HM6.out.bel.trans ((below_regrown W6 d os).mono HS6.out.low)))
   go_upto_region 5 with (fail)
   have cU:∀ d os,Calls Tryz.prog 75 #[.int .u64 fadd,.int .i64 10] (Sort.grow (redrawn W6 d) os) fun e w''=>e=.returned (.string DD)∧∃ p:Regrown,w''=Sort.grow (redrawn W6 p.d) p.os:=fun d os=>Calls.regrown_of (HU.out _ (HTB.out d os))
   replace k2:=cell_regrown k2
   replace k3:=cell_regrown k3
   refine wp_region_quiet_below (by kernel_rfl) (by kernel_rfl) ?_
   repeat (go_big_quiet_step ((exact cU _ _)))
   refine wpQuiet_nil ?_
   intro w8 hw'
   obtain ⟨⟨dq,osq⟩,hw''⟩:=hw'
   have hb8:Below W6.heap.size W6 w8:=by rw [hw''];exact below_regrown W6 dq osq
   have HS8:=hide_ (HS6.out.below hb8)
   have HM8:=hide_ (HM6.out.trans (PrM.of_below HS6.out.low hb8))
   clear hw'' k2 k3 cU hb8
   go_wp2
   go_ret
   exact ⟨by rw [HE.out];rfl,HS8.out,HM8.out⟩
def minB (sec pl e:Int):Option (Int × Int)→Int
 | none=>e
 | some (s,a)=>if s=sec∧pl≤a then min e a else e
def untilV (RL:List LabV) (RF:List FixV) (sec pl e:Int):Int:=minB sec pl (minB sec pl e (RL.head?.map fun l=>(l.sec,l.at_))) (RF.head?.map fun f=>(f.sec,f.at_))
theorem minB_yes {sec pl e s a:Int} (h1:s=sec) (h2:pl≤a):minB sec pl e (some (s,a))=min e a:=if_pos ⟨h1,h2⟩
theorem minB_no {sec pl e s a:Int} (h:¬ (s=sec∧pl≤a)):minB sec pl e (some (s,a))=e:=if_neg h
set_option maxHeartbeats 8000000 in
theorem until_any (B g:Nat) (o:PO) (RL:List LabV) (RF:List FixV) (T:ByteArray) (sec pl e0:Int) (w:World) (h:PrS B g o RL RF T w) :
  Calls Tryz.prog 117 #[.pointer (some ⟨g,0,none⟩),.int .u8 sec,.int .u32 pl,.int .u32 e0] w fun e w'=>e=.returned (.int .u32 (untilV RL RF sec pl e0))∧w'=w:=by
 have hlow:=h.low
 obtain ⟨p,aL,cL,aF,cF,hp,hA,hR1,hc1,hR2,hc2⟩:=h
 have q6:=hA.c6
 have q7:=hA.c7
 have hgl:=hA.lt
 clear hA hp
 obtain ⟨nl,hnl⟩:∃ n,n=RL.length:=⟨_,rfl⟩
 obtain ⟨nf,hnf⟩:∃ n,n=RF.length:=⟨_,rfl⟩
 rw [← hnl] at q6 hR1 hc1
 rw [← hnf] at q7 hR2 hc2
 have HNL:=hide_ hnl
 have HNF:=hide_ hnf
 clear hnl hnf
 unfold untilV
 cases RL with
 | nil =>
  have i0:¬ (0:Int)<(nl:Int):=by have h:=HNL.out;rw [List.length_nil] at h;omega
  clear hR1 hc1
  cases RF with
  | nil =>
   have j0:¬ (0:Int)<(nf:Int):=by have h:=HNF.out;rw [List.length_nil] at h;omega
   clear hR2 hc2
   simp only [List.head?_nil,List.head?_cons,Option.map_none,Option.map_some]
   have HE:=hide_ (show minB sec pl (minB sec pl e0 (none)) (none)=e0 by
    rw [show minB sec pl e0 none=e0 from rfl,show minB sec pl e0 none=e0 from rfl])
   go_enter Tryz.func117,Tryz.ntmps117
   go_wp2
   go_ret
   exact ⟨by first | (rw [show (minB sec pl (minB sec pl e0 (none)) (none))=_ from HE.out];rfl) | (rw [show (minB sec pl (minB sec pl e0 (none)) (none))=_ from HE.out,Int.min_assoc];rfl),rfl⟩
  | cons f R2 =>
   have hn2:nf=R2.length+1:=HNF.out
   rw [hn2] at hR2
   have j0:(0:Int)<(nf:Int):=by omega
   clear hn2
   obtain ⟨fsec,fpl,fnm,fadd⟩:=f
   obtain ⟨ad2,rfl,hbk2,p2,p3⟩:=head_cells fE_len (by omega) hR2
   have y0:=p2 _ rfl
   have y1:=p3 1 _ (by omega) rfl
   simp only at y0 y1
   have hbs2:ad2.block<w.heap.size:=by omega
   clear p2 p3 hR2 hbk2
   simp only [List.head?_nil,List.head?_cons,Option.map_none,Option.map_some]
   by_cases g1:fsec=sec
   ·by_cases g2:pl≤fpl
    ·have g3:=g2
     have HE:=hide_ (show minB sec pl (minB sec pl e0 (none)) (some (fsec,fpl))=(min e0 fpl) by
      rw [show minB sec pl e0 none=e0 from rfl,minB_yes g1 g2])
     have b2:(fsec == sec)=true:=by simpa using g1
     clear g1
     go_enter Tryz.func117,Tryz.ntmps117
     go_wp2
     go_ret
     exact ⟨by first | (rw [show (minB sec pl (minB sec pl e0 (none)) (some (fsec,fpl)))=_ from HE.out];rfl) | (rw [show (minB sec pl (minB sec pl e0 (none)) (some (fsec,fpl)))=_ from HE.out,Int.min_assoc];rfl),rfl⟩
    ·have g3:=g2
     have HE:=hide_ (show minB sec pl (minB sec pl e0 (none)) (some (fsec,fpl))=e0 by
      rw [show minB sec pl e0 none=e0 from rfl,minB_no (fun h=>g2 h.2)])
     have b2:(fsec == sec)=true:=by simpa using g1
     clear g1
     go_enter Tryz.func117,Tryz.ntmps117
     go_wp2
     go_ret
     exact ⟨by first | (rw [show (minB sec pl (minB sec pl e0 (none)) (some (fsec,fpl)))=_ from HE.out];rfl) | (rw [show (minB sec pl (minB sec pl e0 (none)) (some (fsec,fpl)))=_ from HE.out,Int.min_assoc];rfl),rfl⟩
   ·have g3:=g1
    clear g3
    have HE:=hide_ (show minB sec pl (minB sec pl e0 (none)) (some (fsec,fpl))=e0 by
     rw [show minB sec pl e0 none=e0 from rfl,minB_no (fun h=>g1 h.1)])
    have b2:(fsec == sec)=false:=by simpa using g1
    clear g1
    go_enter Tryz.func117,Tryz.ntmps117
    go_wp2
    go_ret
    exact ⟨by first | (rw [show (minB sec pl (minB sec pl e0 (none)) (some (fsec,fpl)))=_ from HE.out];rfl) | (rw [show (minB sec pl (minB sec pl e0 (none)) (some (fsec,fpl)))=_ from HE.out,Int.min_assoc];rfl),rfl⟩
 | cons l R1 =>
  have hn1:nl=R1.length+1:=HNL.out
  rw [hn1] at hR1
  have i0:(0:Int)<(nl:Int):=by omega
  clear hn1
  obtain ⟨nm,lsec,lpl,lop⟩:=l
  obtain ⟨ad,rfl,hbk,p0,p1⟩:=head_cells lE_len (by omega) hR1
  have x1:=p1 1 _ (by omega) rfl
  have x2:=p1 2 _ (by omega) rfl
  simp only at x1 x2
  have hbs:ad.block<w.heap.size:=by omega
  clear p0 p1 hR1 hbk
  by_cases h1:lsec=sec
  ·by_cases h2:pl≤lpl
   ·have h3:=h2
    cases RF with
    | nil =>
     have j0:¬ (0:Int)<(nf:Int):=by have h:=HNF.out;rw [List.length_nil] at h;omega
     clear hR2 hc2
     simp only [List.head?_nil,List.head?_cons,Option.map_none,Option.map_some]
     have HE:=hide_ (show minB sec pl (minB sec pl e0 (some (lsec,lpl))) (none)=(min e0 lpl) by
      rw [minB_yes h1 h2,show minB sec pl (min e0 lpl) none=(min e0 lpl) from rfl])
     have b1:(lsec == sec)=true:=by simpa using h1
     clear h1
     go_enter Tryz.func117,Tryz.ntmps117
     go_wp2
     go_ret
     exact ⟨by first | (rw [show (minB sec pl (minB sec pl e0 (some (lsec,lpl))) (none))=_ from HE.out];rfl) | (rw [show (minB sec pl (minB sec pl e0 (some (lsec,lpl))) (none))=_ from HE.out,Int.min_assoc];rfl),rfl⟩
    | cons f R2 =>
     have hn2:nf=R2.length+1:=HNF.out
     rw [hn2] at hR2
     have j0:(0:Int)<(nf:Int):=by omega
     clear hn2
     obtain ⟨fsec,fpl,fnm,fadd⟩:=f
     obtain ⟨ad2,rfl,hbk2,p2,p3⟩:=head_cells fE_len (by omega) hR2
     have y0:=p2 _ rfl
     have y1:=p3 1 _ (by omega) rfl
     simp only at y0 y1
     have hbs2:ad2.block<w.heap.size:=by omega
     clear p2 p3 hR2 hbk2
     simp only [List.head?_nil,List.head?_cons,Option.map_none,Option.map_some]
     by_cases g1:fsec=sec
     ·by_cases g2:pl≤fpl
      ·have g3:=g2
       have HE:=hide_ (show minB sec pl (minB sec pl e0 (some (lsec,lpl))) (some (fsec,fpl))=(min (min e0 lpl) fpl) by
        rw [minB_yes h1 h2,minB_yes g1 g2])
       have b1:(lsec == sec)=true:=by simpa using h1
       have b2:(fsec == sec)=true:=by simpa using g1
       clear h1 g1
       go_enter Tryz.func117,Tryz.ntmps117
       go_wp2
       go_ret
       exact ⟨by first | (rw [show (minB sec pl (minB sec pl e0 (some (lsec,lpl))) (some (fsec,fpl)))=_ from HE.out];rfl) | (rw [show (minB sec pl (minB sec pl e0 (some (lsec,lpl))) (some (fsec,fpl)))=_ from HE.out,Int.min_assoc];rfl),rfl⟩
      ·have g3:=g2
       have HE:=hide_ (show minB sec pl (minB sec pl e0 (some (lsec,lpl))) (some (fsec,fpl))=(min e0 lpl) by
        rw [minB_yes h1 h2,minB_no (fun h=>g2 h.2)])
       have b1:(lsec == sec)=true:=by simpa using h1
       have b2:(fsec == sec)=true:=by simpa using g1
       clear h1 g1
       go_enter Tryz.func117,Tryz.ntmps117
       go_wp2
       go_ret
       exact ⟨by first | (rw [show (minB sec pl (minB sec pl e0 (some (lsec,lpl))) (some (fsec,fpl)))=_ from HE.out];rfl) | (rw [show (minB sec pl (minB sec pl e0 (some (lsec,lpl))) (some (fsec,fpl)))=_ from HE.out,Int.min_assoc];rfl),rfl⟩
     ·have g3:=g1
      clear g3
      have HE:=hide_ (show minB sec pl (minB sec pl e0 (some (lsec,lpl))) (some (fsec,fpl))=(min e0 lpl) by
       rw [minB_yes h1 h2,minB_no (fun h=>g1 h.1)])
      have b1:(lsec == sec)=true:=by simpa using h1
      have b2:(fsec == sec)=false:=by simpa using g1
      clear h1 g1
      go_enter Tryz.func117,Tryz.ntmps117
      go_wp2
      go_ret
      exact ⟨by first | (rw [show (minB sec pl (minB sec pl e0 (some (lsec,lpl))) (some (fsec,fpl)))=_ from HE.out];rfl) | (rw [show (minB sec pl (minB sec pl e0 (some (lsec,lpl))) (some (fsec,fpl)))=_ from HE.out,Int.min_assoc];rfl),rfl⟩
   ·have h3:=h2
    cases RF with
    | nil =>
     have j0:¬ (0:Int)<(nf:Int):=by have h:=HNF.out;rw [List.length_nil] at h;omega
     clear hR2 hc2
     simp only [List.head?_nil,List.head?_cons,Option.map_none,Option.map_some]
     have HE:=hide_ (show minB sec pl (minB sec pl e0 (some (lsec,lpl))) (none)=e0 by
      rw [minB_no (e:=e0) (fun h=>h2 h.2),show minB sec pl e0 none=e0 from rfl])
     have b1:(lsec == sec)=true:=by simpa using h1
     clear h1
     go_enter Tryz.func117,Tryz.ntmps117
     go_wp2
     go_ret
     exact ⟨by first | (rw [show (minB sec pl (minB sec pl e0 (some (lsec,lpl))) (none))=_ from HE.out];rfl) | (rw [show (minB sec pl (minB sec pl e0 (some (lsec,lpl))) (none))=_ from HE.out,Int.min_assoc];rfl),rfl⟩
    | cons f R2 =>
     have hn2:nf=R2.length+1:=HNF.out
     rw [hn2] at hR2
     have j0:(0:Int)<(nf:Int):=by omega
     clear hn2
     obtain ⟨fsec,fpl,fnm,fadd⟩:=f
     obtain ⟨ad2,rfl,hbk2,p2,p3⟩:=head_cells fE_len (by omega) hR2
     have y0:=p2 _ rfl
     have y1:=p3 1 _ (by omega) rfl
     simp only at y0 y1
     have hbs2:ad2.block<w.heap.size:=by omega
     clear p2 p3 hR2 hbk2
     simp only [List.head?_nil,List.head?_cons,Option.map_none,Option.map_some]
     by_cases g1:fsec=sec
     ·by_cases g2:pl≤fpl
      ·have g3:=g2
       have HE:=hide_ (show minB sec pl (minB sec pl e0 (some (lsec,lpl))) (some (fsec,fpl))=(min e0 fpl) by
        rw [minB_no (e:=e0) (fun h=>h2 h.2),minB_yes g1 g2])
       have b1:(lsec == sec)=true:=by simpa using h1
       have b2:(fsec == sec)=true:=by simpa using g1
       clear h1 g1
       go_enter Tryz.func117,Tryz.ntmps117
       go_wp2
       go_ret
       exact ⟨by first | (rw [show (minB sec pl (minB sec pl e0 (some (lsec,lpl))) (some (fsec,fpl)))=_ from HE.out];rfl) | (rw [show (minB sec pl (minB sec pl e0 (some (lsec,lpl))) (some (fsec,fpl)))=_ from HE.out,Int.min_assoc];rfl),rfl⟩
      ·have g3:=g2
       have HE:=hide_ (show minB sec pl (minB sec pl e0 (some (lsec,lpl))) (some (fsec,fpl))=e0 by
        rw [minB_no (e:=e0) (fun h=>h2 h.2),minB_no (fun h=>g2 h.2)])
       have b1:(lsec == sec)=true:=by simpa using h1
       have b2:(fsec == sec)=true:=by simpa using g1
       clear h1 g1
       go_enter Tryz.func117,Tryz.ntmps117
       go_wp2
       go_ret
       exact ⟨by first | (rw [show (minB sec pl (minB sec pl e0 (some (lsec,lpl))) (some (fsec,fpl)))=_ from HE.out];rfl) | (rw [show (minB sec pl (minB sec pl e0 (some (lsec,lpl))) (some (fsec,fpl)))=_ from HE.out,Int.min_assoc];rfl),rfl⟩
     ·have g3:=g1
      clear g3
      have HE:=hide_ (show minB sec pl (minB sec pl e0 (some (lsec,lpl))) (some (fsec,fpl))=e0 by
       rw [minB_no (e:=e0) (fun h=>h2 h.2),minB_no (fun h=>g1 h.1)])
      have b1:(lsec == sec)=true:=by simpa using h1
      have b2:(fsec == sec)=false:=by simpa using g1
      clear h1 g1
      go_enter Tryz.func117,Tryz.ntmps117
      go_wp2
      go_ret
      exact ⟨by first | (rw [show (minB sec pl (minB sec pl e0 (some (lsec,lpl))) (some (fsec,fpl)))=_ from HE.out];rfl) | (rw [show (minB sec pl (minB sec pl e0 (some (lsec,lpl))) (some (fsec,fpl)))=_ from HE.out,Int.min_assoc];rfl),rfl⟩
  ·have h3:=h1
   clear h3
   cases RF with
   | nil =>
    have j0:¬ (0:Int)<(nf:Int):=by have h:=HNF.out;rw [List.length_nil] at h;omega
    clear hR2 hc2
    simp only [List.head?_nil,List.head?_cons,Option.map_none,Option.map_some]
    have HE:=hide_ (show minB sec pl (minB sec pl e0 (some (lsec,lpl))) (none)=e0 by
     rw [minB_no (e:=e0) (fun h=>h1 h.1),show minB sec pl e0 none=e0 from rfl])
    have b1:(lsec == sec)=false:=by simpa using h1
    clear h1
    go_enter Tryz.func117,Tryz.ntmps117
    go_wp2
    go_ret
    exact ⟨by first | (rw [show (minB sec pl (minB sec pl e0 (some (lsec,lpl))) (none))=_ from HE.out];rfl) | (rw [show (minB sec pl (minB sec pl e0 (some (lsec,lpl))) (none))=_ from HE.out,Int.min_assoc];rfl),rfl⟩
   | cons f R2 =>
    have hn2:nf=R2.length+1:=HNF.out
    rw [hn2] at hR2
    have j0:(0:Int)<(nf:Int):=by omega
    clear hn2
    obtain ⟨fsec,fpl,fnm,fadd⟩:=f
    obtain ⟨ad2,rfl,hbk2,p2,p3⟩:=head_cells fE_len (by omega) hR2
    have y0:=p2 _ rfl
    have y1:=p3 1 _ (by omega) rfl
    simp only at y0 y1
    have hbs2:ad2.block<w.heap.size:=by omega
    clear p2 p3 hR2 hbk2
    simp only [List.head?_nil,List.head?_cons,Option.map_none,Option.map_some]
    by_cases g1:fsec=sec
    ·by_cases g2:pl≤fpl
     ·have g3:=g2
      have HE:=hide_ (show minB sec pl (minB sec pl e0 (some (lsec,lpl))) (some (fsec,fpl))=(min e0 fpl) by
       rw [minB_no (e:=e0) (fun h=>h1 h.1),minB_yes g1 g2])
      have b1:(lsec == sec)=false:=by simpa using h1
      have b2:(fsec == sec)=true:=by simpa using g1
      clear h1 g1
      go_enter Tryz.func117,Tryz.ntmps117
      go_wp2
      go_ret
      exact ⟨by first | (rw [show (minB sec pl (minB sec pl e0 (some (lsec,lpl))) (some (fsec,fpl)))=_ from HE.out];rfl) | (rw [show (minB sec pl (minB sec pl e0 (some (lsec,lpl))) (some (fsec,fpl)))=_ from HE.out,Int.min_assoc];rfl),rfl⟩
     ·have g3:=g2
      have HE:=hide_ (show minB sec pl (minB sec pl e0 (some (lsec,lpl))) (some (fsec,fpl))=e0 by
       rw [minB_no (e:=e0) (fun h=>h1 h.1),minB_no (fun h=>g2 h.2)])
      have b1:(lsec == sec)=false:=by simpa using h1
      have b2:(fsec == sec)=true:=by simpa using g1
      clear h1 g1
      go_enter Tryz.func117,Tryz.ntmps117
      go_wp2
      go_ret
      exact ⟨by first | (rw [show (minB sec pl (minB sec pl e0 (some (lsec,lpl))) (some (fsec,fpl)))=_ from HE.out];rfl) | (rw [show (minB sec pl (minB sec pl e0 (some (lsec,lpl))) (some (fsec,fpl)))=_ from HE.out,Int.min_assoc];rfl),rfl⟩
    ·have g3:=g1
     clear g3
     have HE:=hide_ (show minB sec pl (minB sec pl e0 (some (lsec,lpl))) (some (fsec,fpl))=e0 by
      rw [minB_no (e:=e0) (fun h=>h1 h.1),minB_no (fun h=>g1 h.1)])
     have b1:(lsec == sec)=false:=by simpa using h1
     have b2:(fsec == sec)=false:=by simpa using g1
     clear h1 g1
     go_enter Tryz.func117,Tryz.ntmps117
     go_wp2
     go_ret
     exact ⟨by first | (rw [show (minB sec pl (minB sec pl e0 (some (lsec,lpl))) (some (fsec,fpl)))=_ from HE.out];rfl) | (rw [show (minB sec pl (minB sec pl e0 (some (lsec,lpl))) (some (fsec,fpl)))=_ from HE.out,Int.min_assoc];rfl),rfl⟩
end Go.Proofs.YtikbegmodacopaaGreatDoor
namespace Go.Proofs.YtikbegmodacopaaGreatDoor
open Go.RowKit Go.PlainAid Go.BigFrame
set_option linter.unusedSimpArgs false
set_option linter.unusedVariables false
set_option maxRecDepth 100000
def poOf (x:ObjV) (s:ObjS):PO:=⟨.slice s.c.A x.code.length s.c.c,.slice s.d.A x.data.length s.d.c,.int .u32 x.zero,.int .u32 x.stack,.slice s.t.A x.targets.length s.t.c,.slice s.e.A x.entries.length s.e.c⟩
def SecPost (B g:Nat) (x:ObjV) (s:ObjS) (T:ByteArray) (sec:Int) (w w':World):Prop :=
 ∃ RL RF,PrS B g (poOf x s) RL RF T w'∧LeftL x.labels RL sec 0∧LeftF x.fixes RF sec 0∧PrM B g w w'
theorem PrS.c2 {B g:Nat} {x:ObjV} {s:ObjS} {RL:List LabV} {RF:List FixV} {T:ByteArray} {w:World} (h:PrS B g (poOf x s) RL RF T w):w.cell? ⟨g,2,none⟩=some (.slice s.c.A x.code.length s.c.c):=by
 obtain ⟨_,_,_,_,_,_,h,_⟩:=h;exact h.c2
theorem PrS.c3 {B g:Nat} {x:ObjV} {s:ObjS} {RL:List LabV} {RF:List FixV} {T:ByteArray} {w:World} (h:PrS B g (poOf x s) RL RF T w):w.cell? ⟨g,3,none⟩=some (.slice s.d.A x.data.length s.d.c):=by
 obtain ⟨_,_,_,_,_,_,h,_⟩:=h;exact h.c3
theorem PrS.c4 {B g:Nat} {x:ObjV} {s:ObjS} {RL:List LabV} {RF:List FixV} {T:ByteArray} {w:World} (h:PrS B g (poOf x s) RL RF T w):w.cell? ⟨g,4,none⟩=some (.int .u32 x.zero):=by
 obtain ⟨_,_,_,_,_,_,h,_⟩:=h;exact h.c4
theorem blk_below {W W':World} {m:Nat} {t:TypeId} {cs:Array Value} (h:W.heap[m]?=some (.cells cs t (0,0))) (hb:Below W.heap.size W W'):W'.heap[m]?=some (.cells cs t (0,0)) :=
 (hb.block m (Array.getElem?_eq_some_iff.1 h).1).trans h
theorem blk_lt {W:World} {m:Nat} {o:Obj} (h:W.heap[m]?=some o):m<W.heap.size:=(Array.getElem?_eq_some_iff.1 h).1
set_option maxHeartbeats 16000000 in
theorem pcode_any (x:ObjV) (s:ObjS) (B g:Nat) (T:ByteArray) (w:World) (hx:ObjOk x) (hok:okB x=true) (hr:ObjR w B x s) (h:PrS B g (poOf x s) x.labels x.fixes T w) (hTb:∀ W,Below B w W→TabOk W)
  (hz:T.size+(codeT x).size≤140737488351232) :
  Calls Tryz.prog 83 #[.pointer (some ⟨g,0,none⟩)] w fun e w'=>e=.returned (.tuple #[])∧SecPost B g x s (T ++ codeT x) 2 w w':=by
 have HRC:=hide_ hr.rc
 have HTB:=hide_ hTb
 have HX:=hide_ hx
 have HOK:=hide_ hok
 have HBL:=hide_ h.low
 have HBG:=hide_ h.base
 have hnb:=(boundB_iff.1 (okB_parts hok).1).1
 obtain ⟨n,hn⟩:∃ n,n=x.code.length:=⟨_,rfl⟩
 have HN:=hide_ hn.symm
 rw [← hn] at hnb
 obtain ⟨TT,hTT⟩:∃ t,t=T ++ codeT x:=⟨_,rfl⟩
 have HZ:=hide_ (show TT.size≤140737488351232 by rw [hTT,ba_size];exact hz)
 have HTT:=hide_ hTT.symm
 obtain ⟨⟨cA,cc⟩,sd,sl,sf,st,se⟩:=s
 have hc2:=h.c2
 dsimp only at HRC hc2
 rw [← hn] at HRC hc2
 have HS0:=hide_ (h.alloc (.cells #[.string ⟨#[99,111,100,101]⟩] 9))
 have HB0:=hide_ (heap_alloc_new w (.cells #[.string ⟨#[99,111,100,101]⟩] 9))
 have HQ0:=hide_ (show T.size+(cat [⟨#[99,111,100,101]⟩]).size+1≤140737488355328 by
  have h1:(codeT x).size=5+(codeR x x.code.length 0).size:=by rw [codeT,ba_size];rfl
  have h2:(cat [⟨#[99,111,100,101]⟩]).size=4:=rfl
  omega)
 have HM0:=hide_ (PrM.alloc (g:=g) h.low (.cells #[.string ⟨#[99,111,100,101]⟩] 9))
 obtain ⟨po,hpo⟩:∃ p,p=poOf x ⟨⟨cA,cc⟩,sd,sl,sf,st,se⟩:=⟨_,rfl⟩
 have HC2:Hid (∀ RL RF T W,PrS B g po RL RF T W→W.cell? ⟨g,2,none⟩=some (.slice cA n cc)):=hide_ (fun RL RF T W hS=>by rw [hpo] at hS;have h:=hS.c2;dsimp only at h;rw [← hn] at h;exact h)
 unfold SecPost
 rw [← hpo] at HS0
 rw [← hpo,← hTT]
 have HPO:=hide_ hpo
 clear h hr hTb hz hok hx hn hTT hpo hc2
 go_enter Tryz.func83,Tryz.ntmps83
 go_wp2_with fail
 refine (line_any B g w.heap.size _ _ _ T [⟨#[99,111,100,101]⟩] 1 _ HS0.out HB0.out rfl (by decide) HQ0.out).mono ?_
 rintro e w1 ⟨rfl,hS1,hM1⟩
 have HM1:=hide_ (HM0.out.trans hM1)
 have HT1:=hide_ (show (T ++ (cat [⟨#[99,111,100,101]⟩] ++ ⟨#[10]⟩)) ++ codeR x (n - 0) 0=TT by
  rw [← HTT.out,codeT,HN.out]
  simp only [ba_assoc,Nat.sub_zero]
  rfl)
 have c2:=HC2.out _ _ _ _ hS1
 have hgl:=hS1.lt
 have HS1:=hide_ hS1
 have HL1:=hide_ (LeftL.start HOK.out HX.out)
 have HF1:=hide_ (LeftF.start HOK.out HX.out)
 clear hS1 hM1 HS0 HB0 HQ0 HM0
 go_wp2
 go_loopw [15] (fun i wr=>∃ (k:Nat) (RL:List LabV) (RF:List FixV) (S:ByteArray),k≤n∧i=.int .i64 k∧Hid (PrS B g po RL RF S wr)∧Hid (S ++ codeR x (n - k) k=TT)∧Hid (LeftL x.labels RL 1 k)∧Hid (LeftF x.fixes RF 1 k)∧Hid (PrM B g w wr)) (fun i _=>n - (intOf i).toNat)
 case atStart=>exact ⟨0,_,_,_,Nat.zero_le _,rfl,HS1,HT1,HL1,HF1,HM1⟩
 case round =>
  clear HS1 HT1 HL1 HF1 HM1 c2 hgl
  obtain ⟨k,RL,RF,S,hk,rfl,HS,HT,HL,HF,HM⟩:=hrel
  by_cases hlt:k<n
  ·obtain ⟨⟨op,arg⟩,ht⟩:∃ t,x.code[k]?=some t:=⟨_,List.getElem?_eq_getElem (by have:=HN.out;omega)⟩
   have hop:=HX.out.code _ (List.mem_of_getElem? ht)
   obtain ⟨⟨q0,q1⟩,a0,a1⟩:=hop
   simp only at q0 q1 a0 a1
   obtain ⟨_,ad,rfl,hbk,p0,p1⟩:=el_cells cE_len HRC.out (by omega) ht
   have x0:=(HM.out.bel.cell (p:=ad.add (k * 2)) hbk).trans (p0 _ rfl)
   have x1:=(HM.out.bel.cell (p:=⟨(ad.add (k * 2)).block,(ad.add (k * 2)).off+1,none⟩) hbk).trans (p1 1 _ (by omega) rfl)
   simp only at x0 x1
   have hbs:(ad.add (k * 2)).block<wr.heap.size:=by have:=HS.out.low;omega
   have HI:=hide_ (fun W=>Info_any op W)
   have HSG:=hide_ (fun W hW=>Signed_any arg a0 a1 W hW)
   have HCK:=hide_ ht
   have hT:=HT.out
   rw [show n - k=(n - (k+1))+1 by omega,codeR,insT_at ht,HL.out.atL_eq,HF.out.fixT_eq] at hT
   obtain ⟨r,hr⟩:∃ r,r=opR op:=⟨_,rfl⟩
   have HR:=hide_ hr
   unfold opV at HI
   rw [← hr] at HI hT
   clear hr p0 p1 ht q0 q1 a0 a1
   obtain ⟨rw_,rwid,rmost,rtk,rgv,rkd⟩:=r
   unfold opCells at HI
   simp only at HI hT
   obtain ⟨wd,hwd⟩:∃ d:ByteArray,d=⟨rw_.toArray⟩:=⟨_,rfl⟩
   obtain ⟨sg,hsg⟩:∃ a,a=sgnT arg:=⟨_,rfl⟩
   obtain ⟨rest,hrest⟩:∃ a,a=codeR x (n - (k+1)) (k+1):=⟨_,rfl⟩
   rw [← hwd] at HI hT
   rw [← hsg] at HSG hT
   rw [← hrest] at hT
   have HREST:=hide_ hrest
   have HTX:=hide_ hT
   have hss:=congrArg ByteArray.size hT
   simp only [ba_size] at hss
   have HQ1:=hide_ (show S.size+(atL RL 1 k).size≤140737488351232 by have:=HZ.out;omega)
   have wk:IntKind.u32.wrap (k:Int)=(k:Int):=IntWalk.u32_in _ (by omega)
   have HS3:=hide_ (HS.out.alloc (.cells #[.int .u8 op,.int .u32 arg] 66))
   have HM3:=hide_ (HM.out.trans (PrM.alloc HS.out.low (.cells #[.int .u8 op,.int .u32 arg] 66)))
   have HI3:=hide_ (heap_alloc_new wr (.cells #[.int .u8 op,.int .u32 arg] 66))
   clear hT hss hwd hsg hrest hbk
   go_wp2_with fail
   refine (pat_any B g po RL RF S 1 (k:Int) _ HS3.out HL.out.rise HL.out.rest HQ1.out).mono ?_
   rintro e w4 ⟨rfl,RL4,hS4,hL4,hM4⟩
   have HI4:=hide_ (hM4.blk HI3.out (HS3.out.ne_blk HI3.out (by decide)) (by decide))
   have HM4:=hide_ (HM3.out.trans hM4)
   have HL4:=hide_ (hL4 _ HL.out)
   have HS4:=hide_ hS4
   have i0:w4.cell? ⟨wr.heap.size,0,none⟩=some (.int .u8 op):=cell_of_row w4 _ 0 _ _ _ HI4.out
   have hil:=blk_lt HI4.out
   clear hS4 hL4 hM4 x0 x1 hbs HS3 HM3 HI3
   go_wp2_with fail
   refine (HI.out _).mono ?_
   rintro e w5 ⟨rfl,hb5⟩
   have HI5:=hide_ (blk_below HI4.out hb5)
   have HS5:=hide_ (HS4.out.below hb5)
   have HM5:=hide_ (HM4.out.trans (PrM.of_below HS4.out.low hb5))
   have HS6:=hide_ (HS5.out.alloc (.cells #[.string wd,.int .i64 rwid,.int .u32 rmost,.int .i64 rtk,.int .i64 rgv,.int .u8 rkd] 114))
   have HM6:=hide_ (HM5.out.trans (PrM.alloc HS5.out.low (.cells #[.string wd,.int .i64 rwid,.int .u32 rmost,.int .i64 rtk,.int .i64 rgv,.int .u8 rkd] 114)))
   have HI6:=hide_ (blk_below HI5.out ((Below.refl w5.heap.size w5).alloc (Nat.le_refl _) (.cells #[.string wd,.int .i64 rwid,.int .u32 rmost,.int .i64 rtk,.int .i64 rgv,.int .u8 rkd] 114)))
   have HK6:=hide_ (heap_alloc_new w5 (.cells #[.string wd,.int .i64 rwid,.int .u32 rmost,.int .i64 rtk,.int .i64 rgv,.int .u8 rkd] 114))
   clear hb5 i0 hil
   obtain ⟨w6,hw6⟩:∃ W,W=w5.alloc (.cells #[.string wd,.int .i64 rwid,.int .u32 rmost,.int .i64 rtk,.int .i64 rgv,.int .u8 rkd] 114):=⟨_,rfl⟩
   go_upto_region 7 with (fail)
   rw [← hw6] at HS6 HM6 HI6 HK6 ⊢
   clear hw6 HS5 HM5 HI5 HI4 HS4 HM4
   go_wp2_with fail
   refine (here_any B g po RL4 RF _ 1 (k:Int) w6 HS6.out).mono ?_
   rintro e w7 ⟨rfl,rfl⟩
   have kw:w7.cell? ⟨w5.heap.size,0,none⟩=some (.string wd):=cell_of_row w7 _ 0 _ _ _ HK6.out
   have kwid:w7.cell? ⟨w5.heap.size,1,none⟩=some (.int .i64 rwid):=cell_of_row w7 _ 1 _ _ _ HK6.out
   have karg:w7.cell? ⟨wr.heap.size,1,none⟩=some (.int .u32 arg):=cell_of_row w7 _ 1 _ _ _ HI6.out
   have hkl:=blk_lt HK6.out
   have hil:=blk_lt HI6.out
   obtain ⟨hb,hhb⟩:∃ b,b=hereB RF 1 (k:Int):=⟨_,rfl⟩
   rw [← hhb]
   have HHB:=hide_ hhb.symm
   clear hhb
   cases hb
   ·
    have HFX:=hide_ (show fixT RF 1 (k:Int)=e0B from fixT_none HF.out (fun f hf=>by
     have h:=HHB.out
     cases RF with
     | nil=>cases hf
     | cons f' R'=>cases hf;exact h))
    have HFN:=hide_ (HF.out.past (fun f hf=>by
     have h:=HHB.out
     cases RF with
     | nil=>cases hf
     | cons f' R'=>cases hf;exact h))
    by_cases hw:0<rwid
    ·have hwi:(0:Int)<(rwid:Int):=by omega
     have HTY:=hide_ (show (S ++ atL RL 1 k) ++ (cat [⟨#[9]⟩,wd,⟨#[32]⟩,sg] ++ ⟨#[10]⟩) ++ rest=TT by
      rw [← HTX.out,HFX.out,if_pos hw,if_pos rfl]
      simp only [cat,ba_nil,ba_assoc])
     have HQ2:=hide_ (show (S ++ atL RL 1 k).size+(cat [⟨#[9]⟩,wd,⟨#[32]⟩,sg]).size+1≤140737488355328 by
      have h1:=congrArg ByteArray.size HTY.out
      rw [ba_size,ba_size,ba_size (cat _)] at h1
      have:(⟨#[10]⟩:ByteArray).size=1:=rfl
      have:=HZ.out
      omega)
     clear hw
     go_upto_region 10 with (fail)
     go_region_held3 (fun W=>W.cell? ⟨w5.heap.size,0,none⟩=some (.string wd)∧W.cell? ⟨wr.heap.size,1,none⟩=some (.int .u32 arg))
      (first | exact ⟨kw,karg⟩ | exact ⟨cell_of_row w8 _ 0 _ _ _ HK8.out,cell_of_row w8 _ 1 _ _ _ HI8.out⟩ | exact ⟨cell_of_row _ _ 0 _ _ _ HKA.out,cell_of_row _ _ 1 _ _ _ HIA.out⟩ | exact ⟨cell_of_row w9 _ 0 _ _ _ HK9.out,cell_of_row w9 _ 1 _ _ _ HI9.out⟩ | go_keep)
      (first
        | (go_at_call 67;refine (HSG.out _ (HTB.out _ HM6.out.bel.drew)).mono ?_;rintro e w8 ⟨rfl,hb8⟩;have hbd:Below w7.heap.size w7 w8:=(Below.refl w7.heap.size w7).drew.trans hb8;have HK8:=hide_ (blk_below HK6.out hbd);have HI8:=hide_ (blk_below HI6.out hbd);have HS8:=hide_ (HS6.out.below hbd);have HM8:=hide_ (HM6.out.trans (PrM.of_below HS6.out.low hbd));clear hb8 hbd;have HSA:=hide_ (HS8.out.alloc (.cells #[.string ⟨#[9]⟩,.string wd,.string ⟨#[32]⟩,.string sg] 9));have HBA:=hide_ (heap_alloc_new w8 (.cells #[.string ⟨#[9]⟩,.string wd,.string ⟨#[32]⟩,.string sg] 9));have HMA:=hide_ (HM8.out.trans (PrM.alloc HS8.out.low (.cells #[.string ⟨#[9]⟩,.string wd,.string ⟨#[32]⟩,.string sg] 9)));have HKA:=hide_ (blk_below HK8.out ((Below.refl w8.heap.size w8).alloc (Nat.le_refl _) (.cells #[.string ⟨#[9]⟩,.string wd,.string ⟨#[32]⟩,.string sg] 9)));have HIA:=hide_ (blk_below HI8.out ((Below.refl w8.heap.size w8).alloc (Nat.le_refl _) (.cells #[.string ⟨#[9]⟩,.string wd,.string ⟨#[32]⟩,.string sg] 9))))
        | (go_at_call 112;refine (line_any B g w8.heap.size _ _ _ _ [⟨#[9]⟩,wd,⟨#[32]⟩,sg] 4 _ HSA.out HBA.out rfl (by decide) HQ2.out).mono ?_;rintro e w9 ⟨rfl,hS9,hM9⟩;have HK9:=hide_ (hM9.blk HKA.out (HSA.out.ne_blk HKA.out (by decide)) (by decide));have HI9:=hide_ (hM9.blk HIA.out (HSA.out.ne_blk HIA.out (by decide)) (by decide));have HS9:=hide_ hS9;have HM9:=hide_ (HMA.out.trans hM9);clear hS9 hM9))
     have HTE:=hide_ (show (S ++ atL RL 1 k ++ (cat [⟨#[9]⟩,wd,⟨#[32]⟩,sg] ++ ⟨#[10]⟩)) ++ codeR x (n - (k+1)) (k+1)=TT by rw [← HREST.out];exact HTY.out)
     clear kw kwid karg hkl hil
     go_wp2
     go_roundw
     case rel=>exact ⟨k+1,_,_,_,by omega,by go_num,HS9,HTE,HL4,HFN,HM9⟩
     case measure=>simp [intOf];omega
    ·have hwi:¬ (0:Int)<(rwid:Int):=by omega
     have HTY:=hide_ (show (S ++ atL RL 1 k) ++ (cat [⟨#[9]⟩,wd] ++ ⟨#[10]⟩) ++ rest=TT by
      rw [← HTX.out,HFX.out,if_neg hw]
      simp only [cat,ba_nil,ba_assoc])
     have HQ2:=hide_ (show (S ++ atL RL 1 k).size+(cat [⟨#[9]⟩,wd]).size+1≤140737488355328 by
      have h1:=congrArg ByteArray.size HTY.out
      rw [ba_size,ba_size,ba_size (cat _)] at h1
      have:(⟨#[10]⟩:ByteArray).size=1:=rfl
      have:=HZ.out
      omega)
     have HS8:=hide_ (HS6.out.alloc (.cells #[.string ⟨#[9]⟩,.string wd] 9))
     have HB8:=hide_ (heap_alloc_new w7 (.cells #[.string ⟨#[9]⟩,.string wd] 9))
     have HM8:=hide_ (HM6.out.trans (PrM.alloc HS6.out.low (.cells #[.string ⟨#[9]⟩,.string wd] 9)))
     clear hw
     go_wp2_with fail
     refine (line_any B g w7.heap.size _ _ _ _ [⟨#[9]⟩,wd] 2 _ HS8.out HB8.out rfl (by decide) HQ2.out).mono ?_
     rintro e w9 ⟨rfl,hS9,hM9⟩
     have HS9:=hide_ hS9
     have HM9:=hide_ (HM8.out.trans hM9)
     have HTE:=hide_ (show (S ++ atL RL 1 k ++ (cat [⟨#[9]⟩,wd] ++ ⟨#[10]⟩)) ++ codeR x (n - (k+1)) (k+1)=TT by rw [← HREST.out];exact HTY.out)
     clear hS9 hM9 kw kwid karg hkl hil
     go_wp2
     go_roundw
     case rel=>exact ⟨k+1,_,_,_,by omega,by go_num,HS9,HTE,HL4,HFN,HM9⟩
     case measure=>simp [intOf];omega
   ·
    obtain ⟨f,RF2,hRF⟩:∃ f R,RF=f :: R:=by
     have h:=HHB.out
     cases RF with
     | nil=>cases h
     | cons f R=>exact ⟨f,R,rfl⟩
    subst hRF
    have hfa:fixAtB 1 (k:Int) f=true:=HHB.out
    have hmem:=HF.out.mem (List.mem_cons_self ..)
    have hfo:=HX.out.fixes _ hmem
    have HFA:=hide_ (And.intro hfo.1 hfo.2.2.2)
    have HFN:=hide_ (show LeftF x.fixes RF2 1 ((k:Int)+1) by have h:=HF.out.take hfa;rw [if_neg (by decide)] at h;exact h)
    have hwid:0<rwid:=by
     unfold fixAtB at hfa
     rw [Bool.and_eq_true,decide_eq_true_eq,decide_eq_true_eq] at hfa
     rcases fix_place HOK.out hmem with ⟨_,t,h1,h2⟩ | ⟨h1,_⟩
     ·rw [hfa.2,Int.toNat_natCast,HCK.out] at h1
      injection h1 with h1
      subst h1
      rw [← HR.out] at h2
      exact h2
     ·rw [hfa.1] at h1;cases h1
    have HTY:=hide_ (show (S ++ atL RL 1 k) ++ (cat [⟨#[9]⟩,wd,⟨#[32]⟩,fixTx f] ++ ⟨#[10]⟩) ++ rest=TT by
     rw [← HTX.out,if_pos hwid,fixT_here hfa,if_neg (fixTx_ne (name_some (fix_facts HOK.out hmem).1))]
     simp only [cat,ba_nil,ba_assoc])
    have HQ2:=hide_ (show (S ++ atL RL 1 k).size+(cat [⟨#[9]⟩,wd,⟨#[32]⟩,fixTx f]).size+1≤140737488355328 by
     have h1:=congrArg ByteArray.size HTY.out
     rw [ba_size,ba_size,ba_size (cat _)] at h1
     have:(⟨#[10]⟩:ByteArray).size=1:=rfl
     have:=HZ.out
     omega)
    have HSD:=hide_ (show PrS B g po RL4 (f :: RF2) (S ++ atL RL 1 k) w7.drew from HS6.out.below (Below.refl _ _).drew)
    have HKD:=hide_ (show w7.drew.heap[w5.heap.size]?=_ from HK6.out)
    have HID:=hide_ (show w7.drew.heap[wr.heap.size]?=_ from HI6.out)
    clear hfa hmem hfo hwid
    go_upto_region 8 with (fail)
    go_region_held3 (fun W=>W.cell? ⟨w5.heap.size,0,none⟩=some (.string wd))
     (first | exact kw | exact (cell_of_row w8 _ 0 _ _ _ HK8.out) | exact (cell_of_row _ _ 0 _ _ _ HKA.out) | exact (cell_of_row w9 _ 0 _ _ _ HK9.out) | go_keep)
     (first
       | (go_at_call 115;refine (pfix_any B g po RL4 RF2 f _ _ (HSD.out) HFA.out.1 HFA.out.2 (fun W hW=>HTB.out W (HM6.out.bel.drew.trans hW))).mono ?_;rintro e w8 ⟨rfl,hS8,hM8⟩;have HK8:=hide_ (hM8.blk HKD.out (HSD.out.ne_blk HKD.out (by decide)) (by decide));have HI8:=hide_ (hM8.blk HID.out (HSD.out.ne_blk HID.out (by decide)) (by decide));have HS8:=hide_ hS8;have HM8:=hide_ ((PrM.mk HM6.out.bel.drew HM6.out.kept.drew).trans hM8);clear hS8 hM8;have HSA:=hide_ (HS8.out.alloc (.cells #[.string ⟨#[9]⟩,.string wd,.string ⟨#[32]⟩,.string (fixTx f)] 9));have HBA:=hide_ (heap_alloc_new w8 (.cells #[.string ⟨#[9]⟩,.string wd,.string ⟨#[32]⟩,.string (fixTx f)] 9));have HMA:=hide_ (HM8.out.trans (PrM.alloc HS8.out.low (.cells #[.string ⟨#[9]⟩,.string wd,.string ⟨#[32]⟩,.string (fixTx f)] 9)));have HKA:=hide_ (blk_below HK8.out ((Below.refl w8.heap.size w8).alloc (Nat.le_refl _) (.cells #[.string ⟨#[9]⟩,.string wd,.string ⟨#[32]⟩,.string (fixTx f)] 9)));have HIA:=hide_ (blk_below HI8.out ((Below.refl w8.heap.size w8).alloc (Nat.le_refl _) (.cells #[.string ⟨#[9]⟩,.string wd,.string ⟨#[32]⟩,.string (fixTx f)] 9))))
       | (go_at_call 112;refine (line_any B g w8.heap.size _ _ _ _ [⟨#[9]⟩,wd,⟨#[32]⟩,fixTx f] 4 _ HSA.out HBA.out rfl (by decide) HQ2.out).mono ?_;rintro e w9 ⟨rfl,hS9,hM9⟩;have HK9:=hide_ (hM9.blk HKA.out (HSA.out.ne_blk HKA.out (by decide)) (by decide));have HI9:=hide_ (hM9.blk HIA.out (HSA.out.ne_blk HIA.out (by decide)) (by decide));have HS9:=hide_ hS9;have HM9:=hide_ (HMA.out.trans hM9);clear hS9 hM9))
    have HTE:=hide_ (show (S ++ atL RL 1 k ++ (cat [⟨#[9]⟩,wd,⟨#[32]⟩,fixTx f] ++ ⟨#[10]⟩)) ++ codeR x (n - (k+1)) (k+1)=TT by rw [← HREST.out];exact HTY.out)
    clear kw kwid karg hkl hil
    go_wp2
    go_roundw
    case rel=>exact ⟨k+1,_,_,_,by omega,by go_num,HS9,HTE,HL4,HFN,HM9⟩
    case measure=>simp [intOf];omega
  ·obtain rfl:k=n:=by omega
   have HTX:=hide_ (show S ++ atL RL 1 k=TT by
    have h:=HT.out
    rw [Nat.sub_self,codeR,HL.out.atL_eq] at h
    exact h)
   have HQ1:=hide_ (show S.size+(atL RL 1 k).size≤140737488351232 by
    have h:=congrArg ByteArray.size HTX.out
    rw [ba_size] at h
    have:=HZ.out
    omega)
   have wk:IntKind.u32.wrap (k:Int)=(k:Int):=IntWalk.u32_in _ (by omega)
   have c2:=HC2.out _ _ _ _ HS.out
   have hgl:=HS.out.lt
   go_wp2_with fail
   refine (pat_any B g po RL RF S 1 (k:Int) _ HS.out HL.out.rise HL.out.rest HQ1.out).mono ?_
   rintro e w4 ⟨rfl,RL4,hS4,hL4,hM4⟩
   have HFIN:=hide_ (show ∃ RL' RF',PrS B g po RL' RF' TT w4∧LeftL x.labels RL' 2 0∧LeftF x.fixes RF' 2 0∧PrM B g w w4 from by
    refine ⟨RL4,RF,by rw [← HTX.out];exact hS4,?_,?_,HM.out.trans hM4⟩
    ·refine (hL4 _ HL.out).next (fun l hl h1=>?_) (fun l hl=>(HX.out.labels l hl).2.2.1)
     have h2:=(lab_facts HOK.out hl).2.2.2
     rw [h1,lenOf,if_pos rfl,HN.out] at h2
     omega
    ·refine HF.out.next (fun f hf h1=>?_) (fun f hf=>(HX.out.fixes f hf).2.2.1.1)
     have h0:=(HX.out.fixes f hf).2.2.1.1
     rcases fix_place HOK.out hf with ⟨_,t,h2,_⟩ | ⟨h2,_⟩
     ·have h3:=(List.getElem?_eq_some_iff.1 h2).1
      rw [HN.out] at h3
      omega
     ·rw [h1] at h2;cases h2)
   clear hS4 hL4 hM4 c2 hgl
   go_wp2
   go_end0
   exact ⟨rfl,HFIN.out⟩
end Go.Proofs.YtikbegmodacopaaGreatDoor
