/-
  Joined and packed by program.
-/
import Derived.Test.YtikbegmodacopaaGreatDoorQ28
import Derived.Test.YtikbegmodacopaaGreatDoorQ29
import Derived.Test.YtikbegmodacopaaGreatDoorQ30
import Derived.Laws.IdiomStrings
import Derived.Deep.RegionHeld3
import Derived.Lib.QuietBelow
import Derived.Test.YtikbegmodacopaaGreatDoorQ24
namespace Go.Proofs.YtikbegmodacopaaGreatDoor
open Go.RowKit Go.PlainAid Go.BigFrame
set_option linter.unusedSimpArgs false
set_option linter.unusedVariables false
set_option maxRecDepth 100000
theorem numsB_byte (s:ByteArray):∀ x ∈ numsB s,isByte x:=by
 intro x hx
 obtain ⟨b,_,rfl⟩:=List.mem_map.1 hx
 have:=b.toNat_lt
 exact ⟨by omega,by omega⟩
theorem numsB_len (s:ByteArray):(numsB s).length=s.size:=by unfold numsB;rw [List.length_map,Array.length_toList];rfl
theorem bytes_of_txt (w:World) (s:ByteArray):∃ cap W2,(convert 9 24 (.string s)).run Tryz.prog w=.ok (.slice (some ⟨w.heap.size,0,none⟩) s.size cap) W2 ∧
  Reads W2 (w.heap.size+1) 1 (some ⟨w.heap.size,0,none⟩) s.size (u8s (numsB s))∧Below w.heap.size w W2∧w.heap.size+1≤W2.heap.size:=by
 refine ⟨_,_,run_bytes_of_string w 9 24 5 s Tryz.underlying9 Tryz.underlying24 Tryz.underlying5,⟨by rw [List.length_map,numsB_len];simp,fun _=>⟨_,rfl,by dsimp only;omega,fun j u hu=>?_⟩⟩,(Below.refl _ w).drew.alloc (Nat.le_refl _) _,by simp⟩
 have hj:j<(numsB s).length:=by
  have:=(List.getElem?_eq_some_iff.1 hu).1
  simpa using this
 rw [List.getElem?_map,List.getElem?_eq_getElem hj] at hu
 have hu2:u=.int .u8 (numsB s)[j]:=by simpa using hu.symm
 have hs:j<s.data.size:=by rw [numsB_len] at hj;exact hj
 have e1:((⟨w.heap.size,0,none⟩:Addr).add j)=⟨w.heap.size,j,none⟩:=by unfold Addr.add;split <;> simp_all
 have e2:=World.cell?_alloc_mark w.drew (bytesRow s (grownCap w s.size 0 5)) 5 ((bytesRow s (grownCap w s.size 0 5)).size,(bytesRow s (grownCap w s.size 0 5)).size+1) j
 rw [e1]
 refine (show _=_ from e2).trans ?_
 rw [bytesRow_at _ _ j hs,hu2]
 simp [numsB]
theorem cat_map_cons {α:Type} (f:α→ByteArray) (a:α) (l:List α):cat ((a :: l).map f)=f a ++ cat (l.map f):=rfl
structure PrtFit (x:ObjV):Prop where
 body:(bodyT x).size≤140737488351232
 atA:∀ i:Nat,i≤x.code.length→(atL x.labels 1 i).size≤140737488351232
 fixA:∀ i:Nat,i<x.code.length→(fixT x.fixes 1 i).size≤140737488351232
 atD:∀ i:Nat,i≤x.data.length→(atL x.labels 2 i).size≤140737488351232
 fixD:∀ i:Nat,i<x.data.length→(fixT x.fixes 2 i).size≤140737488351232
theorem PrtFit.parts {x:ObjV} (h:PrtFit x):(codeT x).size+(dataT x).size+(zeroT x).size+(restT x).size≤140737488351232:=by
 have h1:=h.body
 unfold bodyT at h1
 rw [ba_size,ba_size,ba_size] at h1
 omega
theorem okB_bound {x:ObjV} (h:okB x=true):boundB x=true:=by
 unfold okB at h
 simp only [Bool.and_eq_true] at h
 exact h.1.1.1.1
theorem okB_ents {x:ObjV} (h:okB x=true):∀ t ∈ x.entries,t.name.size≤32:=by
 intro t ht
 unfold okB at h
 simp only [Bool.and_eq_true] at h
 obtain ⟨k,hk,rfl⟩:=List.getElem_of_mem ht
 have h1:=List.all_eq_true.1 h.1.2.2 k (List.mem_range.2 hk)
 rw [entOk,List.getElem?_eq_getElem hk] at h1
 simp only [Bool.and_eq_true,Bool.not_eq_true',decide_eq_false_iff_not] at h1
 omega
set_option maxHeartbeats 16000000 in
theorem rPrint_any (x:ObjV) (s:ObjS) (w:World) (hx:ObjOk x) (hr:ObjR w w.heap.size x s) (hf:okB x=true→PrtFit x) :
  Calls Tryz.prog 54 #[.agg (objV x s)] w fun e w'=>e=.returned (.tuple #[.string (prtS x),.int .i64 (prtE x)])∧Below w.heap.size w w':=by
 have HRK:=hide_ (fun W (hw:Below w.heap.size w W)=>rcheck_any x s W hx ((hr.below hw).more hw.size))
 by_cases hok:okB x=true
 ·have hF:=hf hok
  have hbd:=okB_bound hok
  have hpp:=hF.parts
  obtain ⟨hb1,hb2,hb3,hb4,hb5,hb6⟩:=boundB_iff.1 hbd
  have HCT:=hide_ (fun W (hw:Below w.heap.size w W)=>codeText_any x s w.heap.size W hx (hr.below hw) hw.size (by omega) hb1 hF.atA hF.fixA)
  have HDT:=hide_ (fun W (hw:Below w.heap.size w W)=>dataText_any x s w.heap.size W hx (hr.below hw) hw.size (by omega) hb2 hF.atD hF.fixD)
  have HZT:=hide_ (fun W (hw:Below w.heap.size w W)=>zeroText_any x s w.heap.size W hx (hr.below hw) hw.size (by omega))
  have HCV:=hide_ (show chkV x=0 from chkV_yes hok)
  have HRES:=hide_ (show prtS x=(if 524288<(bodyT x).size then e0B else bodyT x)∧prtE x=(if 524288<(bodyT x).size then 105 else 0) from ⟨by rw [prtS,if_pos hok],by rw [prtE,if_pos hok]⟩)
  have HBS:=hide_ hF.body
  have HZS:=hide_ hx.stack
  have HEN:=hide_ (okB_ents hok)
  rw [HCV.out] at HRK
  clear hF hbd hpp hb1 hb2 hb3 hb4 hb5 hb6 hf hok
  obtain ⟨⟨cA,cc⟩,⟨dA,dc⟩,⟨lA,lc⟩,⟨fA,fc⟩,⟨tA,tc⟩,⟨eA,ec⟩⟩:=s
  have HRC:=hide_ hr.rc
  have HRD:=hide_ hr.rd
  have HRL:=hide_ hr.rl
  have HRF:=hide_ hr.rf
  have HRT:=hide_ hr.rt
  have HRE:=hide_ hr.re
  obtain ⟨l1,l2,l3,l4,l5,l6⟩:=hx.lens
  have HX:=hide_ hx
  dsimp only [objV] at HRC HRD HRL HRF HRT HRE ⊢
  obtain ⟨n,hn⟩:∃ n,n=x.code.length:=⟨_,rfl⟩
  obtain ⟨nd,hnd⟩:∃ n,n=x.data.length:=⟨_,rfl⟩
  obtain ⟨nl,hnl⟩:∃ n,n=x.labels.length:=⟨_,rfl⟩
  obtain ⟨nf,hnf⟩:∃ n,n=x.fixes.length:=⟨_,rfl⟩
  obtain ⟨nt,hnt⟩:∃ n,n=x.targets.length:=⟨_,rfl⟩
  obtain ⟨ne,hne⟩:∃ n,n=x.entries.length:=⟨_,rfl⟩
  obtain ⟨z,hzr⟩:∃ z,z=x.zero:=⟨_,rfl⟩
  obtain ⟨sk,hsk⟩:∃ z,z=x.stack:=⟨_,rfl⟩
  rw [← hn,← hnd,← hnl,← hnf,← hnt,← hne,← hzr,← hsk]
  rw [← hn] at HRC l1
  rw [← hnd] at HRD l2
  rw [← hnl] at HRL l3
  rw [← hnf] at HRF l4
  rw [← hnt] at HRT l5
  rw [← hne] at HRE l6
  have HN:=hide_ hn.symm
  have HND:=hide_ hnd.symm
  have HNL:=hide_ hnl.symm
  have HNF:=hide_ hnf.symm
  have HNT:=hide_ hnt.symm
  have HNE:=hide_ hne.symm
  have HZ:=hide_ hzr.symm
  have HSK:=hide_ hsk.symm
  dsimp only [objV] at HRK HCT HDT HZT
  rw [← hn,← hnd,← hnl,← hnf,← hnt,← hne,← hzr,← hsk] at HRK HCT HDT HZT
  rw [← hsk] at HZS
  clear hr hx hn hnd hnl hnf hnt hne hzr hsk
  obtain ⟨W1,hW1⟩:∃ W,W=w.alloc (.cells #[.slice cA n cc,.slice dA nd dc,.int .u32 z,.int .u32 sk,.slice lA nl lc,.slice fA nf fc,.slice tA nt tc,.slice eA ne ec] 36):=⟨_,rfl⟩
  have f0:W1.cell? ⟨w.heap.size,0,none⟩=some (.slice cA n cc):=by rw [hW1];go_simp
  have f1:W1.cell? ⟨w.heap.size,1,none⟩=some (.slice dA nd dc):=by rw [hW1];go_simp
  have f2:W1.cell? ⟨w.heap.size,2,none⟩=some (.int .u32 z):=by rw [hW1];go_simp
  have f3:W1.cell? ⟨w.heap.size,3,none⟩=some (.int .u32 sk):=by rw [hW1];go_simp
  have f4:W1.cell? ⟨w.heap.size,4,none⟩=some (.slice lA nl lc):=by rw [hW1];go_simp
  have f5:W1.cell? ⟨w.heap.size,5,none⟩=some (.slice fA nf fc):=by rw [hW1];go_simp
  have f6:W1.cell? ⟨w.heap.size,6,none⟩=some (.slice tA nt tc):=by rw [hW1];go_simp
  have f7:W1.cell? ⟨w.heap.size,7,none⟩=some (.slice eA ne ec):=by rw [hW1];go_simp
  have HB1:=hide_ (show Below w.heap.size w W1 by rw [hW1];exact (Below.refl _ _).alloc (Nat.le_refl _) _)
  have hlt0:w.heap.size<W1.heap.size:=by rw [hW1];simp
  have F0:=hide_ f0
  have F1:=hide_ f1
  have F2:=hide_ f2
  have F3:=hide_ f3
  have F4:=hide_ f4
  have F5:=hide_ f5
  have F6:=hide_ f6
  have F7:=hide_ f7
  clear f0 f1 f2 f3 f4 f5 f6 f7
  obtain ⟨C,hC⟩:∃ a,a=codeT x:=⟨_,rfl⟩
  obtain ⟨DD,hD⟩:∃ a,a=dataT x:=⟨_,rfl⟩
  obtain ⟨Z,hZ⟩:∃ a,a=zeroT x:=⟨_,rfl⟩
  rw [← hC] at HCT
  rw [← hD] at HDT
  rw [← hZ] at HZT
  obtain ⟨T,hT⟩:∃ a,a=bodyT x:=⟨_,rfl⟩
  rw [← hT] at HRES HBS
  have HBO:=hide_ (show C ++ DD ++ Z ++ (stackT x ++ (cat (x.labels.map openT) ++ (cat (x.targets.map targT) ++ cat (x.entries.map entT))))=T by
   rw [hT,bodyT,hC,hD,hZ,restT]
   simp only [ba_assoc])
  clear hC hD hZ hT
  have hss:=congrArg ByteArray.size HBO.out
  simp only [ba_size] at hss
  have hTz:=HBS.out
  have m1:¬ 9223372036854775807<C.size+DD.size:=by omega
  have m2:¬ 9223372036854775807<C.size+DD.size+Z.size:=by omega
  clear hss hTz
  go_enter Tryz.func54,Tryz.ntmps54
  go_upto_region 1 with (fail)
  rw [← hW1]
  clear hW1
  have f0:=F0.out
  have f1:=F1.out
  have f2:=F2.out
  have f3:=F3.out
  have f4:=F4.out
  have f5:=F5.out
  have f6:=F6.out
  have f7:=F7.out
  go_wp2_with fail
  refine (HRK.out _ HB1.out).mono ?_
  rintro e w2 ⟨rfl,hb2⟩
  have f0:=(hb2.cell (p:=⟨w.heap.size,0,none⟩) hlt0).trans f0
  have f1:=(hb2.cell (p:=⟨w.heap.size,1,none⟩) hlt0).trans f1
  have f2:=(hb2.cell (p:=⟨w.heap.size,2,none⟩) hlt0).trans f2
  have f3:=(hb2.cell (p:=⟨w.heap.size,3,none⟩) hlt0).trans f3
  have f4:=(hb2.cell (p:=⟨w.heap.size,4,none⟩) hlt0).trans f4
  have f5:=(hb2.cell (p:=⟨w.heap.size,5,none⟩) hlt0).trans f5
  have f6:=(hb2.cell (p:=⟨w.heap.size,6,none⟩) hlt0).trans f6
  have f7:=(hb2.cell (p:=⟨w.heap.size,7,none⟩) hlt0).trans f7
  have hlt2:=Nat.lt_of_lt_of_le hlt0 hb2.size
  have HB2:=hide_ (HB1.out.trans (hb2.mono HB1.out.size))
  clear hb2
  go_upto_region 4 with (fail)
  have cC:∀ d os,Calls Tryz.prog 89 #[.agg #[.slice cA n cc,.slice dA nd dc,.int .u32 z,.int .u32 sk,.slice lA nl lc,.slice fA nf fc,.slice tA nt tc,.slice eA ne ec]] (Sort.grow (redrawn w2 d) os) fun e w''=>e=.returned (.string C)∧∃ p:Regrown,w''=Sort.grow (redrawn w2 p.d) p.os:=fun d os=>Calls.regrown_of (HCT.out _ (HB2.out.trans ((below_regrown w2 d os).mono HB2.out.size)))
  have cD:∀ d os,Calls Tryz.prog 90 #[.agg #[.slice cA n cc,.slice dA nd dc,.int .u32 z,.int .u32 sk,.slice lA nl lc,.slice fA nf fc,.slice tA nt tc,.slice eA ne ec]] (Sort.grow (redrawn w2 d) os) fun e w''=>e=.returned (.string DD)∧∃ p:Regrown,w''=Sort.grow (redrawn w2 p.d) p.os:=fun d os=>Calls.regrown_of (HDT.out _ (HB2.out.trans ((below_regrown w2 d os).mono HB2.out.size)))
  have cZ:∀ d os,Calls Tryz.prog 91 #[.agg #[.slice cA n cc,.slice dA nd dc,.int .u32 z,.int .u32 sk,.slice lA nl lc,.slice fA nf fc,.slice tA nt tc,.slice eA ne ec]] (Sort.grow (redrawn w2 d) os) fun e w''=>e=.returned (.string Z)∧∃ p:Regrown,w''=Sort.grow (redrawn w2 p.d) p.os:=fun d os=>Calls.regrown_of (HZT.out _ (HB2.out.trans ((below_regrown w2 d os).mono HB2.out.size)))
  have HK:=hide_ (And.intro f0 (And.intro f1 (And.intro f2 (And.intro f3 (And.intro f4 (And.intro f5 (And.intro f6 f7)))))))
  replace f0:=cell_regrown f0
  replace f1:=cell_regrown f1
  replace f2:=cell_regrown f2
  replace f3:=cell_regrown f3
  replace f4:=cell_regrown f4
  replace f5:=cell_regrown f5
  replace f6:=cell_regrown f6
  replace f7:=cell_regrown f7
  refine wp_region_quiet_below (by kernel_rfl) (by kernel_rfl) ?_
  repeat (go_big_quiet_step ((first | exact cC _ _ | exact cD _ _ | exact cZ _ _)))
  refine wpQuiet_nil ?_
  intro w3 hw'
  obtain ⟨⟨dq,osq⟩,hw''⟩:=hw'
  have hb3:Below w2.heap.size w2 w3:=by rw [hw''];exact below_regrown w2 dq osq
  clear hw'' cC cD cZ f0 f1 f2 f3 f4 f5 f6 f7
  obtain ⟨f0,f1,f2,f3,f4,f5,f6,f7⟩:=HK.out
  have f0:=(hb3.cell (p:=⟨w.heap.size,0,none⟩) hlt2).trans f0
  have f1:=(hb3.cell (p:=⟨w.heap.size,1,none⟩) hlt2).trans f1
  have f2:=(hb3.cell (p:=⟨w.heap.size,2,none⟩) hlt2).trans f2
  have f3:=(hb3.cell (p:=⟨w.heap.size,3,none⟩) hlt2).trans f3
  have f4:=(hb3.cell (p:=⟨w.heap.size,4,none⟩) hlt2).trans f4
  have f5:=(hb3.cell (p:=⟨w.heap.size,5,none⟩) hlt2).trans f5
  have f6:=(hb3.cell (p:=⟨w.heap.size,6,none⟩) hlt2).trans f6
  have f7:=(hb3.cell (p:=⟨w.heap.size,7,none⟩) hlt2).trans f7
  have hlt3:=Nat.lt_of_lt_of_le hlt2 hb3.size
  have HB3:=hide_ (HB2.out.trans (hb3.mono HB2.out.size))
  clear hb3 HK hlt2 m1 m2
  obtain ⟨K0,hK0⟩:∃ k,k=C ++ DD ++ Z:=⟨_,rfl⟩
  rw [← hK0] at HBO ⊢
  clear hK0
  have m3:¬ 9223372036854775807<K0.size+6:=by
   have h:=congrArg ByteArray.size HBO.out
   have h2:=HBS.out
   rw [ba_size] at h
   omega
  go_upto_if 24 with (fail)
  go_cut [5] from 24 to 31 (fun s wx=>s=.string (K0 ++ stackT x)∧Below w3.heap.size w3 wx)
  case first =>
   by_cases hsk0:sk=0
   ·have e0:¬ (0:Int)<sk:=by omega
    have HKS:=hide_ (show stackT x=e0B by rw [stackT,if_pos (by rw [HSK.out];exact hsk0)])
    clear hsk0
    go_wp2
    go_meet
    exact ⟨by rw [HKS.out,ba_nil],Below.refl _ _⟩
   ·have e0:(0:Int)<sk:=by have:=HZS.out;omega
    obtain ⟨m,hm⟩:∃ m:Nat,sk=(m:Int):=⟨sk.toNat,by have:=HZS.out;omega⟩
    have HKS:=hide_ (show stackT x=⟨#[115,116,97,99,107,32]⟩ ++ decT m ++ ⟨#[10]⟩ by rw [stackT,if_neg (by rw [HSK.out];exact hsk0),HSK.out,hm,Int.toNat_natCast])
    have HU:Hid (∀ W,Calls Tryz.prog 92 #[.int .u32 sk] W fun e w'=>e=.returned (.string (decT m))∧Below W.heap.size W w'):=hide_ (fun W=>by rw [hm];exact unsigned_any m (by have:=HZS.out;omega) W)
    clear hm
    obtain ⟨D,hD⟩:∃ D,D=decT m:=⟨_,rfl⟩
    rw [← hD] at HU HKS
    have h:=congrArg ByteArray.size HBO.out
    rw [HKS.out] at h
    simp only [ba_size] at h
    have h6:(⟨#[115,116,97,99,107,32]⟩:ByteArray).size=6:=rfl
    have h1:(⟨#[10]⟩:ByteArray).size=1:=rfl
    have hTz:=HBS.out
    have m4:¬ 9223372036854775807<K0.size+6+D.size:=by omega
    have m5:¬ 9223372036854775807<K0.size+6+D.size+1:=by omega
    clear hsk0 hD h h6 h1 hTz
    go_wp2_with fail
    refine (HU.out _).mono ?_
    rintro e w6 ⟨rfl,hb6⟩
    have HB6:=hide_ hb6
    clear hb6
    go_wp2
    go_meet
    exact ⟨by rw [HKS.out];simp only [ba_assoc],HB6.out⟩
  case rest =>
   obtain ⟨rfl,hbc⟩:=hcut
   have f0:=(hbc.cell (p:=⟨w.heap.size,0,none⟩) hlt3).trans f0
   have f1:=(hbc.cell (p:=⟨w.heap.size,1,none⟩) hlt3).trans f1
   have f2:=(hbc.cell (p:=⟨w.heap.size,2,none⟩) hlt3).trans f2
   have f3:=(hbc.cell (p:=⟨w.heap.size,3,none⟩) hlt3).trans f3
   have f4:=(hbc.cell (p:=⟨w.heap.size,4,none⟩) hlt3).trans f4
   have f5:=(hbc.cell (p:=⟨w.heap.size,5,none⟩) hlt3).trans f5
   have f6:=(hbc.cell (p:=⟨w.heap.size,6,none⟩) hlt3).trans f6
   have f7:=(hbc.cell (p:=⟨w.heap.size,7,none⟩) hlt3).trans f7
   have hltc:=Nat.lt_of_lt_of_le hlt3 hbc.size
   have HBC:=hide_ (HB3.out.trans (hbc.mono HB3.out.size))
   clear hbc HB3 HB2
   obtain ⟨K1,hK1⟩:∃ k,k=K0 ++ stackT x:=⟨_,rfl⟩
   rw [← hK1]
   have HL0:=hide_ (show K1 ++ cat ((x.labels.drop 0).map openT) ++ (cat (x.targets.map targT) ++ cat (x.entries.map entT))=T by rw [← HBO.out,hK1,List.drop_zero];simp only [ba_assoc])
   clear hK1 m3
   go_wp2
   go_loopw [5,6] (fun s i wr=>∃ (k:Nat) (S:ByteArray),k≤nl∧s=.string S∧i=.int .i64 k∧Hid (S ++ cat ((x.labels.drop k).map openT) ++ (cat (x.targets.map targT) ++ cat (x.entries.map entT))=T)∧Drew wc wr) (fun _ i _=>nl - (intOf i).toNat)
   case atStart=>exact ⟨0,K1,by omega,rfl,rfl,HL0,Drew.refl _⟩
   case round =>
    clear HL0
    obtain ⟨k,S,hk,rfl,rfl,HS,hd⟩:=hrel
    have HD:=hide_ hd
    have f4:=(hd.cell _).trans f4
    have f6:=(hd.cell _).trans f6
    have f7:=(hd.cell _).trans f7
    have hltx:w.heap.size<wr.heap.size:=by rw [hd.size];exact hltc
    have HBR:=hide_ (HBC.out.trans (hd.below _))
    clear hd f0 f1 f2 f3 f5
    by_cases hlt:k<nl
    ·obtain ⟨⟨nm,lsec,lpl,lop⟩,ht⟩:∃ t,x.labels[k]?=some t:=⟨_,List.getElem?_eq_getElem (by have:=HNL.out;omega)⟩
     have HDR:=hide_ (drop_at ht)
     obtain ⟨_,ad,rfl,hbk,p0,p1⟩:=el_cells lE_len (HRL.out.below HBR.out) (by omega) ht
     have x0:=p0 _ rfl
     have x3:=p1 3 _ (by omega) rfl
     simp only at x0 x3
     have hbs:(ad.add (k * 4)).block<wr.heap.size:=by have:=HBR.out.size;omega
     clear p0 p1 ht hbk
     have hS:=HS.out
     rw [HDR.out,cat_map_cons,openT] at hS
     dsimp only at hS
     cases lop
     ·rw [if_neg (by simp),nil_ba] at hS
      have HSE:=hide_ hS
      clear hS
      go_wp2
      go_roundw
      case rel=>exact ⟨k+1,S,by omega,rfl,by go_num,HSE,HD.out⟩
      case measure=>simp [intOf];omega
     ·rw [if_pos rfl] at hS
      have HSE:=hide_ (show (S ++ ⟨#[111,112,101,110,32]⟩ ++ nm ++ ⟨#[10]⟩) ++ cat ((x.labels.drop (k+1)).map openT) ++ (cat (x.targets.map targT) ++ cat (x.entries.map entT))=T by
       rw [← hS]
       simp only [ba_assoc])
      have hss:=congrArg ByteArray.size hS
      simp only [ba_size] at hss
      have h5:(⟨#[111,112,101,110,32]⟩:ByteArray).size=5:=rfl
      have h1:(⟨#[10]⟩:ByteArray).size=1:=rfl
      have hTz:=HBS.out
      have m1:¬ 9223372036854775807<S.size+5:=by omega
      have m2:¬ 9223372036854775807<S.size+5+nm.size:=by omega
      have m3:¬ 9223372036854775807<S.size+5+nm.size+1:=by omega
      clear hS hss h5 h1 hTz
      go_wp2
      go_roundw
      case rel=>exact ⟨k+1,_,by omega,rfl,by go_num,HSE,HD.out⟩
      case measure=>simp [intOf];omega
    ·obtain ⟨wL,hwL⟩:∃ W,W=wr:=⟨_,rfl⟩
     have HT0:=hide_ (show S ++ cat ((x.targets.drop 0).map targT) ++ cat (x.entries.map entT)=T by
      have h:=HS.out
      rw [List.drop_of_length_le (by have:=HNL.out;omega),List.map_nil,cat,ba_nil] at h
      rw [List.drop_zero,← h]
      simp only [ba_assoc])
     rw [← hwL] at f4 f6 f7 hltx HBR ⊢
     clear hwL HD HS HBC
     go_wp2
     go_loopw [5,7] (fun s i wr=>∃ (k:Nat) (S:ByteArray),k≤nt∧s=.string S∧i=.int .i64 k∧Hid (S ++ cat ((x.targets.drop k).map targT) ++ cat (x.entries.map entT)=T)∧Drew wL wr) (fun _ i _=>nt - (intOf i).toNat)
     case atStart=>exact ⟨0,S,by omega,rfl,rfl,HT0,Drew.refl _⟩
     case round =>
      clear HT0
      obtain ⟨k,S,hk,rfl,rfl,HS,hd⟩:=hrel
      have HD:=hide_ hd
      have f6:=(hd.cell _).trans f6
      have f7:=(hd.cell _).trans f7
      have hltx:w.heap.size<wr.heap.size:=by rw [hd.size];exact hltx
      have HBR:=hide_ (HBR.out.trans (hd.below _))
      clear hd f4
      by_cases hlt:k<nt
      ·obtain ⟨tg,ht⟩:∃ t,x.targets[k]?=some t:=⟨_,List.getElem?_eq_getElem (by have:=HNT.out;omega)⟩
       have HDR:=hide_ (drop_at ht)
       obtain ⟨b,o,rfl,hbk,hcl⟩:=reads_strs (HRT.out.below HBR.out) (by omega)
       have x0:=hcl k tg ht
       have hbs:b<wr.heap.size:=by have:=HBR.out.size;omega
       have hS:=HS.out
       rw [HDR.out,cat_map_cons,targT] at hS
       have HSE:=hide_ (show (S ++ ⟨#[116,97,114,103,101,116,32]⟩ ++ tg ++ ⟨#[10]⟩) ++ cat ((x.targets.drop (k+1)).map targT) ++ cat (x.entries.map entT)=T by
        rw [← hS]
        simp only [ba_assoc])
       have hss:=congrArg ByteArray.size hS
       simp only [ba_size] at hss
       have h7:(⟨#[116,97,114,103,101,116,32]⟩:ByteArray).size=7:=rfl
       have h1:(⟨#[10]⟩:ByteArray).size=1:=rfl
       have hTz:=HBS.out
       have m1:¬ 9223372036854775807<S.size+7:=by omega
       have m2:¬ 9223372036854775807<S.size+7+tg.size:=by omega
       have m3:¬ 9223372036854775807<S.size+7+tg.size+1:=by omega
       clear hS hss h7 h1 hTz hcl ht hbk
       go_wp2
       go_roundw
       case rel=>exact ⟨k+1,_,by omega,rfl,by go_num,HSE,HD.out⟩
       case measure=>simp [intOf];omega
      ·obtain ⟨wM,hwM⟩:∃ W,W=wr:=⟨_,rfl⟩
       have HT0:=hide_ (show S ++ cat ((x.entries.drop 0).map entT)=T by
        have h:=HS.out
        rw [List.drop_of_length_le (by have:=HNT.out;omega),List.map_nil,cat,ba_nil] at h
        rw [List.drop_zero,← h])
       rw [← hwM] at f6 f7 hltx HBR ⊢
       clear hwM HD HS
       go_wp2
       go_loopw [5,8] (fun s i wr=>∃ (k:Nat) (S:ByteArray),k≤ne∧s=.string S∧i=.int .i64 k∧Hid (S ++ cat ((x.entries.drop k).map entT)=T)∧Below wM.heap.size wM wr) (fun _ i _=>ne - (intOf i).toNat)
       case atStart=>exact ⟨0,S,by omega,rfl,rfl,HT0,Below.refl _ _⟩
       case round =>
        clear HT0
        obtain ⟨k,S,hk,rfl,rfl,HS,hbr⟩:=hrel
        have HBM:=hide_ hbr
        have f7:=(hbr.cell (p:=⟨w.heap.size,7,none⟩) hltx).trans f7
        have hlty:=Nat.lt_of_lt_of_le hltx hbr.size
        have HBR:=hide_ (HBR.out.trans (hbr.mono HBR.out.size))
        clear hbr f6
        by_cases hlt:k<ne
        ·obtain ⟨⟨en,el⟩,ht⟩:∃ t,x.entries[k]?=some t:=⟨_,List.getElem?_eq_getElem (by have:=HNE.out;omega)⟩
         have HDR:=hide_ (drop_at ht)
         obtain ⟨_,ad,rfl,hbk,p0,p1⟩:=el_cells eE_len (HRE.out.below HBR.out) (by omega) ht
         have x0:=p0 _ rfl
         have x1:=p1 1 _ (by omega) rfl
         simp only at x0 x1
         have hbs:(ad.add (k * 2)).block<wr.heap.size:=by have:=HBR.out.size;omega
         have hS:=HS.out
         rw [HDR.out,cat_map_cons,entT] at hS
         dsimp only at hS
         have hen:en.size≤2097152:=Nat.le_trans (HEN.out _ (List.mem_of_getElem? ht)) (by decide)
         obtain ⟨cap,W2,hcv,hrd,hb2,hsz2⟩:=bytes_of_txt wr.drew en
         have HSH:=hide_ (fun W (hw:Below W2.heap.size W2 W)=>rShow_any _ en.size cap _ (wr.heap.size+1) W (hrd.below (hw.mono hsz2)) (Nat.le_trans hsz2 hw.size) hen (numsB_byte en))
         obtain ⟨sh,hsh⟩:∃ a,a=strOfNums (showL (numsB en)):=⟨_,rfl⟩
         rw [showT,← hsh] at hS
         rw [← hsh] at HSH
         have HSE:=hide_ (show (S ++ ⟨#[101,110,116,114,121,32]⟩ ++ sh ++ ⟨#[44,32]⟩ ++ el ++ ⟨#[10]⟩) ++ cat ((x.entries.drop (k+1)).map entT)=T by
          rw [← hS]
          simp only [ba_assoc])
         have hss:=congrArg ByteArray.size hS
         simp only [ba_size] at hss
         have h6:(⟨#[101,110,116,114,121,32]⟩:ByteArray).size=6:=rfl
         have h2:(⟨#[44,32]⟩:ByteArray).size=2:=rfl
         have h1:(⟨#[10]⟩:ByteArray).size=1:=rfl
         have hTz:=HBS.out
         have m1:¬ 9223372036854775807<S.size+6:=by omega
         have m2:¬ 9223372036854775807<S.size+6+sh.size:=by omega
         have m3:¬ 9223372036854775807<S.size+6+sh.size+2:=by omega
         have m4:¬ 9223372036854775807<S.size+6+sh.size+2+el.size:=by omega
         have m5:¬ 9223372036854775807<S.size+6+sh.size+2+el.size+1:=by omega
         have HB2:=hide_ hb2
         clear hS hss h6 h2 h1 hTz p0 p1 ht hbk hen hsh hrd hb2
         go_upto_region 19 with (fail)
         have g7:=(HB2.out.cell (p:=⟨w.heap.size,7,none⟩) hlty).trans f7
         have y1:=(HB2.out.cell (p:=⟨(ad.add (k * 2)).block,(ad.add (k * 2)).off+1,none⟩) hbs).trans x1
         have hbs2:=Nat.lt_of_lt_of_le hbs HB2.out.size
         have hlt2:=Nat.lt_of_lt_of_le hlty HB2.out.size
         go_region_with ((go_at_call 93;refine (HSH.out _ (Below.refl _ _)).mono ?_;rintro e w7 ⟨rfl,hb7⟩;have f7:=((HB2.out.trans (hb7.mono HB2.out.size)).cell (p:=⟨w.heap.size,7,none⟩) hlty).trans f7;have x0:=((HB2.out.trans (hb7.mono HB2.out.size)).cell (p:=ad.add (k * 2)) hbs).trans x0;have x1:=((HB2.out.trans (hb7.mono HB2.out.size)).cell (p:=⟨(ad.add (k * 2)).block,(ad.add (k * 2)).off+1,none⟩) hbs).trans x1;have hbs7:=Nat.lt_of_lt_of_le hbs (HB2.out.trans (hb7.mono HB2.out.size)).size;have hlt7:=Nat.lt_of_lt_of_le hlty (HB2.out.trans (hb7.mono HB2.out.size)).size))
         all_goals
          have HBQ:=hide_ (HBM.out.trans (((Below.refl wr.heap.size wr).drew.trans (HB2.out.trans (hb7.mono HB2.out.size))).mono HBM.out.size))
          clear hb7 hcv x0 x1 hbs7 hlt7 g7 y1 hbs2 hlt2 f7
          go_wp2
          go_roundw
          case rel=>exact ⟨k+1,_,by omega,rfl,by go_num,HSE,HBQ.out⟩
          case measure=>simp [intOf];omega
        ·have HSE:=hide_ (show S=T by
          have h:=HS.out
          rw [List.drop_of_length_le (by have:=HNE.out;omega),List.map_nil,cat,ba_nil] at h
          exact h)
         have hSE:=HSE.out
         subst hSE
         have hres:=HRES.out
         by_cases hbig:524288<S.size
         ·rw [if_pos hbig,if_pos hbig] at hres
          have HR2:=hide_ hres
          have hbi:(524288:Int)<(S.size:Int):=by omega
          clear hres hbig
          go_wp2
          go_ret2
          exact ⟨by rw [HR2.out.1,HR2.out.2];rfl,HBR.out⟩
         ·rw [if_neg hbig,if_neg hbig] at hres
          have HR2:=hide_ hres
          have hbi:¬ (524288:Int)<(S.size:Int):=by omega
          clear hres hbig
          go_wp2
          go_ret2
          exact ⟨by rw [HR2.out.1,HR2.out.2];rfl,HBR.out⟩
 ·have HCV:=hide_ (show chkV x=104 from chkV_no (by simpa using hok))
  have HRES:=hide_ (show prtS x=e0B∧prtE x=104 from ⟨by rw [prtS,if_neg hok],by rw [prtE,if_neg hok]⟩)
  rw [HCV.out] at HRK
  clear hf hok
  obtain ⟨⟨cA,cc⟩,⟨dA,dc⟩,⟨lA,lc⟩,⟨fA,fc⟩,⟨tA,tc⟩,⟨eA,ec⟩⟩:=s
  have HRC:=hide_ hr.rc
  have HRD:=hide_ hr.rd
  have HRL:=hide_ hr.rl
  have HRF:=hide_ hr.rf
  have HRT:=hide_ hr.rt
  have HRE:=hide_ hr.re
  obtain ⟨l1,l2,l3,l4,l5,l6⟩:=hx.lens
  have HX:=hide_ hx
  dsimp only [objV] at HRC HRD HRL HRF HRT HRE ⊢
  obtain ⟨n,hn⟩:∃ n,n=x.code.length:=⟨_,rfl⟩
  obtain ⟨nd,hnd⟩:∃ n,n=x.data.length:=⟨_,rfl⟩
  obtain ⟨nl,hnl⟩:∃ n,n=x.labels.length:=⟨_,rfl⟩
  obtain ⟨nf,hnf⟩:∃ n,n=x.fixes.length:=⟨_,rfl⟩
  obtain ⟨nt,hnt⟩:∃ n,n=x.targets.length:=⟨_,rfl⟩
  obtain ⟨ne,hne⟩:∃ n,n=x.entries.length:=⟨_,rfl⟩
  obtain ⟨z,hzr⟩:∃ z,z=x.zero:=⟨_,rfl⟩
  obtain ⟨sk,hsk⟩:∃ z,z=x.stack:=⟨_,rfl⟩
  rw [← hn,← hnd,← hnl,← hnf,← hnt,← hne,← hzr,← hsk]
  rw [← hn] at HRC l1
  rw [← hnd] at HRD l2
  rw [← hnl] at HRL l3
  rw [← hnf] at HRF l4
  rw [← hnt] at HRT l5
  rw [← hne] at HRE l6
  have HN:=hide_ hn.symm
  have HND:=hide_ hnd.symm
  have HNL:=hide_ hnl.symm
  have HNF:=hide_ hnf.symm
  have HNT:=hide_ hnt.symm
  have HNE:=hide_ hne.symm
  have HZ:=hide_ hzr.symm
  have HSK:=hide_ hsk.symm
  dsimp only [objV] at HRK
  rw [← hn,← hnd,← hnl,← hnf,← hnt,← hne,← hzr,← hsk] at HRK
  clear hr hx hn hnd hnl hnf hnt hne hzr hsk
  obtain ⟨W1,hW1⟩:∃ W,W=w.alloc (.cells #[.slice cA n cc,.slice dA nd dc,.int .u32 z,.int .u32 sk,.slice lA nl lc,.slice fA nf fc,.slice tA nt tc,.slice eA ne ec] 36):=⟨_,rfl⟩
  have f0:W1.cell? ⟨w.heap.size,0,none⟩=some (.slice cA n cc):=by rw [hW1];go_simp
  have f1:W1.cell? ⟨w.heap.size,1,none⟩=some (.slice dA nd dc):=by rw [hW1];go_simp
  have f2:W1.cell? ⟨w.heap.size,2,none⟩=some (.int .u32 z):=by rw [hW1];go_simp
  have f3:W1.cell? ⟨w.heap.size,3,none⟩=some (.int .u32 sk):=by rw [hW1];go_simp
  have f4:W1.cell? ⟨w.heap.size,4,none⟩=some (.slice lA nl lc):=by rw [hW1];go_simp
  have f5:W1.cell? ⟨w.heap.size,5,none⟩=some (.slice fA nf fc):=by rw [hW1];go_simp
  have f6:W1.cell? ⟨w.heap.size,6,none⟩=some (.slice tA nt tc):=by rw [hW1];go_simp
  have f7:W1.cell? ⟨w.heap.size,7,none⟩=some (.slice eA ne ec):=by rw [hW1];go_simp
  have HB1:=hide_ (show Below w.heap.size w W1 by rw [hW1];exact (Below.refl _ _).alloc (Nat.le_refl _) _)
  have hlt0:w.heap.size<W1.heap.size:=by rw [hW1];simp
  go_enter Tryz.func54,Tryz.ntmps54
  go_upto_region 1 with (fail)
  rw [← hW1]
  clear hW1
  go_wp2_with fail
  refine (HRK.out _ HB1.out).mono ?_
  rintro e w2 ⟨rfl,hb2⟩
  have HB2:=hide_ (HB1.out.trans (hb2.mono HB1.out.size))
  clear hb2 f0 f1 f2 f3 f4 f5 f6 f7
  go_wp2
  go_ret2
  exact ⟨by rw [HRES.out.1,HRES.out.2];rfl,HB2.out⟩
end Go.Proofs.YtikbegmodacopaaGreatDoor
namespace Go.Proofs.YtikbegmodacopaaGreatDoor
open Go.RowKit Go.PlainAid
set_option linter.unusedSimpArgs false
set_option linter.unusedVariables false
set_option maxRecDepth 100000
structure SumFit (x:ObjV):Prop where
 l:(x.labels.map fun t=>t.name.size+1).sum≤8388608
 f:(x.fixes.map fun t=>t.name.size+1).sum≤8388608
 t:(x.targets.map fun t=>t.size+1).sum≤8388608
 e:(x.entries.map fun t=>t.name.size+t.lab.size+1).sum≤8388608
theorem e0_size:e0B.size=0:=rfl
theorem cat_le {α:Type} {f:α→ByteArray} {g:α→Nat} {m:Nat}:∀ {l:List α},(∀ a ∈ l,(f a).size≤m * g a)→(cat (l.map f)).size≤m * (l.map g).sum
 | [],_=>by show e0B.size≤_;rw [e0_size];exact Nat.zero_le _
 | a :: l,h=>by
  have h1:=h a (by simp)
  have h2:=cat_le (l:=l) fun b hb=>h b (by simp [hb])
  show (f a ++ cat (l.map f)).size≤m * (g a+(l.map g).sum)
  rw [ba_size,Nat.mul_add]
  omega
theorem sum_filter {α:Type} (p:α→Bool) (g:α→Nat) (l:List α):((l.filter p).map g).sum≤(l.map g).sum:=by
 induction l with
 | nil=>simp
 | cons a l ih =>
  rw [List.filter_cons]
  split
  ·simp only [List.map_cons,List.sum_cons];omega
  ·simp only [List.map_cons,List.sum_cons];omega
theorem sum_mem {α:Type} (g:α→Nat) {l:List α} {a:α} (h:a ∈ l):g a≤(l.map g).sum:=by
 induction l with
 | nil=>cases h
 | cons b l ih =>
  simp only [List.map_cons,List.sum_cons]
  rcases List.mem_cons.1 h with rfl | h
  ·omega
  ·have:=ih h;omega
theorem labLn_size (l:LabV):(labLn l).size=l.name.size+2:=by unfold labLn;rw [ba_size];rfl
theorem atL_size {x:ObjV} (h:SumFit x) (sec at_:Int):(atL x.labels sec at_).size≤16777216:=by
 have h1:=cat_le (f:=labLn) (g:=fun t:LabV=>t.name.size+1) (m:=2) (l:=x.labels.filter (labAt sec at_)) fun a _=>by rw [labLn_size];omega
 have h2:=sum_filter (labAt sec at_) (fun t:LabV=>t.name.size+1) x.labels
 have h3:=h.l
 unfold atL
 omega
theorem fixT_size {x:ObjV} (hx:ObjOk x) (h:SumFit x) (sec at_:Int):(fixT x.fixes sec at_).size≤8388640:=by
 unfold fixT
 split
 ·rename_i f hf
  have hm:=List.mem_of_find?_eq_some hf
  have h1:=sum_mem (fun t:FixV=>t.name.size+1) hm
  have h2:=h.f
  have h3:=(hx.fixes f hm).2.2.2
  unfold fixTx
  split
  ·omega
  ·have h4:=decT_size f.add.toNat (by omega)
   rw [ba_size,ba_size,show (⟨#[43]⟩:ByteArray).size=1 from rfl]
   omega
 ·rw [e0_size];omega
theorem sgnT_le {a:Int} (h0:0≤a) (h1:a<4294967296):(sgnT a).size≤21:=by
 by_cases h:2147483648≤a
 ·have:=decT_size (4294967296 - a).toNat (by omega)
  rw [sgnT_neg h h1,ba_size]
  show 1+(decT _).size≤21
  omega
 ·have:=decT_size a.toNat (by omega)
  rw [sgnT_pos h0 h]
  show (decT _).size≤21
  omega
theorem insT_size {x:ObjV} (hx:ObjOk x) (h:SumFit x) (i:Nat):(insT x i).size≤25165900:=by
 have h1:=atL_size h 1 i
 have h2:=fixT_size hx h 1 i
 unfold insT
 rw [ba_size]
 split
 ·rw [e0_size];omega
 ·rename_i t ht
  have h3:=sgnT_le (hx.code t (List.mem_of_getElem? ht)).2.1 (hx.code t (List.mem_of_getElem? ht)).2.2
  have h4:=opR_short t.1
  have h5:(if 0<(opR t.1).width then ⟨#[32]⟩ ++ (if fixT x.fixes 1 i=e0B then sgnT t.2 else fixT x.fixes 1 i) else e0B:ByteArray).size≤8388641:=by
   split
   ·rw [ba_size,show (⟨#[32]⟩:ByteArray).size=1 from rfl]
    split <;> omega
   ·rw [e0_size];omega
  rw [ba_size,ba_size,ba_size,show (⟨#[9]⟩:ByteArray).size=1 from rfl,show (⟨#[10]⟩:ByteArray).size=1 from rfl,show (⟨(opR t.1).w.toArray⟩:ByteArray).size=(opR t.1).w.length from by simp [ByteArray.size]]
  omega
theorem codeR_size {x:ObjV} (hx:ObjOk x) (h:SumFit x):∀ (k i:Nat),(codeR x k i).size≤16777216+k * 25165900
 | 0,i=>by have:=atL_size h 1 i;unfold codeR;omega
 | k+1,i=>by
  have h1:=insT_size hx h i
  have h2:=codeR_size hx h k (i+1)
  unfold codeR
  rw [ba_size,Nat.succ_mul]
  omega
theorem showT_size (l:List Int):(showT l).size≤4 * l.length+2:=by
 have:=showM_len l
 unfold showT showL
 rw [strOfNums_size,List.length_append]
 simp only [List.length_cons,List.length_nil]
 omega
theorem dataR_size {x:ObjV} (hx:ObjOk x) (h:SumFit x) (hd:x.data.length≤65536):∀ (k i:Nat),(dataR x k i).size≤16777216+k * 33554432
 | 0,i=>by have:=atL_size h 2 x.data.length;unfold dataR;omega
 | k+1,i=>by
  have h1:=atL_size h 2 i
  have h0:=atL_size h 2 x.data.length
  have h2:=fixT_size hx h 2 i
  have h3:=dataR_size hx h hd k (stopK x i)
  have h4:=dataR_size hx h hd k (i+4)
  have h5:=showT_size ((x.data.drop i).take (stopK x i - i))
  have h6:((x.data.drop i).take (stopK x i - i)).length≤65536:=by rw [List.length_take,List.length_drop];omega
  unfold dataR
  rw [Nat.succ_mul]
  split
  ·exact Nat.le_trans h0 (Nat.le_add_right _ _)
  ·rw [ba_size]
   generalize (atL x.labels 2 (i:Int)).size=a1 at *
   clear h0 hd
   split
   ·rw [ba_size,ba_size,ba_size,show (⟨#[9,98,121,116,101,115,32]⟩:ByteArray).size=7 from rfl,show (⟨#[10]⟩:ByteArray).size=1 from rfl]
    omega
   ·rw [ba_size,ba_size,ba_size,show (⟨#[9,119,111,114,100,32]⟩:ByteArray).size=6 from rfl,show (⟨#[10]⟩:ByteArray).size=1 from rfl]
    omega
theorem spaceT_size {n:Int} (h:n<4294967296):(spaceT n).size≤28:=by
 have:=decT_size n.toNat (by omega)
 unfold spaceT
 rw [ba_size,ba_size,show (⟨#[9,115,112,97,99,101,32]⟩:ByteArray).size=7 from rfl,show (⟨#[10]⟩:ByteArray).size=1 from rfl]
 omega
theorem zeroR_size {z:Int} (hz:z<4294967296):∀ (L:List LabV) (at_:Int),(∀ l ∈ L,0≤l.at_∧l.at_<4294967296)→0≤at_→(zeroR z L at_).size≤30 * (L.map fun t=>t.name.size+1).sum+28
 | [],at_,_,h0=>by
  unfold zeroR
  split
  ·have:=spaceT_size (n:=z - at_) (by omega)
   omega
  ·rw [e0_size];omega
 | l :: L,at_,h,h0=>by
  have hl:=h l (by simp)
  have h1:=zeroR_size hz L l.at_ (fun b hb=>h b (by simp [hb])) hl.1
  have h2:=zeroR_size hz L at_ (fun b hb=>h b (by simp [hb])) h0
  have h3:=spaceT_size (n:=l.at_ - at_) (by omega)
  unfold zeroR
  simp only [List.map_cons,List.sum_cons]
  split
  ·split
   ·rw [ba_size,ba_size,labLn_size];omega
   ·rw [ba_size,labLn_size];omega
  ·omega
theorem openT_size (l:LabV):(openT l).size≤6 * (l.name.size+1):=by
 unfold openT
 split
 ·rw [ba_size,ba_size,show (⟨#[111,112,101,110,32]⟩:ByteArray).size=5 from rfl,show (⟨#[10]⟩:ByteArray).size=1 from rfl];omega
 ·rw [e0_size];omega
theorem targT_size (t:ByteArray):(targT t).size≤8 * (t.size+1):=by
 unfold targT
 rw [ba_size,ba_size,show (⟨#[116,97,114,103,101,116,32]⟩:ByteArray).size=7 from rfl,show (⟨#[10]⟩:ByteArray).size=1 from rfl];omega
theorem entT_size (t:EntV):(entT t).size≤12 * (t.name.size+t.lab.size+1):=by
 have h1:=showT_size (numsB t.name)
 have h2:(numsB t.name).length=t.name.size:=by
  unfold numsB
  rw [List.length_map]
  rfl
 unfold entT
 rw [ba_size,ba_size,ba_size,ba_size,show (⟨#[101,110,116,114,121,32]⟩:ByteArray).size=6 from rfl,show (⟨#[10]⟩:ByteArray).size=1 from rfl,show (⟨#[44,32]⟩:ByteArray).size=2 from rfl]
 omega
theorem restT_size {x:ObjV} (hx:ObjOk x) (h:SumFit x):(restT x).size≤300000000:=by
 have h1:=cat_le (f:=openT) (l:=x.labels) fun a _=>openT_size a
 have h2:=cat_le (f:=targT) (l:=x.targets) fun a _=>targT_size a
 have h3:=cat_le (f:=entT) (l:=x.entries) fun a _=>entT_size a
 have h4:=h.l
 have h5:=h.t
 have h6:=h.e
 have h7:(stackT x).size≤27:=by
  have:=decT_size x.stack.toNat (by have:=hx.stack;omega)
  unfold stackT
  split
  ·rw [e0_size];omega
  ·rw [ba_size,ba_size,show (⟨#[115,116,97,99,107,32]⟩:ByteArray).size=6 from rfl,show (⟨#[10]⟩:ByteArray).size=1 from rfl];omega
 unfold restT
 rw [ba_size,ba_size,ba_size]
 omega
theorem PrtFit.of {x:ObjV} (hx:ObjOk x) (h:SumFit x) (hb:boundB x=true):PrtFit x:=by
 unfold boundB at hb
 obtain ⟨b1,b2,b3,b4,b5,b6⟩:=of_decide_eq_true hb
 refine ⟨?_,fun i _=>Nat.le_trans (atL_size h 1 i) (by omega),fun i _=>Nat.le_trans (fixT_size hx h 1 i) (by omega),fun i _=>Nat.le_trans (atL_size h 2 i) (by omega),fun i _=>Nat.le_trans (fixT_size hx h 2 i) (by omega)⟩
 have h1:(codeT x).size≤500000000000:=by
  have:=codeR_size hx h x.code.length 0
  unfold codeT
  rw [ba_size,show (⟨#[99,111,100,101,10]⟩:ByteArray).size=5 from rfl]
  omega
 have h2:(dataT x).size≤3000000000000:=by
  have:=dataR_size hx h b2 x.data.length 0
  unfold dataT
  split
  ·rw [e0_size];omega
  ·rw [ba_size,show (⟨#[100,97,116,97,10]⟩:ByteArray).size=5 from rfl];omega
 have h3:(zeroT x).size≤300000000:=by
  have:=zeroR_size hx.zero.2 x.labels 0 (fun l hl=>(hx.labels l hl).2.2) (Int.le_refl _)
  have:=h.l
  unfold zeroT
  split
  ·rw [e0_size];omega
  ·rw [ba_size,show (⟨#[122,101,114,111,10]⟩:ByteArray).size=5 from rfl];omega
 have h4:=restT_size hx h
 unfold bodyT
 rw [ba_size,ba_size,ba_size]
 omega
end Go.Proofs.YtikbegmodacopaaGreatDoor
namespace Go.Proofs.YtikbegmodacopaaGreatDoor
open Go.RowKit Go.PlainAid Go.BigFrame
set_option linter.unusedSimpArgs false
set_option linter.unusedVariables false
set_option maxRecDepth 100000
theorem sum_le_mul {α:Type} {f:α→Nat} {m:Nat}:∀ {l:List α},(∀ a ∈ l,f a≤m)→(l.map f).sum≤l.length * m
 | [],_=>Nat.zero_le _
 | a :: l,h=>by
  have h1:=h a (by simp)
  have h2:=sum_le_mul (l:=l) fun b hb=>h b (by simp [hb])
  rw [List.map_cons,List.sum_cons,List.length_cons,Nat.add_mul]
  omega
theorem oe_parts {x:ImgV} (h:objE x=0):imgChk x=0∧begB x=true∧(plc x).length≤4096:=by
 unfold objE at h
 split at h
 ·exact absurd h (by assumption)
 ·split at h
  ·cases h
  ·split at h
   ·cases h
   ·rename_i h1 h2 h3
    exact ⟨by simpa using h1,by simpa using h2,by omega⟩
theorem fixF_mem {x:ImgV} {n:Nat} {f:FixV} (h:f ∈ fixF x n):∃ (k:Nat) (t:Int × Int),k<n∧x.code[k]?=some t∧f=⟨1,(k:Int),natS t.2,0⟩:=by
 unfold fixF at h
 obtain ⟨k,hk,hf⟩:=List.mem_flatMap.1 h
 rw [List.mem_range] at hk
 cases ht:x.code[k]? with
 | none=>rw [ht] at hf;simp at hf
 | some t =>
  rw [ht] at hf
  dsimp only at hf
  split at hf
  ·exact ⟨k,t,hk,ht,by simpa using hf⟩
  ·simp at hf
theorem nms_size {x:ImgV} (h:nmsB x.names=true):∀ t ∈ x.names,t.name.size≤32:=by
 intro t ht
 obtain ⟨i,hi⟩:=List.mem_iff_getElem?.1 ht
 have h1:=List.all_eq_true.1 h i (List.mem_range.2 (List.getElem?_eq_some_iff.1 hi).1)
 unfold nmOk at h1
 rw [hi] at h1
 dsimp only at h1
 simp only [Bool.and_eq_true,decide_eq_true_eq] at h1
 exact h1.1.2
theorem plc_le {x:ImgV} (hx:ImgOk x) (hb:begB x=true):∀ v ∈ plc x,0≤v∧v≤x.code.length:=fun v h=>allP_le hx hb v ((sortC_mem _ _).1 h)
theorem objOk_of {x:ImgV} (hx:ImgOk x) (h:objE x=0):ObjOk (objO x):=by
 obtain ⟨h1,h2,h3⟩:=oe_parts h
 obtain ⟨⟨l1,l2,l4⟩,l3,hn⟩:=ic_bound hx h1
 have hfl:=fixF_len x x.code.length
 refine ⟨?_,hx.data,hx.zero,hx.stack,?_,?_,?_,?_,?_⟩
 ·intro t ht
  obtain ⟨u,hu,rfl⟩:=List.mem_map.1 ht
  have h5:=hx.code u hu
  unfold codP
  split
  ·exact ⟨h5.1,by dsimp only;omega⟩
  ·exact h5
 ·intro t ht
  obtain ⟨p,hp,rfl⟩:=List.mem_map.1 ht
  have h5:=plc_le hx h2 p hp
  have h6:=natS_size p (by omega)
  refine ⟨by show (natS p).size≤_;omega,by show (0:Int)≤1∧(1:Int)≤255;omega,by show 0≤p∧p<_;omega⟩
 ·intro t ht
  obtain ⟨k,u,hk,hu,rfl⟩:=fixF_mem ht
  have h5:=hx.code u (List.mem_of_getElem? hu)
  have h6:=natS_size u.2 (by omega)
  refine ⟨by show (natS u.2).size≤_;omega,by show (0:Int)≤1∧(1:Int)≤255;omega,by show (0:Int)≤k∧(k:Int)<_;omega,by show (0:Int)≤0∧(0:Int)<_;omega⟩
 ·intro t ht
  obtain ⟨p,hp,rfl⟩:=List.mem_map.1 ht
  have h6:=natS_size p (hx.jumps p hp).2
  omega
 ·intro t ht
  obtain ⟨p,hp,rfl⟩:=List.mem_map.1 ht
  have h6:=natS_size p.at_ (hx.names p hp).2.2
  exact ⟨(hx.names p hp).1,by show (natS p.at_).size≤_;omega⟩
 ·show (x.code.map (codP x.code.length)).length≤_∧x.data.length≤_∧((plc x).map labP).length≤_∧(fixF x x.code.length).length≤_∧(x.jumps.map natS).length≤_∧(x.names.map entP).length≤_
  simp only [List.length_map]
  have:=hx.lens.2.2.1
  omega
theorem sumFit_of {x:ImgV} (hx:ImgOk x) (h:objE x=0):SumFit (objO x):=by
 obtain ⟨h1,h2,h3⟩:=oe_parts h
 obtain ⟨⟨l1,l2,l4⟩,l3,hn⟩:=ic_bound hx h1
 have hfl:=fixF_len x x.code.length
 refine ⟨?_,?_,?_,?_⟩
 ·have:=sum_le_mul (l:=(plc x).map labP) (f:=fun t=>t.name.size+1) (m:=23) fun t ht=>by
   obtain ⟨p,hp,rfl⟩:=List.mem_map.1 ht
   have h5:=plc_le hx h2 p hp
   have h6:=natS_size p (by omega)
   show (natS p).size+1≤23
   omega
  rw [List.length_map] at this
  show (((plc x).map labP).map fun t=>t.name.size+1).sum≤_
  omega
 ·have:=sum_le_mul (l:=fixF x x.code.length) (f:=fun t=>t.name.size+1) (m:=23) fun t ht=>by
   obtain ⟨k,u,hk,hu,rfl⟩:=fixF_mem ht
   have h5:=hx.code u (List.mem_of_getElem? hu)
   have h6:=natS_size u.2 (by omega)
   show (natS u.2).size+1≤23
   omega
  show ((fixF x x.code.length).map fun t=>t.name.size+1).sum≤_
  omega
 ·have:=sum_le_mul (l:=x.jumps.map natS) (f:=fun t=>t.size+1) (m:=23) fun t ht=>by
   obtain ⟨p,hp,rfl⟩:=List.mem_map.1 ht
   have h6:=natS_size p (hx.jumps p hp).2
   show (natS p).size+1≤23
   omega
  rw [List.length_map] at this
  show ((x.jumps.map natS).map fun t=>t.size+1).sum≤_
  omega
 ·have:=sum_le_mul (l:=x.names.map entP) (f:=fun t=>t.name.size+t.lab.size+1) (m:=55) fun t ht=>by
   obtain ⟨p,hp,rfl⟩:=List.mem_map.1 ht
   have h5:=nms_size hn p hp
   have h6:=natS_size p.at_ (hx.names p hp).2.2
   show p.name.size+(natS p.at_).size+1≤55
   omega
  rw [List.length_map] at this
  show ((x.names.map entP).map fun t=>t.name.size+t.lab.size+1).sum≤_
  omega
theorem prtFit_of {x:ImgV} (hx:ImgOk x) (h:objE x=0):okB (objO x)=true→PrtFit (objO x):=fun hk=>PrtFit.of (objOk_of hx h) (sumFit_of hx h) (okB_bound hk)
theorem objR_own {W:World} {B:Nat} {y:ObjV} {s:ObjS} (h:Owns W B (ownO y s)):ObjR W W.heap.size y s:=by
 exact ownO_R h ⟨own_cap (h.at_ (i:=0) rfl),own_cap (h.at_ (i:=1) rfl),own_cap (h.at_ (i:=3) rfl),own_cap (h.at_ (i:=4) rfl),own_cap (h.at_ (i:=2) rfl),own_cap (h.at_ (i:=5) rfl)⟩
theorem obj_cells {W:World} {g:Nat} {y:ObjV} {s:ObjS} (h:Blk W g 36 (objV y s)):W.cell? ⟨g,0,none⟩=some (.slice s.c.A y.code.length s.c.c)∧W.cell? ⟨g,1,none⟩=some (.slice s.d.A y.data.length s.d.c)∧W.cell? ⟨g,2,none⟩=some (.int .u32 y.zero)∧W.cell? ⟨g,3,none⟩=some (.int .u32 y.stack) ∧
  W.cell? ⟨g,4,none⟩=some (.slice s.l.A y.labels.length s.l.c)∧W.cell? ⟨g,5,none⟩=some (.slice s.f.A y.fixes.length s.f.c)∧W.cell? ⟨g,6,none⟩=some (.slice s.t.A y.targets.length s.t.c)∧W.cell? ⟨g,7,none⟩=some (.slice s.e.A y.entries.length s.e.c) :=
 ⟨h.cell 0,h.cell 1,h.cell 2,h.cell 3,h.cell 4,h.cell 5,h.cell 6,h.cell 7⟩
def txtS (x:ImgV):ByteArray:=if objE x=0 then prtS (objO x) else ⟨#[]⟩
def txtE (x:ImgV):Int:=if objE x=0 then prtE (objO x) else objE x
end Go.Proofs.YtikbegmodacopaaGreatDoor
